/- Several texts of this claim in one file. (1) The planner: best, up to its loop. (2) The planner: the contract of best. (3) Plain words: the way that the planner's rests lead. No program in sight. (4) A list of states that a call collects. Nothing of the program is proved here. (5) Contract: Plan. (6) Contract: Plan, where its arguments are in order. (7) Contract: Plan. (8) Least: plain words, and what its closure finds in memory. (9) Least: a round of its closure's loop. (10) Least: the contract of its closure. -/
import Derived.Test.YtlilojpnhmfnaaaBd4
import Derived.Maps.Own
import Derived.WalkLawsBesides
namespace Go.Proofs.Ytlilojpnhmfnaaa
section
set_option linter.unusedVariables false
open Go.RowKit
attribute [local go_sem] Oper.semAt_some

theorem best_out {q : PP} (H : PHyp q) {X : Nat → Prop} {W W' w12 : World} {s : List Int} {kb b8 D : Nat} {t : Array Value} {v0 v1 v2 v3 : Value} (hI : PInv q X W) (hn : BNum q W kb b8 D) (hX : ∀ b, X b → b < W.heap.size) (hon : Only (fun b => b = q.m ∨ W.heap.size ≤ b) W W')
    (hm : Memo W' q.m (fun s v => s.length = q.n ∧ RestV (XL X W.heap.size (D + 4)) W' v (bestV q.f q.to q.bu s))) (hr : RestV (XL X W.heap.size (D + 4)) W' (.agg #[v0, v1, v2, v3]) (bestV q.f q.to q.bu s)) (hO12 : Only (fun b => b = W.heap.size + 1 + 1) W' w12)
    (hO13 : Only (fun b => b = D) w12 (w12.putObj D (.deferred none))) (hdef : w12.heap[D]? = some (.deferred (some []))) (q0 : w12.cell? ⟨W.heap.size + 1 + 1, 0, none⟩ = some v0) (q1 : w12.cell? ⟨W.heap.size + 1 + 1, 1, none⟩ = some v1) (q2 : w12.cell? ⟨W.heap.size + 1 + 1, 2, none⟩ = some v2) (q3 : w12.cell? ⟨W.heap.size + 1 + 1, 3, none⟩ = some v3)
    (ht : t.getD 4 undef = .pointer (some ⟨W.heap.size + 1 + 1, 0, none⟩) := by rfl) :
    bodyPostM Fence.wide 0 Try.prog Try.f49 (BPost q X W s) .ret { tmps := t, defers := [{ target := .collected D, args := #[] }] } w12 := by
  have i1 := hn.i1
  have i2 := hn.i2
  have i3 := hn.i3
  have i4 := hn.i4
  have hO : Only (fun b => b = W.heap.size + 1 + 1 ∨ b = D) W' (w12.putObj D (.deferred none)) := (hO12.mono' (fun i e => .inl e)).trans (hO13.mono' (fun i e => .inr e))
  have honW : Only (fun b => b = q.m ∨ W.heap.size ≤ b) W (w12.putObj D (.deferred none)) := hon.trans (hO.mono' (fun i e => .inr (by omega)))
  have hXL : ∀ b, (b = W.heap.size + 1 + 1 ∨ b = D) → XL X W.heap.size (D + 4) b := fun b e => .inr (by omega)
  have hm13 : Memo (w12.putObj D (.deferred none)) q.m (fun s v => s.length = q.n ∧ RestV X (w12.putObj D (.deferred none)) v (bestV q.f q.to q.bu s)) :=
    hm.mono (hO.block _ hm.lt (by omega)) (fun s v hv => ⟨hv.1, (hv.2.onlyX hO hXL).wide (fun b _ hx => .inl hx)⟩)
  have p0 := hO13.cell q0 (by simp only; omega)
  have p1 := hO13.cell q1 (by simp only; omega)
  have p2 := hO13.cell q2 (by simp only; omega)
  have p3 := hO13.cell q3 (by simp only; omega)
  refine marks_ret1 (v := .agg #[v0, v1, v2, v3]) (D := D) rfl hdef ?_ ⟨_, rfl, (hr.onlyX hO hXL).wide (fun b _ hx => .inl hx), hI.of honW hI.nocS hm13, honW.mono (fun i hi e => by omega)⟩
  have ht' : t[4]?.getD undef = .pointer (some ⟨W.heap.size + 1 + 1, 0, none⟩) := by rw [← ht]; simp
  simp [results, Try.results49, go_sem, p0, p1, p2, p3, ht']

set_option maxRecDepth 100000 in
set_option maxHeartbeats 4000000 in
theorem best_main (q : PP) (H : PHyp q) (X : Nat → Prop) (s : List Int) (W : World) (a : Option Addr) (c : Nat) (hI : PInv q X W) (hs : Ints W a q.n s) (hst : StOk q.f s) (he : ¬ s = q.to) (hna : aboveV q.to s = true) (hX : ∀ b, X b → b < W.heap.size)
    (ih : ∀ (X : Nat → Prop) (x : List Int) (w : World) (ad : Addr) (cx : Nat), stepsB q.f.times s x q.bu = true → x ∈ enum q.f s q.to q.n [] → StOk q.f x → PInv q X w → Ints w (some ad) q.n x → (∀ b, X b → b < w.heap.size) → Calls Try.prog 49 #[.pointer (some ⟨q.bp, 0, none⟩), .slice (some ad) q.n cx] w (BPost q X w x)) :
    Calls Try.prog 49 #[.pointer (some ⟨q.bp, 0, none⟩), .slice a q.n c] W (BPost q X W s) := by
  have hde : Hid (decide (s = q.to) = false) := Lib.hid (by simpa using he)
  have hda := Lib.hid hna
  have HE := Lib.hid he
  have IH := Lib.hid ih
  clear ih
  clear he hna
  have hn1 : 0 < q.n := by have := H.ok.n1; have := H.nt; omega
  have hn6 : q.n ≤ 6 := by have := H.ok.n6; have := H.nt; omega
  have hL := BLoc.start q W a c
  obtain ⟨w3, hw3⟩ : ∃ w3, ((W.alloc (.cells #[.pointer (some ⟨q.bp, 0, none⟩)] 74)).alloc (.cells #[.slice a q.n c] 26)).alloc (.cells #[.int .i64 0, .int .i64 0, .slice none 0 0, .bool false] 79) = w3 := ⟨_, rfl⟩
  rw [hw3] at hL
  have hI3 := hI.gr hL.gr
  have hs3 := hs.gr hL.gr
  have hc2 := hI3.c2
  have b2 := hL.b2
  have b3 := hL.b3
  have heq : ∀ k, Hid (Calls Try.prog 50 #[.slice a q.n c, .slice q.toa q.n q.toc] (w3.drewN k) fun e w' => e = .returned (.bool false) ∧ ∃ m, w' = (w3.drewN k).drewN m) := fun k => Lib.hid (by
    have := equal_any a q.toa q.n c q.n q.toc s q.to (w3.drewN k) (hs3.gr (Gr.drewN _ _)) (hI3.ito.gr (Gr.drewN _ _))
    rw [hde.out] at this
    exact this)
  have HEQ := Lib.hid heq
  clear heq
  refine calls_marks Try.func49 rfl ?_
  simp only [Try.ntmps49, List.size_toArray, List.length_cons, List.length_nil, Nat.reduceAdd, Nat.reduceSub, Array.replicate_succ, Array.replicate_zero, List.push_toArray, List.append_toArray, List.nil_append, List.cons_append]
  go_wp2_with fail
  clear hw3
  go_quiet ((go_at_call 50; exact Calls.quiet_of (HEQ.out _).out))
  obtain ⟨w4, hw4, g4⟩ := drewN_some w3 nq
  rw [hw4]
  clear hw4 b2 b3 hc2
  have hL4 := hL.then g4
  have hI4 := hI3.gr g4
  have hs4 := hs3.gr g4
  clear HEQ hI3 hs3 hL g4
  have hc2 := hI4.c2
  have b2 := hL4.b2
  have b3 := hL4.b3
  have hab : ∀ k, Hid (Calls Try.prog 55 #[.slice q.toa q.n q.toc, .slice a q.n c] (w4.drewN k) fun e w' => e = .returned (.bool true) ∧ ∃ m, w' = (w4.drewN k).drewN m) := fun k => Lib.hid (by
    have := above_any q.toa a q.n q.toc q.n c q.to s (w4.drewN k) (hI4.ito.gr (Gr.drewN _ _)) (hs4.gr (Gr.drewN _ _)) (Nat.le_refl _)
    rw [hda.out] at this
    exact this)
  have HAB := Lib.hid hab
  clear hab
  go_wp2_with fail
  go_quiet ((go_at_call 55; exact Calls.quiet_of (HAB.out _).out))
  obtain ⟨w5, hw5, g5⟩ := drewN_some w4 nq
  rw [hw5]
  clear hw5 b2 b3 hc2
  have hL5 := hL4.then g5
  have hI5 := hI4.gr g5
  have hs5 := hs4.gr g5
  have b3 := hL5.b3
  clear HAB hI4 hs4 hL4 g5
  go_wp2_with (go_at_call 57; refine (keyOf_any _ _ _ _ _ hs5 hn1 hn6).mono ?_; rintro e wk ⟨rfl, g6⟩; unfold keyV; have hz6 := Nat.le_refl wk.heap.size)
  clear b3
  have hK6 := BKey.of (hL5.then g6) (hI5.gr g6) (hs5.gr g6)
  obtain ⟨w6, hw6⟩ : ∃ w6, wk.alloc (.cells #[.int .i64 (s[0]?.getD 0), .int .i64 (s[1]?.getD 0), .int .i64 (s[2]?.getD 0), .int .i64 (s[3]?.getD 0), .int .i64 (s[4]?.getD 0), .int .i64 (s[5]?.getD 0)] 89) = w6 := ⟨_, rfl⟩
  rw [hw6] at hK6 ⊢
  clear hw6
  generalize wk.heap.size = kb at *
  obtain ⟨st, ti, xa, xk, xc, xb, b, hlk, hvb⟩ := best_lookup H hI hst hs.len
  have HLK := Lib.hid hlk
  have HVB := Lib.hid hvb
  have b2 := hK6.loc.b2
  have hc4 := hK6.inv.c4
  clear hlk hvb hL5 hI5 hs5
  refine (wpIn_wide (n := 0)).1 ?_
  refine region_inv (F := Fence.wide) (by kernel_rfl) (by rfl) (by decide) (fun _ => trivial)
    (fun done' u W' => Kn [some (.pointer (some ⟨q.bp, 0, none⟩)), some (.pointer (some ⟨q.bp, 0, none⟩)), some (.pointer (some ⟨q.bp, 4, none⟩)), some (.map (some q.m)), some (.agg #[.int .i64 (s[0]?.getD 0), .int .i64 (s[1]?.getD 0), .int .i64 (s[2]?.getD 0), .int .i64 (s[3]?.getD 0), .int .i64 (s[4]?.getD 0), .int .i64 (s[5]?.getD 0)]), some (.tuple #[.agg #[.int .i64 st, .int .i64 ti, .slice xa xk xc, .bool xb], .bool b]), some (.tuple #[.agg #[.int .i64 st, .int .i64 ti, .slice xa xk xc, .bool xb], .bool b]), some (.agg #[.int .i64 st, .int .i64 ti, .slice xa xk xc, .bool xb]), some (.bool b), some (.pointer (some ⟨w6.heap.size, 0, none⟩)), none, some (.bool b)] done' u ∧ R6 w6 (.int .i64 st) (.int .i64 ti) (.slice xa xk xc) (.bool xb) done' W')
    (fun u => ⟨Kn.start _ _, R6.start w6 (.int .i64 st) (.int .i64 ti) (.slice xa xk xc) (.bool xb)⟩) ⟨?_, ?_, ?_, ?_, ?_, ?_, ?_, ?_, ?_, ?_, ?_, ?_, trivial⟩ ?_
  · rintro u done' W' hd hanc hclo ⟨hk, hR⟩
    have c := (hR.gr.cell (lt_cell b2)).trans b2
    refine op_plain (ro := none) rfl (fun c h => by cases h) fun K hK => ?_
    simp only [fillL, List.setIfInBounds_toArray, List.set_cons_zero, List.set_cons_succ, Nat.zero_add, Nat.reduceAdd] at hK ⊢
    go_simp
    exact hK _ _ ⟨hk.new rfl, hR.quiet (by decide) (by decide)⟩
  · rintro u done' W' hd hanc hclo ⟨hk, hR⟩
    have e0 := hk.get 0 rfl (hanc 0 (mem_of (by kernel_rfl)))
    refine op_plain (ro := none) rfl (fun c h => by cases h) fun K hK => ?_
    simp only [fillL, List.setIfInBounds_toArray, List.set_cons_zero, List.set_cons_succ, Nat.zero_add, Nat.reduceAdd, e0] at hK ⊢
    go_simp
    exact hK _ _ ⟨hk.new rfl, hR.quiet (by decide) (by decide)⟩
  · rintro u done' W' hd hanc hclo ⟨hk, hR⟩
    have e1 := hk.get 1 rfl (hanc 1 (mem_of (by kernel_rfl)))
    refine op_plain (ro := none) rfl (fun c h => by cases h) fun K hK => ?_
    simp only [fillL, List.setIfInBounds_toArray, List.set_cons_zero, List.set_cons_succ, Nat.zero_add, Nat.reduceAdd, e1] at hK ⊢
    go_simp
    exact hK _ _ ⟨hk.new rfl, hR.quiet (by decide) (by decide)⟩
  · rintro u done' W' hd hanc hclo ⟨hk, hR⟩
    have e2 := hk.get 2 rfl (hanc 2 (mem_of (by kernel_rfl)))
    have c := (hR.gr.cell (lt_cell hc4)).trans hc4
    refine op_plain (ro := none) rfl (fun c h => by cases h) fun K hK => ?_
    simp only [fillL, List.setIfInBounds_toArray, List.set_cons_zero, List.set_cons_succ, Nat.zero_add, Nat.reduceAdd, e2] at hK ⊢
    go_simp
    exact hK _ _ ⟨hk.new rfl, hR.quiet (by decide) (by decide)⟩
  · rintro u done' W' hd hanc hclo ⟨hk, hR⟩
    have k0 := (hR.gr.cell (lt_cell hK6.k0)).trans hK6.k0
    have k1 := (hR.gr.cell (lt_cell hK6.k1)).trans hK6.k1
    have k2 := (hR.gr.cell (lt_cell hK6.k2)).trans hK6.k2
    have k3 := (hR.gr.cell (lt_cell hK6.k3)).trans hK6.k3
    have k4 := (hR.gr.cell (lt_cell hK6.k4)).trans hK6.k4
    have k5 := (hR.gr.cell (lt_cell hK6.k5)).trans hK6.k5
    refine op_plain (ro := none) rfl (fun c h => by cases h) fun K hK => ?_
    simp only [fillL, List.setIfInBounds_toArray, List.set_cons_zero, List.set_cons_succ, Nat.zero_add, Nat.reduceAdd] at hK ⊢
    go_simp
    exact hK _ _ ⟨hk.new rfl, hR.quiet (by decide) (by decide)⟩
  · rintro u done' W' hd hanc hclo ⟨hk, hR⟩
    have e3 := hk.get 3 rfl (hanc 3 (mem_of (by kernel_rfl)))
    have e4 := hk.get 4 rfl (hanc 4 (mem_of (by kernel_rfl)))
    have hlk := HLK.out W' ((hK6.loc.gr.trans hR.gr).below.block _ hI.memo.lt)
    refine op_plain (ro := none) rfl (fun c h => by cases h) fun K hK => ?_
    simp only [fillL, List.setIfInBounds_toArray, List.set_cons_zero, List.set_cons_succ, Nat.zero_add, Nat.reduceAdd, e3, e4] at hK ⊢
    go_simp
    exact hK _ _ ⟨hk.new rfl, hR.quiet (by decide) (by decide)⟩
  · rintro u done' W' hd hanc hclo ⟨hk, hR⟩
    have e5 := hk.get 5 rfl (hanc 5 (mem_of (by kernel_rfl)))
    refine op_plain (ro := none) rfl (fun c h => by cases h) fun K hK => ?_
    simp only [fillL, List.setIfInBounds_toArray, List.set_cons_zero, List.set_cons_succ, Nat.zero_add, Nat.reduceAdd, e5] at hK ⊢
    go_simp
    exact hK _ _ ⟨hk.new rfl, hR.quiet (by decide) (by decide)⟩
  · rintro u done' W' hd hanc hclo ⟨hk, hR⟩
    have e6 := hk.get 6 rfl (hanc 6 (mem_of (by kernel_rfl)))
    refine op_plain (ro := none) rfl (fun c h => by cases h) fun K hK => ?_
    simp only [fillL, List.setIfInBounds_toArray, List.set_cons_zero, List.set_cons_succ, Nat.zero_add, Nat.reduceAdd, e6] at hK ⊢
    go_simp
    exact hK _ _ ⟨hk.new rfl, hR.quiet (by decide) (by decide)⟩
  · rintro u done' W' hd hanc hclo ⟨hk, hR⟩
    have e6 := hk.get 6 rfl (hanc 6 (mem_of (by kernel_rfl)))
    refine op_plain (ro := none) rfl (fun c h => by cases h) fun K hK => ?_
    simp only [fillL, List.setIfInBounds_toArray, List.set_cons_zero, List.set_cons_succ, Nat.zero_add, Nat.reduceAdd, e6] at hK ⊢
    go_simp
    exact hK _ _ ⟨hk.new rfl, hR.quiet (by decide) (by decide)⟩
  · rintro u done' W' hd hanc hclo ⟨hk, hR⟩
    have hsz := hR.sz hd
    have h10 : done' 10 = false := not_done hclo hd 10 rfl (by kernel_rfl)
    refine op_plain (ro := none) rfl (fun c h => by cases h) fun K hK => ?_
    simp only [fillL, List.setIfInBounds_toArray, List.set_cons_zero, List.set_cons_succ, Nat.zero_add, Nat.reduceAdd] at hK ⊢
    go_simp
    exact hK _ _ ⟨hk.new rfl, hR.alloc hsz h10⟩
  · rintro u done' W' hd hanc hclo ⟨hk, hR⟩
    have e7 := hk.get 7 rfl (hanc 7 (mem_of (by kernel_rfl)))
    have e9 := hk.get 9 rfl (hanc 9 (mem_of (by kernel_rfl)))
    have h9 := hanc 9 (mem_of (by kernel_rfl))
    obtain ⟨z0, z1, z2, z3⟩ := hR.ce h9 hd
    have fz := hR.fz h9
    have y0 := fz 0
    have y1 := fz 1
    have y2 := fz 2
    have y3 := fz 3
    refine op_plain (ro := none) rfl (fun c h => by cases h) fun K hK => ?_
    simp only [fillL, List.setIfInBounds_toArray, List.set_cons_zero, List.set_cons_succ, Nat.zero_add, Nat.reduceAdd, e7, e9] at hK ⊢
    go_simp
    exact hK undef _ ⟨hk.skip rfl, hR.stored h9 hd⟩
  · rintro u done' W' hd hanc hclo ⟨hk, hR⟩
    have e8 := hk.get 8 rfl (hanc 8 (mem_of (by kernel_rfl)))
    refine op_plain (ro := none) rfl (fun c h => by cases h) fun K hK => ?_
    simp only [fillL, List.setIfInBounds_toArray, List.set_cons_zero, List.set_cons_succ, Nat.zero_add, Nat.reduceAdd, e8] at hK ⊢
    go_simp
    exact hK _ _ ⟨hk.new rfl, hR.quiet (by decide) (by decide)⟩
  · rintro u W' ⟨done', hdn, hk, hR⟩
    have h9 := hdn 9 (by decide)
    obtain ⟨x0, x1, x2, x3⟩ := hR.st (hdn 10 (by decide))
    have hg7 := hR.gr
    have hfz := hR.fz h9
    have e0 := hk.get 0 rfl (hdn 0 (by decide))
    have e1 := hk.get 1 rfl (hdn 1 (by decide))
    have e2 := hk.get 2 rfl (hdn 2 (by decide))
    have e3 := hk.get 3 rfl (hdn 3 (by decide))
    have e4 := hk.get 4 rfl (hdn 4 (by decide))
    have e5 := hk.get 5 rfl (hdn 5 (by decide))
    have e6 := hk.get 6 rfl (hdn 6 (by decide))
    have e7 := hk.get 7 rfl (hdn 7 (by decide))
    have e8 := hk.get 8 rfl (hdn 8 (by decide))
    have e9 := hk.get 9 rfl (hdn 9 (by decide))
    have e11 := hk.get 11 rfl (hdn 11 (by decide))
    simp only [fillL, List.setIfInBounds_toArray, List.set_cons_zero, List.set_cons_succ, Nat.zero_add, Nat.reduceAdd, e0, e1, e2, e3, e4, e5, e6, e7, e8, e9, e11]
    clear hk hR hdn h9 e0 e1 e2 e3 e4 e5 e6 e7 e8 e9 e11
    have hK7 := hK6.then hg7
    clear hg7
    cases b with
    | true =>
      have HR := Lib.hid (HVB.out rfl)
      clear HVB
      have b40 := hK7.loc.b40
      have b41 := hK7.loc.b41
      have b42 := hK7.loc.b42
      have b43 := hK7.loc.b43
      have f40 := hK7.loc.f40
      have f41 := hK7.loc.f41
      have f42 := hK7.loc.f42
      have f43 := hK7.loc.f43
      go_wp2_with fail
      have G := hK7.loc.store
      refine marks_ret0 (v := .agg #[.int .i64 st, .int .i64 ti, .slice xa xk xc, .bool xb]) (by simp [results, Try.results49, go_sem, b40, b41, b42, b43]) rfl
        ⟨_, rfl, HR.out.gr (G _ _ _ _), hI.gr (G _ _ _ _), (G _ _ _ _).only _⟩
    | false =>
      clear HVB x0 x1 x2 x3 hfz HLK
      go_wp2_with fail
      have g8 := Gr.alloc W' (.cells #[.int .i64 0, .int .i64 0, .slice none 0 0, .bool false] 79)
      have hX8 := xcells_new W' (.int .i64 0) (.int .i64 0) (.slice none 0 0) (.bool false)
      have hkb8 : kb < W'.heap.size := lt_cell hK7.k0
      have hK8 := hK7.then g8
      obtain ⟨w8, hw8⟩ : ∃ w8, W'.alloc (.cells #[.int .i64 0, .int .i64 0, .slice none 0 0, .bool false] 79) = w8 := ⟨_, rfl⟩
      rw [hw8] at hK8 hX8 ⊢
      clear hw8 g8 hK7
      obtain ⟨b8, hb8⟩ : ∃ b8, W'.heap.size = b8 := ⟨_, rfl⟩
      rw [hb8] at hX8 hkb8 ⊢
      clear hb8 hK6 hc4 b2
      have b2 := hK8.loc.b2
      have b3 := hK8.loc.b3
      have c0 := hK8.inv.c0
      have c1 := hK8.inv.c1
      have c2 := hK8.inv.c2
      refine (wpIn_wide (n := 0)).1 ?_
      refine region_inv (F := Fence.wide) (by kernel_rfl) (by rfl) (by decide) (fun _ => trivial)
        (fun done' u W' => Kn [some (.pointer (some ⟨q.bp, 0, none⟩)), some (.pointer (some ⟨q.bp, 0, none⟩)), some (.pointer (some ⟨q.bp, 0, none⟩)), some (.agg #[.slice q.ta q.tn q.tc, .slice q.ca q.cn q.cc]), some (.slice a q.n c), some (.pointer (some ⟨q.bp, 0, none⟩)), some (.pointer (some ⟨q.bp, 0, none⟩)), some (.pointer (some ⟨q.bp, 2, none⟩)), some (.slice q.toa q.n q.toc), some (.func (.func 90) #[] #[.pointer (some ⟨w8.heap.size + 1, 0, none⟩), .pointer (some ⟨w8.heap.size, 0, none⟩), .pointer (some ⟨w8.heap.size + 2, 0, none⟩)])] done' u ∧ Tail 9 w8 (fun w9 => w9 = ((w8.drew.alloc (.cells #[.slice q.ta q.tn q.tc, .slice q.ca q.cn q.cc] 25)).alloc (.cells #[.slice a q.n c] 26)).alloc (.cells #[.slice q.toa q.n q.toc] 26)) done' W')
        (fun u => ⟨Kn.start _ _, Tail.start⟩) ⟨?_, ?_, ?_, ?_, ?_, ?_, ?_, ?_, ?_, ?_, trivial⟩ ?_
      · rintro u done' W' hd hanc hclo ⟨hk, hT⟩
        have hg : Gr w8 W' := by rw [hT.before (not_done hclo hd 9 rfl (by kernel_rfl))]; exact Gr.drew _
        have c_b2 := (hg.cell (lt_cell b2)).trans b2
        refine op_plain (ro := none) rfl (fun c h => by cases h) fun K hK => ?_
        simp only [fillL, List.setIfInBounds_toArray, List.set_cons_zero, List.set_cons_succ, Nat.zero_add, Nat.reduceAdd] at hK ⊢
        go_simp
        exact hK _ _ ⟨hk.new rfl, hT.quiet (by decide)⟩
      · rintro u done' W' hd hanc hclo ⟨hk, hT⟩
        have e0 := hk.get 0 rfl (hanc 0 (mem_of (by kernel_rfl)))
        refine op_plain (ro := none) rfl (fun c h => by cases h) fun K hK => ?_
        simp only [fillL, List.setIfInBounds_toArray, List.set_cons_zero, List.set_cons_succ, Nat.zero_add, Nat.reduceAdd, e0] at hK ⊢
        go_simp
        exact hK _ _ ⟨hk.new rfl, hT.quiet (by decide)⟩
      · rintro u done' W' hd hanc hclo ⟨hk, hT⟩
        have e1 := hk.get 1 rfl (hanc 1 (mem_of (by kernel_rfl)))
        refine op_plain (ro := none) rfl (fun c h => by cases h) fun K hK => ?_
        simp only [fillL, List.setIfInBounds_toArray, List.set_cons_zero, List.set_cons_succ, Nat.zero_add, Nat.reduceAdd, e1] at hK ⊢
        go_simp
        exact hK _ _ ⟨hk.new rfl, hT.quiet (by decide)⟩
      · rintro u done' W' hd hanc hclo ⟨hk, hT⟩
        have e2 := hk.get 2 rfl (hanc 2 (mem_of (by kernel_rfl)))
        have hg : Gr w8 W' := by rw [hT.before (not_done hclo hd 9 rfl (by kernel_rfl))]; exact Gr.drew _
        have c_c0 := (hg.cell (lt_cell c0)).trans c0
        have c_c1 := (hg.cell (lt_cell c1)).trans c1
        refine op_plain (ro := none) rfl (fun c h => by cases h) fun K hK => ?_
        simp only [fillL, List.setIfInBounds_toArray, List.set_cons_zero, List.set_cons_succ, Nat.zero_add, Nat.reduceAdd, e2] at hK ⊢
        go_simp
        exact hK _ _ ⟨hk.new rfl, hT.quiet (by decide)⟩
      · rintro u done' W' hd hanc hclo ⟨hk, hT⟩
        have hg : Gr w8 W' := by rw [hT.before (not_done hclo hd 9 rfl (by kernel_rfl))]; exact Gr.drew _
        have c_b3 := (hg.cell (lt_cell b3)).trans b3
        refine op_plain (ro := none) rfl (fun c h => by cases h) fun K hK => ?_
        simp only [fillL, List.setIfInBounds_toArray, List.set_cons_zero, List.set_cons_succ, Nat.zero_add, Nat.reduceAdd] at hK ⊢
        go_simp
        exact hK _ _ ⟨hk.new rfl, hT.quiet (by decide)⟩
      · rintro u done' W' hd hanc hclo ⟨hk, hT⟩
        have hg : Gr w8 W' := by rw [hT.before (not_done hclo hd 9 rfl (by kernel_rfl))]; exact Gr.drew _
        have c_b2 := (hg.cell (lt_cell b2)).trans b2
        refine op_plain (ro := none) rfl (fun c h => by cases h) fun K hK => ?_
        simp only [fillL, List.setIfInBounds_toArray, List.set_cons_zero, List.set_cons_succ, Nat.zero_add, Nat.reduceAdd] at hK ⊢
        go_simp
        exact hK _ _ ⟨hk.new rfl, hT.quiet (by decide)⟩
      · rintro u done' W' hd hanc hclo ⟨hk, hT⟩
        have e5 := hk.get 5 rfl (hanc 5 (mem_of (by kernel_rfl)))
        refine op_plain (ro := none) rfl (fun c h => by cases h) fun K hK => ?_
        simp only [fillL, List.setIfInBounds_toArray, List.set_cons_zero, List.set_cons_succ, Nat.zero_add, Nat.reduceAdd, e5] at hK ⊢
        go_simp
        exact hK _ _ ⟨hk.new rfl, hT.quiet (by decide)⟩
      · rintro u done' W' hd hanc hclo ⟨hk, hT⟩
        have e6 := hk.get 6 rfl (hanc 6 (mem_of (by kernel_rfl)))
        refine op_plain (ro := none) rfl (fun c h => by cases h) fun K hK => ?_
        simp only [fillL, List.setIfInBounds_toArray, List.set_cons_zero, List.set_cons_succ, Nat.zero_add, Nat.reduceAdd, e6] at hK ⊢
        go_simp
        exact hK _ _ ⟨hk.new rfl, hT.quiet (by decide)⟩
      · rintro u done' W' hd hanc hclo ⟨hk, hT⟩
        have e7 := hk.get 7 rfl (hanc 7 (mem_of (by kernel_rfl)))
        have hg : Gr w8 W' := by rw [hT.before (not_done hclo hd 9 rfl (by kernel_rfl))]; exact Gr.drew _
        have c_c2 := (hg.cell (lt_cell c2)).trans c2
        refine op_plain (ro := none) rfl (fun c h => by cases h) fun K hK => ?_
        simp only [fillL, List.setIfInBounds_toArray, List.set_cons_zero, List.set_cons_succ, Nat.zero_add, Nat.reduceAdd, e7] at hK ⊢
        go_simp
        exact hK _ _ ⟨hk.new rfl, hT.quiet (by decide)⟩
      · rintro u done' W' hd hanc hclo ⟨hk, hT⟩
        have e3 := hk.get 3 rfl (hanc 3 (mem_of (by kernel_rfl)))
        have e4 := hk.get 4 rfl (hanc 4 (mem_of (by kernel_rfl)))
        have e8 := hk.get 8 rfl (hanc 8 (mem_of (by kernel_rfl)))
        obtain rfl := hT.before hd
        have HCON := Lib.hid (states_any q.ta q.ca a q.toa q.tn q.tc q.cn q.cc q.n c q.n q.toc w8.drew)
        refine op_plain (ro := none) rfl (fun c h => by cases h) fun K hK => ?_
        simp only [fillL, List.setIfInBounds_toArray, List.set_cons_zero, List.set_cons_succ, Nat.zero_add, Nat.reduceAdd, e3, e4, e8] at hK ⊢
        go_simp
        refine HCON.out.mono ?_
        rintro e w9 ⟨rfl, hw9⟩
        exact hK _ _ ⟨hk.new rfl, Tail.done hw9⟩
      · rintro u W' ⟨done', hdn, hk, hT⟩
        have e0 := hk.get 0 rfl (hdn 0 (by decide))
        have e1 := hk.get 1 rfl (hdn 1 (by decide))
        have e2 := hk.get 2 rfl (hdn 2 (by decide))
        have e3 := hk.get 3 rfl (hdn 3 (by decide))
        have e4 := hk.get 4 rfl (hdn 4 (by decide))
        have e5 := hk.get 5 rfl (hdn 5 (by decide))
        have e6 := hk.get 6 rfl (hdn 6 (by decide))
        have e7 := hk.get 7 rfl (hdn 7 (by decide))
        have e8 := hk.get 8 rfl (hdn 8 (by decide))
        have e9 := hk.get 9 rfl (hdn 9 (by decide))
        simp only [fillL, List.setIfInBounds_toArray, List.set_cons_zero, List.set_cons_succ, Nat.zero_add, Nat.reduceAdd, e0, e1, e2, e3, e4, e5, e6, e7, e8, e9]
        obtain ⟨g9, s9, i0, i1, i2, i3⟩ := NewIter.facts ⟨rfl, hT.after (hdn 9 (by decide))⟩
        clear hk hdn hT e0 e1 e2 e3 e4 e5 e6 e7 e8 e9 b2 b3 c0 c1 c2
        go_wp2_with fail
        have hK9 := (hK8.then (Gr.drew w8)).then g9
        have hX9 := (hX8.gr (Gr.drew w8)).gr g9
        have hB9 : BI q X W s a c kb b8 W'.heap.size [] W' := BI.start hI hK9 hX9
        have l0 := hX9.lt (⟨b8, 0, none⟩, .int .i64 0) (by simp [xcells])
        have hn : BNum q W kb b8 W'.heap.size := ⟨hI.memo.lt, hK8.kge, hkb8, l0⟩
        have hl8 := hX8.lt (⟨b8, 0, none⟩, .int .i64 0) (by simp [xcells])
        have hm8 : q.m < w8.heap.size := by have := hn.i1; have := hn.i2; have := hn.i3; simp only at hl8; omega
        clear hK8 hX8 hX9 s9
        refine range_states (wB := W) (S := fun b => b = q.m ∨ W.heap.size ≤ b) (Y := fun b => b = q.m ∨ b = b8) (f := q.f) (lo := s) (hi := q.to) (n := q.n) (bfr := w8.heap.size + 1) (bfl := w8.heap.size) (bto := w8.heap.size + 2) rfl (hI.base H hs hst) (hK9.loc.gr.only _) ?_ ?_ i2 i0 i1 i3 ?_ ?_ ?_ (BI q X W s a c kb b8 W'.heap.size) (fun _ _ => False) hB9 (fun xs W1 W2 h g => h.keep hn g) (fun _ _ _ h _ => h.elim) ?a1 ?assign ?body ?done (fun _ _ h => h.elim)
        case assign =>
          intro l v w1 K hK
          gi_wp2
          exact hK
        case body =>
          intro pre x ad cx w1 hB _ hx hax hx3 hmem hsx hw
          exact best_round q H X s x W w1 a c kb b8 W'.heap.size cx (W'.heap.size + 1) ad pre _ (by rfl) hI hs hst hn hB hx hax hx3 hsx hX (fun hsb w => IH.out (XL X W.heap.size (W'.heap.size + 4)) x w ad cx hsb hmem hsx)
        case done =>
          intro w10 hB10 hdef
          generalize W'.heap.size = D at *
          have hfv : Hid (bestV q.f q.to q.bu s = foldV q s (enum q.f s q.to q.n [])) := Lib.hid (by rw [bestV_eq (by rw [hs.len, hI.ito.len]), if_neg HE.out, hda.out, hs.len]; rfl)
          have hI10 := hB10.inv hI
          obtain ⟨pa, pk, pc, hl8, hi8, had8⟩ := hB10.best
          have b2 := hB10.loc.at 0 rfl
          have k0 := hB10.loc.at 6 rfl
          have k1 := hB10.loc.at 7 rfl
          have k2 := hB10.loc.at 8 rfl
          have k3 := hB10.loc.at 9 rfl
          have k4 := hB10.loc.at 10 rfl
          have k5 := hB10.loc.at 11 rfl
          have y0 := hl8.at 0 rfl
          have y1 := hl8.at 1 rfl
          have y2 := hl8.at 2 rfl
          have y3 := hl8.at 3 rfl
          have c4 := hI10.c4
          have hrest : RestV (XL X W.heap.size (D + 4)) w10 (.agg #[.int .i64 (foldV q s (enum q.f s q.to q.n [])).steps, .int .i64 (foldV q s (enum q.f s q.to q.n [])).time, .slice pa pk pc, .bool (foldV q s (enum q.f s q.to q.n [])).is]) (bestV q.f q.to q.bu s) := by
            rw [hfv.out]
            refine ⟨pa, pk, pc, rfl, hi8, fun ad e => ⟨fun hx => ?_, (had8 ad e).2⟩⟩
            have h1 := (had8 ad e).1
            have h2 := hn.i1
            rcases hx with hx | hx
            · have := hX _ hx; have := hn.i2; have := hn.i3; have := hn.i4; omega
            · omega
          obtain ⟨o, hrun, hmemo⟩ := memo_store (v := .agg #[.int .i64 (foldV q s (enum q.f s q.to q.n [])).steps, .int .i64 (foldV q s (enum q.f s q.to q.n [])).time, .slice pa pk pc, .bool (foldV q s (enum q.f s q.to q.n [])).is]) Try.underlying75 (hI10.gr (Gr.drew w10)).memo (hst.small H.ok) ⟨hs.len, hrest.gr (Gr.drew w10)⟩
          generalize foldV q s (enum q.f s q.to q.n []) = p at *
          unfold keyV at hrun
          have HRUN := Lib.hid hrun
          clear hrun hfv
          go_wp2_with fail
          refine (wpIn_wide (n := 0)).1 ?_
          refine region_inv (F := Fence.wide) (by kernel_rfl) (by rfl) (by decide) (fun _ => trivial)
            (fun done' u W' => Kn [some (.pointer (some ⟨q.bp, 0, none⟩)), some (.pointer (some ⟨q.bp, 0, none⟩)), some (.pointer (some ⟨q.bp, 4, none⟩)), some (.map (some q.m)), some (.agg #[.int .i64 (s[0]?.getD 0), .int .i64 (s[1]?.getD 0), .int .i64 (s[2]?.getD 0), .int .i64 (s[3]?.getD 0), .int .i64 (s[4]?.getD 0), .int .i64 (s[5]?.getD 0)]), some (.agg #[.int .i64 p.steps, .int .i64 p.time, .slice pa pk pc, .bool p.is]), none] done' u ∧ Tail 6 w10 (fun w11 => w11 = w10.drew.putObj q.m o) done' W')
            (fun u => ⟨Kn.start _ _, Tail.start⟩) ⟨?_, ?_, ?_, ?_, ?_, ?_, ?_, trivial⟩ ?_
          · rintro u done' W' hd hanc hclo ⟨hk, hT⟩
            have hg : Gr w10 W' := by rw [hT.before (not_done hclo hd 6 rfl (by kernel_rfl))]; exact Gr.drew _
            have c_b2 := (hg.cell (lt_cell b2)).trans b2
            refine op_plain (ro := none) rfl (fun c h => by cases h) fun K hK => ?_
            simp only [fillL, List.setIfInBounds_toArray, List.set_cons_zero, List.set_cons_succ, Nat.zero_add, Nat.reduceAdd] at hK ⊢
            go_simp
            exact hK _ _ ⟨hk.new rfl, hT.quiet (by decide)⟩
          · rintro u done' W' hd hanc hclo ⟨hk, hT⟩
            have e0 := hk.get 0 rfl (hanc 0 (mem_of (by kernel_rfl)))
            refine op_plain (ro := none) rfl (fun c h => by cases h) fun K hK => ?_
            simp only [fillL, List.setIfInBounds_toArray, List.set_cons_zero, List.set_cons_succ, Nat.zero_add, Nat.reduceAdd, e0] at hK ⊢
            go_simp
            exact hK _ _ ⟨hk.new rfl, hT.quiet (by decide)⟩
          · rintro u done' W' hd hanc hclo ⟨hk, hT⟩
            have e1 := hk.get 1 rfl (hanc 1 (mem_of (by kernel_rfl)))
            refine op_plain (ro := none) rfl (fun c h => by cases h) fun K hK => ?_
            simp only [fillL, List.setIfInBounds_toArray, List.set_cons_zero, List.set_cons_succ, Nat.zero_add, Nat.reduceAdd, e1] at hK ⊢
            go_simp
            exact hK _ _ ⟨hk.new rfl, hT.quiet (by decide)⟩
          · rintro u done' W' hd hanc hclo ⟨hk, hT⟩
            have e2 := hk.get 2 rfl (hanc 2 (mem_of (by kernel_rfl)))
            have hg : Gr w10 W' := by rw [hT.before (not_done hclo hd 6 rfl (by kernel_rfl))]; exact Gr.drew _
            have c_c4 := (hg.cell (lt_cell c4)).trans c4
            refine op_plain (ro := none) rfl (fun c h => by cases h) fun K hK => ?_
            simp only [fillL, List.setIfInBounds_toArray, List.set_cons_zero, List.set_cons_succ, Nat.zero_add, Nat.reduceAdd, e2] at hK ⊢
            go_simp
            exact hK _ _ ⟨hk.new rfl, hT.quiet (by decide)⟩
          · rintro u done' W' hd hanc hclo ⟨hk, hT⟩
            have hg : Gr w10 W' := by rw [hT.before (not_done hclo hd 6 rfl (by kernel_rfl))]; exact Gr.drew _
            have c_k0 := (hg.cell (lt_cell k0)).trans k0
            have c_k1 := (hg.cell (lt_cell k1)).trans k1
            have c_k2 := (hg.cell (lt_cell k2)).trans k2
            have c_k3 := (hg.cell (lt_cell k3)).trans k3
            have c_k4 := (hg.cell (lt_cell k4)).trans k4
            have c_k5 := (hg.cell (lt_cell k5)).trans k5
            refine op_plain (ro := none) rfl (fun c h => by cases h) fun K hK => ?_
            simp only [fillL, List.setIfInBounds_toArray, List.set_cons_zero, List.set_cons_succ, Nat.zero_add, Nat.reduceAdd] at hK ⊢
            go_simp
            exact hK _ _ ⟨hk.new rfl, hT.quiet (by decide)⟩
          · rintro u done' W' hd hanc hclo ⟨hk, hT⟩
            have hg : Gr w10 W' := by rw [hT.before (not_done hclo hd 6 rfl (by kernel_rfl))]; exact Gr.drew _
            have c_y0 := (hg.cell (lt_cell y0)).trans y0
            have c_y1 := (hg.cell (lt_cell y1)).trans y1
            have c_y2 := (hg.cell (lt_cell y2)).trans y2
            have c_y3 := (hg.cell (lt_cell y3)).trans y3
            refine op_plain (ro := none) rfl (fun c h => by cases h) fun K hK => ?_
            simp only [fillL, List.setIfInBounds_toArray, List.set_cons_zero, List.set_cons_succ, Nat.zero_add, Nat.reduceAdd] at hK ⊢
            go_simp
            exact hK _ _ ⟨hk.new rfl, hT.quiet (by decide)⟩
          · rintro u done' W' hd hanc hclo ⟨hk, hT⟩
            have e3 := hk.get 3 rfl (hanc 3 (mem_of (by kernel_rfl)))
            have e4 := hk.get 4 rfl (hanc 4 (mem_of (by kernel_rfl)))
            have e5 := hk.get 5 rfl (hanc 5 (mem_of (by kernel_rfl)))
            obtain rfl := hT.before hd
            have hrun := HRUN.out
            refine op_plain (ro := none) rfl (fun c h => by cases h) fun K hK => ?_
            simp only [fillL, List.setIfInBounds_toArray, List.set_cons_zero, List.set_cons_succ, Nat.zero_add, Nat.reduceAdd, e3, e4, e5] at hK ⊢
            go_simp
            exact hK undef _ ⟨hk.skip rfl, Tail.done rfl⟩
          · rintro u W' ⟨done', hdn, hk, hT⟩
            have e0 := hk.get 0 rfl (hdn 0 (by decide))
            have e1 := hk.get 1 rfl (hdn 1 (by decide))
            have e2 := hk.get 2 rfl (hdn 2 (by decide))
            have e3 := hk.get 3 rfl (hdn 3 (by decide))
            have e4 := hk.get 4 rfl (hdn 4 (by decide))
            have e5 := hk.get 5 rfl (hdn 5 (by decide))
            simp only [fillL, List.setIfInBounds_toArray, List.set_cons_zero, List.set_cons_succ, Nat.zero_add, Nat.reduceAdd, e0, e1, e2, e3, e4, e5]
            have hw11 := hT.after (hdn 6 (by decide))
            have hO11 : Only (fun b => b = q.m) w10 W' := by rw [hw11]; exact ((Gr.drew w10).only _).trans (putObj_only _ _ _)
            have hm11 : Memo W' q.m (fun s v => s.length = q.n ∧ RestV (XL X W.heap.size (D + 4)) W' v (bestV q.f q.to q.bu s)) := by
              have h1 := hmemo
              rw [← hw11] at h1
              exact h1.mono rfl (fun s v hv => ⟨hv.1, hv.2.only (S := fun b => b = q.m) (by rw [hw11]; exact putObj_only _ _ _) (hI10.gr (Gr.drew w10)).noc⟩)
            have hl11 := hl8.onlyN hO11 hI10.noc
            have hc11 := hB10.loc.onlyN hO11 hI10.noc
            have hD : D < w10.heap.size := (Array.getElem?_eq_some_iff.1 hdef).1
            have hdef11 := (hO11.block D hD (by have := hn.i1; have := hn.i2; have := hn.i3; have := hn.i4; omega)).trans hdef
            have hon11 := hB10.on.trans (hO11.mono' (fun i e => .inl e))
            have hr11 := hrest.only hO11 hI10.noc
            clear hw11 hT hk hdn hmemo HRUN y0 y1 y2 y3 b2 k0 k1 k2 k3 k4 k5 c4 e0 e1 e2 e3 e4 e5
            have y0 := hl11.at 0 rfl
            have y1 := hl11.at 1 rfl
            have y2 := hl11.at 2 rfl
            have y3 := hl11.at 3 rfl
            have r0 := hc11.at 2 rfl
            have r1 := hc11.at 3 rfl
            have r2 := hc11.at 4 rfl
            have r3 := hc11.at 5 rfl
            have f0 := hc11.fr 2 rfl
            have f1 := hc11.fr 3 rfl
            have f2 := hc11.fr 4 rfl
            have f3 := hc11.fr 5 rfl
            go_wp2_with fail
            obtain ⟨w12, hw12⟩ : ∃ w12, (((W'.setCell ⟨W.heap.size + 1 + 1, 0, none⟩ (.int .i64 p.steps)).setCell ⟨W.heap.size + 1 + 1, 1, none⟩ (.int .i64 p.time)).setCell ⟨W.heap.size + 1 + 1, 2, none⟩ (.slice pa pk pc)).setCell ⟨W.heap.size + 1 + 1, 3, none⟩ (.bool p.is) = w12 := ⟨_, rfl⟩
            rw [hw12]
            obtain ⟨q0, q1, q2, q3, _, hsz12, hoth⟩ := setCell4 r0 r1 r2 r3 _ _ _ _ w12 hw12.symm
            have hO12 : Only (fun b => b = W.heap.size + 1 + 1) W' w12 := by
              rw [← hw12]
              exact (((Only.refl (fun b => b = W.heap.size + 1 + 1) W').setCell (p := ⟨W.heap.size + 1 + 1, 0, none⟩) (.inl rfl) _).setCell (p := ⟨W.heap.size + 1 + 1, 1, none⟩) (.inl rfl) _).setCell (p := ⟨W.heap.size + 1 + 1, 2, none⟩) (.inl rfl) _ |>.setCell (p := ⟨W.heap.size + 1 + 1, 3, none⟩) (.inl rfl) _
            clear hw12
            have hdef12 := (hoth D (by have := hn.i2; have := hn.i3; have := hn.i4; omega)).trans hdef11
            have hO13 := putObj_only w12 D (.deferred none)
            exact best_out H hI hn hX hon11 hm11 hr11 hO12 hO13 hdef12 q0 q1 q2 q3
        
        all_goals first | (intro b h; have := hn.i1; have := hn.i2; have := hn.i3; have := hn.i4; omega) | (have := hn.i1; have := hn.i2; have := hn.i3; have := hn.i4; simp only at hl8; omega)
end
section
open Go.RowKit

theorem best_any (q : PP) (H : PHyp q) : ∀ (k : Nat) (X : Nat → Prop) (s : List Int) (W : World) (a : Option Addr) (c : Nat), gap s q.to ≤ k → StOk q.f s → PInv q X W → Ints W a q.n s → (∀ b, X b → b < W.heap.size) →
    Calls Try.prog 49 #[.pointer (some ⟨q.bp, 0, none⟩), .slice a q.n c] W (BPost q X W s) := by
  intro k
  induction k with
  | zero =>
    intro X s W a c hk hst hI hs hX
    by_cases he : s = q.to
    · exact best_end q H X s W a c hI hs he
    · cases hna : aboveV q.to s with
      | false => exact best_not q H X s W a c hI hs he hna
      | true => exact absurd (above_gap_zero (by rw [hs.len, hI.ito.len]) hna (by omega)) he
  | succ k ih =>
    intro X s W a c hk hst hI hs hX
    by_cases he : s = q.to
    · exact best_end q H X s W a c hI hs he
    · cases hna : aboveV q.to s with
      | false => exact best_not q H X s W a c hI hs he hna
      | true =>
        refine best_main q H X s W a c hI hs hst he hna hX (fun X x w ad cx hsb hmem hsx hIw hxw hXw => ?_)
        rw [← hs.len] at hmem
        have hb := (enum_between hmem).1
        have hlt := gap_lt (hl := by rw [hs.len, hI.ito.len]) hb (stepsB_true hsb).2.1
        exact ih X x w (some ad) cx (by omega) hsx hIw hxw hXw
end
section
theorem fold_is {T : List (List Int)} {bu : Int} {s : List Int} {rec : List Int → Rs} : ∀ (l : List (List Int)) (b : Rs) (L : List (List Int)), (∀ x ∈ l, x ∈ L) → (b.is = true → b.nxt ∈ L ∧ stepsB T s b.nxt bu = true ∧ (rec b.nxt).is = true) →
    (l.foldl (bestStep T bu s rec) b).is = true → (l.foldl (bestStep T bu s rec) b).nxt ∈ L ∧ stepsB T s (l.foldl (bestStep T bu s rec) b).nxt bu = true ∧ (rec (l.foldl (bestStep T bu s rec) b).nxt).is = true := by
  intro l
  induction l with
  | nil => intro b L _ hb h; exact hb h
  | cons x l ih =>
    intro b L hl hb h
    refine ih _ L (fun y hy => hl y (by simp [hy])) (fun hi => ?_) h
    unfold bestStep at hi ⊢
    cases hs : stepsB T s x bu with
    | false => simp only [hs] at hi ⊢; exact hb (by simpa using hi)
    | true =>
      simp only [hs, if_true] at hi ⊢
      cases hr : (rec x).is with
      | false => simp only [hr] at hi ⊢; exact hb (by simpa using hi)
      | true =>
        simp only [hr, if_true] at hi ⊢
        split
        · exact ⟨hl x (by simp), hs, hr⟩
        · rename_i hc
          rw [if_neg hc] at hi
          exact hb hi

theorem bestV_next {f : Fl} {to : List Int} {bu : Int} {s : List Int} (hl : s.length = to.length) (hne : s ≠ to) (h : (bestV f to bu s).is = true) :
    (bestV f to bu s).nxt ∈ enum f s to s.length [] ∧ stepsB f.times s (bestV f to bu s).nxt bu = true ∧ (bestV f to bu (bestV f to bu s).nxt).is = true := by
  have he := bestV_eq (f := f) (bu := bu) hl
  rw [if_neg hne] at he
  cases ha : aboveV to s with
  | false => rw [ha] at he; simp at he; rw [he] at h; simp [Rs.no] at h
  | true =>
    rw [ha, if_pos rfl] at he
    rw [he] at h ⊢
    exact fold_is (L := enum f s to s.length []) _ Rs.no (fun _ hx => hx) (fun h => by simp [Rs.no] at h) h

def pathF (f : Fl) (to : List Int) (bu : Int) : Nat → List Int → List (List Int)
  | 0, _ => []
  | k + 1, s => if s = to then [] else (bestV f to bu s).nxt :: pathF f to bu k (bestV f to bu s).nxt
/-- the states of the plan from s on -/
def pathV (f : Fl) (to : List Int) (bu : Int) (s : List Int) : List (List Int) := pathF f to bu (gap s to) s

theorem next_gap {f : Fl} {to : List Int} {bu : Int} {s : List Int} (hl : s.length = to.length) (hne : s ≠ to) (h : (bestV f to bu s).is = true) : gap (bestV f to bu s).nxt to < gap s to ∧ (bestV f to bu s).nxt.length = to.length := by
  obtain ⟨h1, h2, _⟩ := bestV_next hl hne h
  have hb := (enum_between h1).1
  exact ⟨gap_lt (hl := hl) hb (stepsB_true h2).2.1, by rw [hb.len, hl]⟩

theorem pathF_fuel {f : Fl} {to : List Int} {bu : Int} : ∀ (k k' : Nat) (s : List Int), s.length = to.length → (bestV f to bu s).is = true → gap s to ≤ k → gap s to ≤ k' → pathF f to bu k s = pathF f to bu k' s := by
  intro k
  induction k with
  | zero =>
    intro k' s hl hi h0 _
    cases k' with
    | zero => rfl
    | succ k' =>
      simp only [pathF]
      by_cases hs : s = to
      · simp [hs]
      · have := next_gap hl hs hi; omega
  | succ k ih =>
    intro k' s hl hi h0 h1
    by_cases hs : s = to
    · cases k' <;> simp [pathF, hs]
    · have hg := next_gap hl hs hi
      cases k' with
      | zero => omega
      | succ k' =>
        simp only [pathF, if_neg hs]
        rw [ih k' _ hg.2 (bestV_next hl hs hi).2.2 (by omega) (by omega)]

theorem pathV_end (f : Fl) (to : List Int) (bu : Int) : pathV f to bu to = [] := by
  unfold pathV; cases gap to to <;> simp [pathF]
theorem pathV_step {f : Fl} {to : List Int} {bu : Int} {s : List Int} (hl : s.length = to.length) (hne : s ≠ to) (h : (bestV f to bu s).is = true) : pathV f to bu s = (bestV f to bu s).nxt :: pathV f to bu (bestV f to bu s).nxt := by
  have hg := next_gap hl hne h
  unfold pathV
  cases hk : gap s to with
  | zero => omega
  | succ k =>
    rw [hk] at hg
    simp only [pathF, if_neg hne]
    rw [pathF_fuel k (gap (bestV f to bu s).nxt to) _ hg.2 (bestV_next hl hne h).2.2 (by omega) (Nat.le_refl _)]

theorem pathF_len (f : Fl) (to : List Int) (bu : Int) : ∀ k s, (pathF f to bu k s).length ≤ k := by
  intro k
  induction k with
  | zero => intro s; simp [pathF]
  | succ k ih => intro s; simp only [pathF]; split <;> simp; exact ih _

/-- what Plan returns: the plan, and the error -/
def planE (f : Fl) (a b : List Int) (bu : Int) : Int := if plannedE f a b bu = 0 then (if (bestV f b bu a).is then 0 else 112) else plannedE f a b bu
def planV (f : Fl) (a b : List Int) (bu : Int) : List (List Int) := if planE f a b bu = 0 then pathV f b bu a else []
end
section
open Go.RowKit

theorem Try.info26 : (Try.prog.info? 26).map (fun i => (i.zero, i.size, i.bytes)) = some (some (.slice none 0 0), 1, 24) := by kernel_rfl

theorem only_grown {w w' : World} {row : Option Nat} (h : w.grownBy w' row) : Only (fun b => row = some b) w w' := by
  obtain ⟨h1, h2, h3, h4, h5⟩ := h
  exact ⟨h1, h2, h3, h4, fun b hb hn => h5 b hb (fun e => hn e.symm)⟩

/-- the slice v, of the call's own, holds slices that hold the lists L -/
def OutR (w : World) (B : Nat) (v : Value) (L : List (List Int)) : Prop :=
  ∃ xs : List Value, w.ownsRow B 26 1 v L.length xs ∧ ∀ j, j < L.length → ∃ ad n c, xs[j]? = some (.slice (some ad) n c) ∧ Ints w (some ad) n (L[j]?.getD []) ∧ Is3 w ad.block

theorem OutR.nil (w : World) (B : Nat) : OutR w B (.slice none 0 0) [] := ⟨[], World.ownsRow_nil w B 26 1, fun j hj => by simp at hj⟩

theorem ownsRow_only {S : Nat → Prop} {w w' : World} {B e size n : Nat} {v : Value} {xs : List Value} (h : w.ownsRow B e size v n xs) (g : Only S w w') (hs : NoCells S w) : w'.ownsRow B e size v n xs := by
  refine ⟨h.1, ?_⟩
  rcases h.2 with h2 | ⟨b, cap, cur, h1, h2, h3, h4⟩
  · exact .inl h2
  · exact .inr ⟨b, cap, cur, h1, h2, (g.block b (Array.getElem?_eq_some_iff.1 h3).1 (fun hS => hs b _ _ _ hS h3)).trans h3, h4⟩
theorem OutR.only {S : Nat → Prop} {w w' : World} {B : Nat} {v : Value} {L : List (List Int)} (h : OutR w B v L) (g : Only S w w') (hs : NoCells S w) : OutR w' B v L := by
  obtain ⟨xs, h1, h2⟩ := h
  refine ⟨xs, ownsRow_only h1 g hs, fun j hj => ?_⟩
  obtain ⟨ad, n, c, k1, k2, k3⟩ := h2 j hj
  exact ⟨ad, n, c, k1, k2.only g hs, k3.onlyN g hs⟩
theorem noc_none (w : World) : NoCells (fun _ => False) w := fun _ _ _ _ h => h.elim
theorem OutR.gr {w w' : World} {B : Nat} {v : Value} {L : List (List Int)} (h : OutR w B v L) (g : Gr w w') : OutR w' B v L := h.only (g.only (fun _ => False)) (noc_none w)

/-- the block of the slice holds slices, no numbers -/
theorem own_block {w : World} {B n : Nat} {v : Value} {xs : List Value} (h : w.ownsRow B 26 1 v n xs) {b : Nat} (hb : v.ownBlock = some b) : B ≤ b ∧ ¬ Is3 w b := by
  rcases h.2 with ⟨rfl, _⟩ | ⟨g, cap, cur, rfl, h2, h3, _⟩
  · simp [Value.ownBlock] at hb
  · simp [Value.ownBlock] at hb
    subst hb
    refine ⟨h2, fun h => ?_⟩
    obtain ⟨c2, fr, h4⟩ := h
    rw [h3] at h4
    injection h4 with h4
    injection h4 with _ h5
    cases h5

theorem OutR.push {w w1 : World} {B : Nat} {v v' : Value} {L : List (List Int)} {xs : List Value} {ad : Addr} {n c : Nat} {x : List Int} (h1 : w.ownsRow B 26 1 v L.length xs)
    (h2 : ∀ j, j < L.length → ∃ ad n c, xs[j]? = some (.slice (some ad) n c) ∧ Ints w (some ad) n (L[j]?.getD []) ∧ Is3 w ad.block) (hx : Ints w (some ad) n x) (h3 : Is3 w ad.block)
    (hown : w1.ownsRow B 26 1 v' (L.length + 1) (xs ++ [.slice (some ad) n c])) (hgrow : w.grownBy w1 v.ownBlock) : OutR w1 B v' (L ++ [x]) := by
  have hO := only_grown hgrow
  have hb : ∀ ad' : Addr, Is3 w ad'.block → ¬ (v.ownBlock = some ad'.block) := fun ad' h e => (own_block h1 e).2 h
  refine ⟨_, by simpa using hown, fun j hj => ?_⟩
  have hxl : xs.length = L.length := by simpa using h1.1
  by_cases e : j = L.length
  · subst e
    refine ⟨ad, n, c, by rw [← hxl]; simp, ?_, h3.only hO (hb ad h3)⟩
    have hxx : (L ++ [x])[L.length]?.getD [] = x := by simp
    rw [hxx]
    exact hx.onlyAt hO (fun ad' e => by cases e; exact hb ad h3)
  · have hj' : j < L.length := by simp at hj; omega
    obtain ⟨ad', n', c', k1, k2, k3⟩ := h2 j hj'
    refine ⟨ad', n', c', by rw [List.getElem?_append_left (by omega)]; exact k1, ?_, k3.only hO (hb ad' k3)⟩
    rw [List.getElem?_append_left hj']
    exact k2.onlyAt hO (fun ad2 e => by cases e; exact hb ad' k3)

theorem OutR.rows {w : World} {B : Nat} {v : Value} {L : List (List Int)} (h : OutR w B v L) (hl : L.length < 1152921504606846976) : ∃ a c, v = .slice a L.length c ∧ RowsAt w a L.length L ∧ L.length ≤ c := by
  obtain ⟨xs, h1, h2⟩ := h
  rcases h1.2 with ⟨rfl, h0⟩ | ⟨g, cap, cur, rfl, _, h3, hnc, _⟩
  · exact ⟨none, 0, by rw [h0], ⟨rfl, hl, fun j hj => by omega⟩, by omega⟩
  · refine ⟨some ⟨g, 0, none⟩, cap, rfl, ⟨rfl, hl, fun j hj => ?_⟩, hnc⟩
    obtain ⟨ad, n, c, k1, k2, _⟩ := h2 j hj
    exact ⟨⟨g, 0, none⟩, some ad, n, c, rfl, (Array.getElem?_eq_some_iff.1 h3).1, h1.cells (g := g) rfl j _ k1, k2⟩
end
section
open Go.RowKit

def PlanPost (w : World) (L : List (List Int)) (code : Int) (e : Ending) (w' : World) : Prop := ∃ ra rn rc, e = .returned (.tuple #[.slice ra rn rc, .int .i64 code]) ∧ RowsAt w' ra rn L ∧ Gr w w' ∧ rn ≤ rc

theorem RowsAt.nil (w : World) : RowsAt w none 0 [] := ⟨rfl, by omega, fun j hj => by omega⟩

/-- the two boxes ahead of begin -/
structure PB (w w2 : World) (va vb vc vd : Value) : Prop where
  gr : Gr w w2
  c0 : w2.cell? ⟨w.heap.size, 0, none⟩ = some va
  c1 : w2.cell? ⟨w.heap.size, 1, none⟩ = some vb
  d0 : w2.cell? ⟨w.heap.size + 1, 0, none⟩ = some vc
  d1 : w2.cell? ⟨w.heap.size + 1, 1, none⟩ = some vd
  sz : w.heap.size + 1 < w2.heap.size
theorem pb (w : World) (va vb vc vd : Value) : PB w ((w.alloc (.cells #[va, vb] 25)).alloc (.cells #[vc, vd] 26)) va vb vc vd := by
  have s1 : (w.alloc (.cells #[va, vb] 25)).heap.size = w.heap.size + 1 := by simp
  have g := Gr.alloc (w.alloc (.cells #[va, vb] 25)) (.cells #[vc, vd] 26)
  refine ⟨(Gr.alloc _ _).allocR _, (g.cell (by simp)).trans (cell_new rfl), (g.cell (by simp)).trans (cell_new rfl), ?_, ?_, by simp⟩
  · rw [← s1]; exact cell_new rfl
  · rw [← s1]; exact cell_new rfl

/-- the loop of Plan: what holds at its head -/
structure PlanR (q : PP) (W1 : World) (from_ : List Int) (cur : List Int) (done : List (List Int)) (sv v : Value) (wr : World) : Prop where
  on : Only (fun b => b = q.m ∨ W1.heap.size ≤ b) W1 wr
  memo : Memo wr q.m (fun s v => s.length = q.n ∧ RestV (fun _ => False) wr v (bestV q.f q.to q.bu s))
  out : OutR wr W1.heap.size v done
  sa : ∃ a c, sv = .slice a q.n c ∧ Ints wr a q.n cur ∧ ∀ ad, a = some ad → ad.block < W1.heap.size ∨ Is3 wr ad.block
  st : StOk q.f cur
  is : (bestV q.f q.to q.bu cur).is = true
  tot : done ++ pathV q.f q.to q.bu cur = pathV q.f q.to q.bu from_

theorem PlanR.inv {q : PP} {W1 wr : World} {fr cur : List Int} {done : List (List Int)} {sv v : Value} (h : PlanR q W1 fr cur done sv v wr) (hI : PInv q (fun _ => False) W1) : PInv q (fun _ => False) wr := hI.of h.on hI.nocS h.memo

theorem PlanR.gr {q : PP} {W1 wr w' : World} {fr cur : List Int} {done : List (List Int)} {sv v : Value} (h : PlanR q W1 fr cur done sv v wr) (g : Gr wr w') : PlanR q W1 fr cur done sv v w' := by
  refine ⟨h.on.thenGr g, h.memo.mono (g.below.block _ h.memo.lt) (fun s v hv => ⟨hv.1, hv.2.gr g⟩), h.out.gr g, ?_, h.st, h.is, h.tot⟩
  obtain ⟨a, c, h1, h2, h3⟩ := h.sa
  exact ⟨a, c, h1, h2.gr g, fun ad e => by
    rcases h3 ad e with h | h
    · exact .inl h
    · exact .inr (h.gr g)⟩

theorem beginE_ok {f : Fl} {bu : Int} {a b : List Int} (h : beginE f bu [a, b] = 0) : FlOk f ∧ StOk f a ∧ StOk f b := by
  have hz : statesE f [a, b] = 0 := by
    unfold beginE at h
    by_cases hz : statesE f [a, b] = 0
    · exact hz
    · rw [if_neg hz] at h; exact absurd h hz
  obtain ⟨hchk, hsts⟩ := statesE_zero hz
  exact ⟨chkB_ok hchk, stB_ok (stsB_two hsts).1, stB_ok (stsB_two hsts).2⟩

set_option maxHeartbeats 1000000 in
theorem plan_bad (ta ca a b : Option Addr) (tn tc cn cc n c m d : Nat) (f : Fl) (xs ys : List Int) (bu : Int) (w : World) (hf : FlAt w ta tn ca cn f) (hx : Ints w a n xs) (hy : Ints w b m ys) (he : ¬ plannedE f xs ys bu = 0) :
    Calls Try.prog 17 #[.agg #[.slice ta tn tc, .slice ca cn cc], .slice a n c, .slice b m d, .int .i64 bu] w (PlanPost w [] (plannedE f xs ys bu)) := by
  have h2 := pb w (.slice ta tn tc) (.slice ca cn cc) (.slice a n c) (.slice b m d)
  obtain ⟨w2, hw2⟩ : ∃ w2, (w.alloc (.cells #[.slice ta tn tc, .slice ca cn cc] 25)).alloc (.cells #[.slice a n c, .slice b m d] 26) = w2 := ⟨_, rfl⟩
  rw [hw2] at h2
  have hcon := Lib.hid (begin_any ta ca _ tn tc cn cc 2 2 f bu [xs, ys] w2 (hf.gr h2.gr) (rows2 (c := c) (d := d) h2.sz h2.d0 h2.d1 (hx.gr h2.gr) (hy.gr h2.gr)))
  by_cases hb : beginE f bu [xs, ys] = 0
  · obtain ⟨hok, hsx, hsy⟩ := beginE_ok hb
    have hbb : (beginE f bu [xs, ys] != 0) = false := by simp [hb]
    have HP : Hid (plannedE f xs ys bu = 111) := Lib.hid (by
      unfold plannedE at he ⊢
      rw [if_pos hb] at he ⊢
      split at he
      · exact absurd rfl he
      · rename_i h; rw [if_neg h])
    have hw12 : (worksB f xs && worksB f ys) = false := by
      cases h : (worksB f xs && worksB f ys) with
      | false => rfl
      | true => exact absurd (by unfold plannedE; rw [if_pos hb, h]; rfl) he
    have HB := Lib.hid hb
    clear hb he
    have c0 := h2.c0
    have c1 := h2.c1
    go_enter Try.func17, Try.ntmps17
    go_wp2_with fail
    refine hcon.out.mono ?_
    rintro e w3 ⟨rfl, g3⟩
    clear hw2
    have G3 := h2.gr.trans g3
    have e0 := (g3.cell (lt_cell c0)).trans c0
    have e1 := (g3.cell (lt_cell c1)).trans c1
    have HW := Lib.hid (works_any ta ca a tn tc cn cc n c f xs w3 (hf.gr G3) hok (hx.gr G3) hsx)
    go_wp2_with fail
    refine HW.out.mono ?_
    rintro e w4 ⟨rfl, g4⟩
    have e0' := (g4.cell (lt_cell e0)).trans e0
    have e1' := (g4.cell (lt_cell e1)).trans e1
    cases hwx : worksB f xs with
    | false =>
      go_wp2_with fail
      go_ret2
      exact ⟨none, 0, 0, by rw [HP.out]; rfl, RowsAt.nil _, G3.trans g4, Nat.le_refl _⟩
    | true =>
      have hwy : worksB f ys = false := by rw [hwx] at hw12; simpa using hw12
      have HW2 := Lib.hid (works_any ta ca b tn tc cn cc m d f ys w4 (hf.gr (G3.trans g4)) hok (hy.gr (G3.trans g4)) hsy)
      go_wp2_with fail
      refine HW2.out.mono ?_
      rintro e w5 ⟨rfl, g5⟩
      rw [hwy]
      go_wp2_with fail
      go_ret2
      exact ⟨none, 0, 0, by rw [HP.out]; rfl, RowsAt.nil _, (G3.trans g4).trans g5, Nat.le_refl _⟩
  · have hbb : (beginE f bu [xs, ys] != 0) = true := by simp [hb]
    have HP : Hid (plannedE f xs ys bu = beginE f bu [xs, ys]) := Lib.hid (by unfold plannedE; rw [if_neg hb])
    clear hb he
    go_enter Try.func17, Try.ntmps17
    go_wp2_with fail
    refine hcon.out.mono ?_
    rintro e w3 ⟨rfl, g3⟩
    go_wp2_with fail
    go_ret2
    exact ⟨none, 0, 0, by rw [HP.out]; rfl, RowsAt.nil _, h2.gr.trans g3, Nat.le_refl _⟩
end
section
open Go.RowKit

theorem plannedE_ok {f : Fl} {bu : Int} {a b : List Int} (h : plannedE f a b bu = 0) : beginE f bu [a, b] = 0 ∧ worksB f a = true ∧ worksB f b = true := by
  unfold plannedE at h
  split at h
  · rename_i hb
    split at h
    · rename_i hw
      simp at hw
      exact ⟨hb, hw.1, hw.2⟩
    · simp at h
  · rename_i hb; exact absurd h hb

theorem memo_new (w : World) (G : List Int → Value → Prop) : Memo (w.alloc (.map #[] 0)) w.heap.size G := ⟨#[], 0, World.alloc_heap_new _ _, fun e he => by simp at he, by simp⟩

/-- a new planner -/
theorem planner_new {w : World} {ta ca b : Option Addr} {tn tc cn cc n d : Nat} {f : Fl} {ys : List Int} {bu : Int} (hf : FlAt w ta tn ca cn f) (hy : Ints w b n ys) :
    PInv ⟨w.heap.size + 1, w.heap.size, ta, tn, tc, ca, cn, cc, b, d, n, f, ys, bu⟩ (fun _ => False) ((w.alloc (.map #[] 0)).alloc (.cells #[.slice ta tn tc, .slice ca cn cc, .slice b n d, .int .i64 bu, .map (some w.heap.size)] 77)) := by
  have g2 := (Gr.alloc w (.map #[] 0)).allocR (.cells #[.slice ta tn tc, .slice ca cn cc, .slice b n d, .int .i64 bu, .map (some w.heap.size)] 77)
  have g3 := Gr.alloc (w.alloc (.map #[] 0)) (.cells #[.slice ta tn tc, .slice ca cn cc, .slice b n d, .int .i64 bu, .map (some w.heap.size)] 77)
  have s1 : w.heap.size + 1 = (w.alloc (.map #[] 0)).heap.size := by simp
  have hc : ∀ j v, (#[Value.slice ta tn tc, .slice ca cn cc, .slice b n d, .int .i64 bu, .map (some w.heap.size)] : Array Value)[j]? = some v → ((w.alloc (.map #[] 0)).alloc (.cells #[.slice ta tn tc, .slice ca cn cc, .slice b n d, .int .i64 bu, .map (some w.heap.size)] 77)).cell? ⟨w.heap.size + 1, j, none⟩ = some v := fun j v h => by rw [s1]; exact cell_new h
  exact ⟨hc 0 _ rfl, hc 1 _ rfl, hc 2 _ rfl, hc 3 _ rfl, hc 4 _ rfl, hf.gr g2, hy.gr g2, (memo_new w _).mono (g3.below.block _ (by simp)) (fun _ _ h => h)⟩

theorem Try.field79_3 (w : World) (st ti : Int) (xa : Option Addr) (xk xc : Nat) (xb : Bool) : (Instr.field 79 (.agg #[.int .i64 st, .int .i64 ti, .slice xa xk xc, .bool xb]) 3).run Try.prog w = .ok (.bool xb) w := by kernel_rfl
theorem Try.field79_2 (w : World) (st ti : Int) (xa : Option Addr) (xk xc : Nat) (xb : Bool) : (Instr.field 79 (.agg #[.int .i64 st, .int .i64 ti, .slice xa xk xc, .bool xb]) 2).run Try.prog w = .ok (.slice xa xk xc) w := by kernel_rfl

theorem one_cell (w : World) (v : Value) (t : TypeId) : ∀ j u, [v][j]? = some u → (w.alloc (.cells #[v] t)).cell? ((⟨w.heap.size, 0, none⟩ : Addr).add j) = some u := by
  intro j u hj
  cases j with
  | zero => simp at hj; subst hj; exact cell_new rfl
  | succ j => simp at hj
theorem one_one (ad : Option Addr) (n c : Nat) : ∀ u ∈ [Value.slice ad n c], u.oneCell' = true := by
  intro u hu
  simp at hu
  subst hu
  rfl

def sliceLen : Value → Nat
  | .slice _ k _ => k
  | _ => 0

theorem PlanR.len {q : PP} (H : PHyp q) {W1 wr : World} {fr cur : List Int} {done : List (List Int)} {sv v : Value} (h : PlanR q W1 fr cur done sv v wr) (hfr : StOk q.f fr) : sliceLen v = done.length ∧ done.length + (pathV q.f q.to q.bu cur).length ≤ 18 := by
  constructor
  · obtain ⟨xs, h1, _⟩ := h.out
    rcases h1.2 with ⟨rfl, h0⟩ | ⟨g, cap, cc, rfl, _⟩
    · rw [h0]; rfl
    · rfl
  · have h1 := congrArg List.length h.tot
    rw [List.length_append] at h1
    rw [h1]
    have h2 := pathF_len q.f q.to q.bu (gap fr q.to) fr
    have h3 := gapTo_bd H.ok hfr H.sto q.to.length (by rw [H.sto.len]; exact Nat.le_refl _)
    have h4 := H.ok.n6
    have h5 := H.sto.len
    show (pathF q.f q.to q.bu (gap fr q.to) fr).length ≤ 18
    unfold gap at h2 ⊢
    omega

/-- best has been asked for the next state -/
theorem PlanR.call {q : PP} {W1 wr w' : World} {fr cur : List Int} {done : List (List Int)} {sv v : Value} (h : PlanR q W1 fr cur done sv v wr) (hI : PInv q (fun _ => False) W1) (g : Only (fun b => b = q.m) wr w') (hI' : PInv q (fun _ => False) w') : PlanR q W1 fr cur done sv v w' := by
  have hn := (h.inv hI).noc
  refine ⟨h.on.trans (g.mono' (fun i e => .inl e)), hI'.memo, h.out.only g hn, ?_, h.st, h.is, h.tot⟩
  obtain ⟨a, c, h1, h2, h3⟩ := h.sa
  exact ⟨a, c, h1, h2.only g hn, fun ad e => by
    rcases h3 ad e with h | h
    · exact .inl h
    · exact .inr (h.onlyN g hn)⟩

/-- one state more -/
theorem PlanR.push {q : PP} {W1 wr w' : World} {fr cur nx : List Int} {done : List (List Int)} {sv v v' : Value} {ov : List Value} {na ad : Addr} {nc c : Nat} (h : PlanR q W1 fr cur done sv v wr)
    (h1 : wr.ownsRow W1.heap.size 26 1 v done.length ov) (h2 : ∀ j, j < done.length → ∃ ad n c, ov[j]? = some (.slice (some ad) n c) ∧ Ints wr (some ad) n (done[j]?.getD []) ∧ Is3 wr ad.block)
    (hm : q.m < W1.heap.size) (hna : Ints wr (some na) q.n nx) (hna3 : Is3 wr na.block) (hx : Ints wr (some ad) q.n nx) (hx3 : Is3 wr ad.block)
    (hown : w'.ownsRow W1.heap.size 26 1 v' (done.length + 1) (ov ++ [.slice (some ad) q.n c])) (hgrow : wr.grownBy w' v.ownBlock) (hst : StOk q.f nx) (his : (bestV q.f q.to q.bu nx).is = true)
    (htot : (done ++ [nx]) ++ pathV q.f q.to q.bu nx = pathV q.f q.to q.bu fr) : PlanR q W1 fr nx (done ++ [nx]) (.slice (some na) q.n nc) v' w' := by
  have hO := only_grown hgrow
  have hb : ∀ b, v.ownBlock = some b → W1.heap.size ≤ b ∧ ¬ Is3 wr b := fun b e => own_block h1 e
  refine ⟨h.on.trans (hO.mono' (fun i e => .inr (hb i e).1)), ?_, OutR.push h1 h2 hx hx3 hown hgrow, ⟨some na, nc, rfl, ?_, fun ad' e => ?_⟩, hst, his, htot⟩
  · refine h.memo.mono (hO.block _ h.memo.lt (fun e => by have := (hb _ e).1; omega)) (fun s v hv => ⟨hv.1, ?_⟩)
    obtain ⟨a', k', c', k1, k2, k3⟩ := hv.2
    exact ⟨a', k', c', k1, k2.onlyAt hO (fun ad' e he => (hb _ he).2 (k3 ad' e).2), fun ad' e => ⟨(k3 ad' e).1, (k3 ad' e).2.only hO (fun he => (hb _ he).2 (k3 ad' e).2)⟩⟩
  · exact hna.onlyAt hO (fun ad' e he => by cases e; exact (hb _ he).2 hna3)
  · cases e
    exact .inr (hna3.only hO (fun he => (hb _ he).2 hna3))

set_option maxRecDepth 100000 in
set_option maxHeartbeats 4000000 in
theorem plan_good (ta ca a b : Option Addr) (tn tc cn cc n c d : Nat) (f : Fl) (xs ys : List Int) (bu : Int) (w : World) (hf : FlAt w ta tn ca cn f) (hx : Ints w a n xs) (hy : Ints w b n ys) (he : plannedE f xs ys bu = 0) :
    Calls Try.prog 17 #[.agg #[.slice ta tn tc, .slice ca cn cc], .slice a n c, .slice b n d, .int .i64 bu] w (PlanPost w (planV f xs ys bu) (planE f xs ys bu)) := by
  have h2 := pb w (.slice ta tn tc) (.slice ca cn cc) (.slice a n c) (.slice b n d)
  obtain ⟨w2, hw2⟩ : ∃ w2, (w.alloc (.cells #[.slice ta tn tc, .slice ca cn cc] 25)).alloc (.cells #[.slice a n c, .slice b n d] 26) = w2 := ⟨_, rfl⟩
  rw [hw2] at h2
  have hcon := Lib.hid (begin_any ta ca _ tn tc cn cc 2 2 f bu [xs, ys] w2 (hf.gr h2.gr) (rows2 (c := c) (d := d) h2.sz h2.d0 h2.d1 (hx.gr h2.gr) (hy.gr h2.gr)))
  obtain ⟨hb, hwx, hwy⟩ := plannedE_ok he
  obtain ⟨hok, hsx, hsy⟩ := beginE_ok hb
  have hbb : (beginE f bu [xs, ys] != 0) = false := by simp [hb]
  have HP1 : Hid ((bestV f ys bu xs).is = false → planE f xs ys bu = 112 ∧ planV f xs ys bu = []) := Lib.hid (fun h => by
    have : planE f xs ys bu = 112 := by unfold planE; rw [if_pos he, h]; rfl
    exact ⟨this, by unfold planV; rw [this]; rfl⟩)
  have HP2 : Hid ((bestV f ys bu xs).is = true → planE f xs ys bu = 0 ∧ planV f xs ys bu = pathV f ys bu xs) := Lib.hid (fun h => by
    have : planE f xs ys bu = 0 := by unfold planE; rw [if_pos he, h]; rfl
    exact ⟨this, by unfold planV; rw [this]; rfl⟩)
  have hnt : n = f.times.length := by rw [← hsx.len, hx.len]
  have H : ∀ bp m, PHyp ⟨bp, m, ta, tn, tc, ca, cn, cc, b, d, n, f, ys, bu⟩ := fun bp m => ⟨hok, hsy, hnt⟩
  have hn1 : 0 < n := by have := hok.n1; omega
  have hn6 : n ≤ 6 := by have := hok.n6; omega
  have HNT := Lib.hid hnt
  have HB := Lib.hid hb
  clear hb he hnt
  have c0 := h2.c0
  have c1 := h2.c1
  have hmm := @run_makeMap Try.prog
  have hfl3 := Try.field79_3
  have hfl2 := Try.field79_2
  go_enter Try.func17, Try.ntmps17
  go_wp2_with fail
  refine hcon.out.mono ?_
  rintro e w3 ⟨rfl, g3⟩
  clear hw2
  have G3 := h2.gr.trans g3
  have e0 := (g3.cell (lt_cell c0)).trans c0
  have e1 := (g3.cell (lt_cell c1)).trans c1
  have HW := works_any ta ca a tn tc cn cc n c f xs w3 (hf.gr G3) hok (hx.gr G3) hsx
  rw [hwx] at HW
  have HWh := Lib.hid HW
  clear HW
  go_wp2_with fail
  refine HWh.out.mono ?_
  rintro e w4 ⟨rfl, g4⟩
  have G4 := G3.trans g4
  have HW2 := works_any ta ca b tn tc cn cc n d f ys w4 (hf.gr G4) hok (hy.gr G4) hsy
  rw [hwy] at HW2
  have HW2h := Lib.hid HW2
  clear HW2
  have e0' := (g4.cell (lt_cell e0)).trans e0
  have e1' := (g4.cell (lt_cell e1)).trans e1
  go_wp2_with fail
  refine HW2h.out.mono ?_
  rintro e w5 ⟨rfl, g5⟩
  have G5 := G4.trans g5
  have e0'' := (g5.cell (lt_cell e0')).trans e0'
  have e1'' := (g5.cell (lt_cell e1')).trans e1'
  clear e0 e1 e0' e1' c0 c1 g3 g4 g5 G3 G4 HWh HW2h hcon h2
  have hI := planner_new (tc := tc) (cc := cc) (d := d) (bu := bu) (hf.gr G5) (hy.gr G5)
  have hs1 : ((w5.alloc (.map #[] 0)).alloc (.cells #[.slice ta tn tc, .slice ca cn cc, .slice b n d, .int .i64 bu, .map (some w5.heap.size)] 77)).heap.size = w5.heap.size + 2 := by simp
  have g7 := (Gr.alloc w5 (.map #[] 0)).allocR (.cells #[.slice ta tn tc, .slice ca cn cc, .slice b n d, .int .i64 bu, .map (some w5.heap.size)] 77)
  obtain ⟨W1, hW1⟩ : ∃ W1, (w5.alloc (.map #[] 0)).alloc (.cells #[.slice ta tn tc, .slice ca cn cc, .slice b n d, .int .i64 bu, .map (some w5.heap.size)] 77) = W1 := ⟨_, rfl⟩
  rw [hW1] at hI hs1 g7
  have hx1 := hx.gr (G5.trans g7)
  have HBE := Lib.hid (best_any _ (H (w5.heap.size + 1) w5.heap.size) (gap xs ys) (fun _ => False) xs W1 a c (Nat.le_refl _) hsx hI hx1 (fun _ h => h.elim))
  have HS1 := Lib.hid hs1
  have hmW : w5.heap.size < W1.heap.size := by omega
  clear hs1
  go_wp2_with fail
  refine HBE.out.mono ?_
  rintro e w8 ⟨v, rfl, ⟨ra, rk, rc, rfl, hri, hr3⟩, hI8, hO8⟩
  dsimp only
  have hGW : ∀ w', Only (fun b => b = w5.heap.size ∨ W1.heap.size ≤ b) W1 w' → Gr w w' := fun w' h => (((G5.trans g7).only _).trans h).gr (fun i hi e => by have := G5.size; have := g7.size; omega)
  clear hW1 e0'' e1'' HBE
  cases hbi : (bestV f ys bu xs).is with
  | false =>
    have hp := HP1.out hbi
    have HPP := Lib.hid hp
    clear hp HP1 HP2
    go_wp2_with fail
    go_ret2
    refine ⟨none, 0, 0, by rw [HPP.out.1]; rfl, by rw [HPP.out.2]; exact RowsAt.nil _, hGW _ (hO8.mono' (fun i e => .inl e)), Nat.le_refl _⟩
  | true =>
    have hp := HP2.out hbi
    have HPP := Lib.hid hp
    have hR0 : PlanR ⟨w5.heap.size + 1, w5.heap.size, ta, tn, tc, ca, cn, cc, b, d, n, f, ys, bu⟩ W1 xs xs [] (.slice a n c) (.slice none 0 0) w8 :=
      ⟨hO8.mono' (fun i e => .inl e), hI8.memo, OutR.nil _ _, ⟨a, c, rfl, hx1.only hO8 hI.noc, fun ad e => by
        cases e
        obtain ⟨_, e, hl, _⟩ := hx1.at hn1
        cases e
        exact .inl hl⟩, hsx, hbi, rfl⟩
    have HBI := Lib.hid hbi
    clear hp HP1 HP2 hbi hri hr3 hI8 hO8
    go_wp2_with fail
    go_loopw [12, 8] (fun sv v wr => ∃ cur done, PlanR ⟨w5.heap.size + 1, w5.heap.size, ta, tn, tc, ca, cn, cc, b, d, n, f, ys, bu⟩ W1 xs cur done sv v wr) (fun _ v _ => 18 - sliceLen v)
    case atStart => exact ⟨xs, [], hR0⟩
    case round =>
      obtain ⟨cur, done, hR⟩ := hrel
      obtain ⟨hl1, hl2⟩ := hR.len (H _ _) hsx
      have hIr := hR.inv hI
      have hyr : Ints wr b n ys := hIr.ito
      have hsa := hR.sa
      dsimp only at hsa
      obtain ⟨sa, sc, rfl, hsI, hsB⟩ := hsa
      have HLEN := Lib.hid hl1
      clear hl1
      have hcl : cur.length = ys.length := by rw [hsI.len, hyr.len]
      by_cases hcur : cur = ys
      · have hq1 := equal_any sa b n sc n d cur ys wr hsI hyr
        rw [decide_eq_true hcur] at hq1
        have HEQ := Lib.hid hq1
        clear hq1
        go_wp2_with fail
        refine HEQ.out.mono ?_
        rintro e w9 ⟨rfl, k, rfl⟩
        have hR9 := hR.gr (Gr.drewN wr k)
        obtain ⟨oa, oc, rfl, hrows, hcap⟩ := hR9.out.rows (by omega)
        have hdone : done = pathV f ys bu xs := by have := hR.tot; rw [hcur, pathV_end, List.append_nil] at this; exact this
        have HDN := Lib.hid hdone
        clear hdone
        go_wp2_with fail
        go_ret2
        refine ⟨oa, done.length, oc, by rw [HPP.out.1]; rfl, by rw [HPP.out.2, ← HDN.out]; exact hrows, hGW _ hR9.on, hcap⟩
      · have hq1 := equal_any sa b n sc n d cur ys wr hsI hyr
        rw [decide_eq_false hcur] at hq1
        have HEQ := Lib.hid hq1
        have HCUR := Lib.hid hcur
        clear hq1 hcur
        go_wp2_with fail
        refine HEQ.out.mono ?_
        rintro e w9 ⟨rfl, k, rfl⟩
        have hR9 := hR.gr (Gr.drewN wr k)
        have HBE := Lib.hid (best_any _ (H (w5.heap.size + 1) w5.heap.size) (gap cur ys) (fun _ => False) cur (wr.drewN k) sa sc (Nat.le_refl _) hR.st (hR9.inv hI) (hsI.gr (Gr.drewN wr k)) (fun _ h => h.elim))
        go_wp2_with fail
        refine HBE.out.mono ?_
        rintro e w10 ⟨v10, rfl, ⟨na, nk, nc, rfl, hni, hn3⟩, hI10, hO10⟩
        dsimp only at hni ⊢
        have hR10 := hR9.call hI hO10 hI10
        obtain ⟨hm1, hm2, hm3⟩ := bestV_next hcl HCUR.out hR.is
        have hbt := (enum_between hm1).1
        have hsn : StOk f (bestV f ys bu cur).nxt := hR.st.btw hsy hbt
        have hnk : nk = n := by rw [← hni.len, hbt.len, hsI.len]
        subst hnk
        obtain ⟨na, rfl, _, _⟩ := hni.at hn1
        have hna3 := (hn3 na rfl).2
        have htot : Hid ((done ++ [(bestV f ys bu cur).nxt]) ++ pathV f ys bu (bestV f ys bu cur).nxt = pathV f ys bu xs) := Lib.hid (by
          have := hR.tot
          dsimp only at this
          rw [pathV_step hcl HCUR.out hR.is] at this
          rw [← this]; simp)
        have hpl : 1 ≤ (pathV f ys bu cur).length := by rw [pathV_step hcl HCUR.out hR.is]; simp
        have HCL := Lib.hid (clone_any (some na) nk nc (bestV f ys bu cur).nxt w10 hni hn1 (by omega))
        have HM3 := Lib.hid hm3
        have HSN := Lib.hid hsn
        clear hR9 hR hIr hsI hyr hcl hI10 hO10 HBE HEQ hm1 hm2 hm3 hbt hsn hn3 hsB
        generalize (bestV f ys bu cur).nxt = nx at *
        go_wp2_with fail
        refine HCL.out.mono ?_
        rintro e w11 ⟨g, gc, rfl, hge, hgi, hg11, hg3⟩
        rw [hni.len] at hgi ⊢
        have hR11 := hR10.gr (hg11.allocR (.cells #[.slice (some ⟨g, 0, none⟩) nk gc] 26))
        have hna' := hni.gr (hg11.allocR (.cells #[.slice (some ⟨g, 0, none⟩) nk gc] 26))
        have hna3' := hna3.gr (hg11.allocR (.cells #[.slice (some ⟨g, 0, none⟩) nk gc] 26))
        have hgi' := hgi.gr (Gr.alloc w11 (.cells #[.slice (some ⟨g, 0, none⟩) nk gc] 26))
        have hg3' := hg3.gr (Gr.alloc w11 (.cells #[.slice (some ⟨g, 0, none⟩) nk gc] 26))
        obtain ⟨ov, hown, hrw⟩ := hR11.out
        have HOWN := Lib.hid hown
        have HRW := Lib.hid hrw
        have hszW := hR11.on.size
        obtain ⟨i0, hi, hz0, hz1, hz2⟩ := info_parts Try.info26
        have hc3 : done.length + 1 ≤ maxLen := by unfold maxLen; omega
        have hc4 : (done.length + 1) * 24 ≤ 140737488355328 := by omega
        clear hown hrw hR10 hni hna3 hgi hg3 HCL
        go_wp2_with (at_builtin; refine wpList_append_own _ rfl _ _ 22 rfl W1.heap.size 26 i0 (.slice none 0 0) 1 24 Try.underlying22 hi hz0 hz1 hz2 rfl (by decide) _ _ _ rfl HOWN.out ⟨w11.heap.size, 0, none⟩ 1 1 [.slice (some ⟨g, 0, none⟩) nk gc] rfl rfl (one_cell _ _ _) (one_one _ _ _) hc3 hc4 hszW ?_; intro v' w12 hown' hgrow _)
        have hR12 := hR11.push (nc := nc) HOWN.out HRW.out hmW hna' hna3' hgi' hg3' hown' hgrow HSN.out HM3.out htot.out
        have hl12 := Lib.hid (hR12.len (H _ _) hsx).1
        clear hown' hgrow HOWN HRW hR11 hna' hna3' hgi' hg3'
        go_wp2_with fail
        go_roundw
        case rel => exact ⟨nx, done ++ [nx], hR12⟩
        case measure =>
          have h1 := HLEN.out
          have h2 := hl12.out
          simp at h2
          simp
          omega
end
section
open Go.RowKit

theorem plan_any (ta ca a b : Option Addr) (tn tc cn cc n c m d : Nat) (f : Fl) (xs ys : List Int) (bu : Int) (w : World) (hf : FlAt w ta tn ca cn f) (hx : Ints w a n xs) (hy : Ints w b m ys) :
    Calls Try.prog 17 #[.agg #[.slice ta tn tc, .slice ca cn cc], .slice a n c, .slice b m d, .int .i64 bu] w (PlanPost w (planV f xs ys bu) (planE f xs ys bu)) := by
  by_cases he : plannedE f xs ys bu = 0
  · obtain ⟨hb, _, _⟩ := plannedE_ok he
    obtain ⟨_, hsx, hsy⟩ := beginE_ok hb
    obtain rfl : n = m := by rw [← hx.len, ← hy.len, hsx.len, hsy.len]
    exact plan_good ta ca a b tn tc cn cc n c d f xs ys bu w hf hx hy he
  · have h1 : planE f xs ys bu = plannedE f xs ys bu := by unfold planE; rw [if_neg he]
    have h2 : planV f xs ys bu = [] := by unfold planV; rw [h1, if_neg he]
    rw [h1, h2]
    exact plan_bad ta ca a b tn tc cn cc n c m d f xs ys bu w hf hx hy he
end
section
set_option linter.unusedVariables false
open Go.RowKit

def leastStep (T : List (List Int)) (s : List Int) (rec : List Int → Int) (best : Int) (s' : List Int) : Int :=
  if 0 < dur T s s' ∧ dur T s s' < best then min best (max (dur T s s') (rec s')) else best
def leastF (f : Fl) (to : List Int) : Nat → List Int → Int
  | 0, _ => 0
  | k + 1, s => if s = to then 0 else (enum f s to s.length []).foldl (leastStep f.times s (leastF f to k)) (dur f.times s to)
def leastV (f : Fl) (to s : List Int) : Int := leastF f to (gap s to) s

theorem leastStep_congr {T : List (List Int)} {s s' : List Int} {r r' : List Int → Int} (h : 0 < dur T s s' → r s' = r' s') (b : Int) : leastStep T s r b s' = leastStep T s r' b s' := by
  unfold leastStep
  by_cases hc : 0 < dur T s s' ∧ dur T s s' < b
  · rw [if_pos hc, if_pos hc, h hc.1]
  · rw [if_neg hc, if_neg hc]

theorem dur_self (T : List (List Int)) (s : List Int) : dur T s s = 0 := by
  unfold dur
  have : ∀ k, durTo T s s k = 0 := by
    intro k
    induction k with
    | zero => rfl
    | succ k ih => simp [durTo, ih]
  exact this _

theorem leastF_fuel {f : Fl} {to : List Int} : ∀ (k k' : Nat) (s : List Int), s.length = to.length → aboveV to s = true → gap s to ≤ k → gap s to ≤ k' → leastF f to k s = leastF f to k' s := by
  intro k
  induction k with
  | zero =>
    intro k' s hl ha h0 _
    have hs := above_gap_zero hl ha (by omega)
    cases k' <;> simp [leastF, hs]
  | succ k ih =>
    intro k' s hl ha h0 h1
    by_cases hs : s = to
    · cases k' <;> simp [leastF, hs]
    · cases k' with
      | zero => exact absurd (above_gap_zero hl ha (by omega)) hs
      | succ k' =>
        simp only [leastF, if_neg hs]
        refine foldl_congr _ _ (fun x hx b => leastStep_congr (fun hd => ?_) b)
        have hb := (enum_between hx).1
        have hne : s ≠ x := fun e => by subst e; rw [dur_self] at hd; omega
        have hlt := gap_lt (hl := hl) hb hne
        exact ih k' x (by rw [hb.len, hl]) (aboveV_true (n := to.length) rfl (fun j hj => hb.le j (by omega))) (by omega) (by omega)

theorem leastV_eq {f : Fl} {to s : List Int} (hl : s.length = to.length) (ha : aboveV to s = true) (hs : ¬ s = to) :
    leastV f to s = (enum f s to s.length []).foldl (leastStep f.times s (leastV f to)) (dur f.times s to) := by
  have : leastV f to s = leastF f to (gap s to + 1) s := leastF_fuel _ _ s hl ha (Nat.le_refl _) (by omega)
  rw [this]
  simp only [leastF, if_neg hs]
  refine foldl_congr _ _ (fun x hx b => leastStep_congr (fun hd => ?_) b)
  have hb := (enum_between hx).1
  have hne : s ≠ x := fun e => by subst e; rw [dur_self] at hd; omega
  have hlt := gap_lt (hl := hl) hb hne
  exact leastF_fuel _ _ x (by rw [hb.len, hl]) (aboveV_true (n := to.length) rfl (fun j hj => hb.le j (by omega))) (by omega) (Nat.le_refl _)
theorem leastV_end (f : Fl) (to : List Int) : leastV f to to = 0 := by unfold leastV; cases gap to to <;> simp [leastF]

theorem dur_bd {f : Fl} {s t : List Int} (hok : FlOk f) (hs : StOk f s) (ht : StOk f t) (ha : aboveV t s = true) : 0 ≤ dur f.times s t ∧ dur f.times s t ≤ 60000 := by
  have hab := aboveV_le ha
  have hdd := durTo_bd hok (fun c hc => (hs.ver c hc).1) ht (fun c hc => hab c (by rw [ht.len]; exact hc)) f.times.length (Nat.le_refl _)
  have := hok.n6
  unfold dur
  rw [ht.len]
  omega

/-- the data of Least's closure -/
structure LP where
  bto : Nat
  bl : Nat
  bf : Nat
  bb : Nat
  m : Nat
  ta : Option Addr
  tn : Nat
  tc : Nat
  ca : Option Addr
  cn : Nat
  cc : Nat
  toa : Option Addr
  toc : Nat
  n : Nat
  f : Fl
  to : List Int

structure LInv (q : LP) (W : World) : Prop where
  c0 : W.cell? ⟨q.bf, 0, none⟩ = some (.slice q.ta q.tn q.tc)
  c1 : W.cell? ⟨q.bf, 1, none⟩ = some (.slice q.ca q.cn q.cc)
  c2 : W.cell? ⟨q.bto, 0, none⟩ = some (.slice q.toa q.n q.toc)
  c3 : W.cell? ⟨q.bl, 0, none⟩ = some (.map (some q.m))
  c4 : W.cell? ⟨q.bb, 0, none⟩ = some (.func (.func 56) #[] #[.pointer (some ⟨q.bto, 0, none⟩), .pointer (some ⟨q.bl, 0, none⟩), .pointer (some ⟨q.bf, 0, none⟩), .pointer (some ⟨q.bb, 0, none⟩)])
  fl : FlAt W q.ta q.tn q.ca q.cn q.f
  ito : Ints W q.toa q.n q.to
  memo : Memo W q.m (fun s v => s.length = q.n ∧ v = .int .i64 (leastV q.f q.to s))

structure LHyp (q : LP) : Prop where
  ok : FlOk q.f
  sto : StOk q.f q.to
  nt : q.n = q.f.times.length

theorem LInv.noc {q : LP} {W : World} (h : LInv q W) : NoCells (fun b => b = q.m ∨ W.heap.size ≤ b) W := by
  obtain ⟨es, clk, hm, _, _⟩ := h.memo
  intro b cs t fr hs hb
  rcases hs with hs | hs
  · subst hs; rw [hm] at hb; cases hb
  · have := (Array.getElem?_eq_some_iff.1 hb).1; omega
theorem LInv.of {q : LP} {W W' : World} (h : LInv q W) (g : Only (fun b => b = q.m ∨ W.heap.size ≤ b) W W') (hm : Memo W' q.m (fun s v => s.length = q.n ∧ v = .int .i64 (leastV q.f q.to s))) : LInv q W' :=
  ⟨g.cellN h.noc h.c0, g.cellN h.noc h.c1, g.cellN h.noc h.c2, g.cellN h.noc h.c3, g.cellN h.noc h.c4, h.fl.only g h.noc, h.ito.only g h.noc, hm⟩
theorem LInv.gr {q : LP} {W W' : World} (h : LInv q W) (g : Gr W W') : LInv q W' := h.of (g.only _) (h.memo.mono (g.below.block _ h.memo.lt) (fun _ _ hv => hv))

def LPost (q : LP) (W : World) (s : List Int) (e : Ending) (W' : World) : Prop := e = .returned (.int .i64 (leastV q.f q.to s)) ∧ LInv q W' ∧ Only (fun b => b = q.m) W W'

theorem LInv.base {q : LP} {W : World} {a : Option Addr} {s : List Int} (H : LHyp q) (h : LInv q W) (hs : Ints W a q.n s) (hst : StOk q.f s) : SBase W (fun b => b = q.m ∨ W.heap.size ≤ b) q.f q.ta q.tn q.ca q.cn a q.toa q.n s q.to :=
  ⟨H.ok, h.fl, hs, h.ito, fun W' g => ⟨h.fl.only g h.noc, hs.only g h.noc, h.ito.only g h.noc⟩, fun b hb => .inr hb, by have := H.ok.n1; have := H.nt; omega, H.nt, fun c hc => (hst.ver c (by rw [← H.nt]; exact hc)).1, fun c hc => (H.sto.ver c (by rw [← H.nt]; exact hc)).2⟩

theorem Try.zero3 (w : World) : (zeroValue 3).run Try.prog w = .ok (.int .i64 0) w := by kernel_rfl

/-- what a lookup in the memo gives -/
theorem least_lookup {q : LP} (H : LHyp q) {s : List Int} {w : World} (hI : LInv q w) (hst : StOk q.f s) (hl : s.length = q.n) :
    ∃ (v : Int) (b : Bool), (∀ W : World, W.heap[q.m]? = w.heap[q.m]? → (Instr.lookup 86 (.map (some q.m)) (.agg #[.int .i64 (s[0]?.getD 0), .int .i64 (s[1]?.getD 0), .int .i64 (s[2]?.getD 0), .int .i64 (s[3]?.getD 0), .int .i64 (s[4]?.getD 0), .int .i64 (s[5]?.getD 0)]) true).run Try.prog W = .ok (.tuple #[.int .i64 v, .bool b]) W) ∧
      (b = true → v = leastV q.f q.to s) := by
  obtain ⟨es, clk, hb, hall, hpw⟩ := hI.memo
  have hsm := hst.small H.ok
  obtain ⟨l, hlk⟩ := keyOf_keyV hsm
  have K := Try.akey.law
  have hkeys : ∀ e ∈ es.toList, ∃ l, keyOf Try.prog 89 e.key = some l := fun e he => by obtain ⟨s', h1, h2, _⟩ := hall e he; rw [h1]; exact keyOf_keyV h2
  rcases K.find w hlk es.toList hkeys with ⟨h1, h2⟩ | ⟨j, e0, h1, h2, h3⟩
  · refine ⟨0, false, fun W hW => ?_, fun h => by cases h⟩
    rcases K.find W hlk es.toList hkeys with ⟨h1', h2'⟩ | ⟨j', e0', h1', h2', h3'⟩
    · have hbW := hW.trans hb
      show (Instr.lookup 86 (.map (some q.m)) (keyV s) true).run Try.prog W = _
      simp [Instr.lookup, run_underlying Try.underlying86, MapKept.run_getObj_map hbW, K.check W _ hlk, h1']
    · exact absurd h3' (h2 e0' (List.mem_of_getElem? h2'))
  · have hm0 : e0 ∈ es.toList := List.mem_of_getElem? h2
    obtain ⟨s', k1, k2, k3, k4⟩ := hall e0 hm0
    have hss : s' = s := keyV_inj (by rw [k3, hl]) (by rw [k3, H.nt]; exact H.ok.n6) (by rw [← k1, h3])
    subst hss
    refine ⟨_, true, fun W hW => ?_, fun _ => rfl⟩
    rcases K.find W hlk es.toList hkeys with ⟨h1', h2'⟩ | ⟨j', e0', h1', h2', h3'⟩
    · exact absurd h3 (h2' e0 hm0)
    · have hm0' : e0' ∈ es.toList := List.mem_of_getElem? h2'
      have hbW := hW.trans hb
      show (Instr.lookup 86 (.map (some q.m)) (keyV s') true).run Try.prog W = _
      simp [Instr.lookup, run_underlying Try.underlying86, MapKept.run_getObj_map hbW, K.check W _ hlk, h1', Result.andThen]
      rw [pairwise_same hpw hm0' hm0 (by rw [h3', h3]), k4]

def leastL (q : LP) (W : World) (a : Option Addr) (c kb : Nat) (s : List Int) : List (Addr × Value) :=
  [(⟨W.heap.size, 0, none⟩, .slice a q.n c), (⟨kb, 0, none⟩, .int .i64 (s[0]?.getD 0)), (⟨kb, 1, none⟩, .int .i64 (s[1]?.getD 0)), (⟨kb, 2, none⟩, .int .i64 (s[2]?.getD 0)), (⟨kb, 3, none⟩, .int .i64 (s[3]?.getD 0)), (⟨kb, 4, none⟩, .int .i64 (s[4]?.getD 0)), (⟨kb, 5, none⟩, .int .i64 (s[5]?.getD 0))]
theorem leastL_blocks {q : LP} {W : World} {a : Option Addr} {c kb : Nat} {s : List Int} : ∀ p ∈ leastL q W a c kb s, p.1.block = W.heap.size ∨ p.1.block = kb := by
  intro p hp
  simp only [leastL, List.mem_cons, List.not_mem_nil, or_false] at hp
  rcases hp with rfl | rfl | rfl | rfl | rfl | rfl | rfl <;> simp

def foldLe (q : LP) (s : List Int) (done : List (List Int)) : Int := done.foldl (leastStep q.f.times s (leastV q.f q.to)) (dur q.f.times s q.to)

/-- what holds in the loop -/
structure LI (q : LP) (W : World) (s : List Int) (a : Option Addr) (c kb bx : Nat) (done : List (List Int)) (w : World) : Prop where
  on : Only (fun b => b = q.m ∨ W.heap.size ≤ b) W w
  loc : LCells w (leastL q W a c kb s)
  memo : Memo w q.m (fun s v => s.length = q.n ∧ v = .int .i64 (leastV q.f q.to s))
  best : LCells w [(⟨bx, 0, none⟩, .int .i64 (foldLe q s done))]

structure LNum (q : LP) (W : World) (kb bx D : Nat) : Prop where
  i1 : q.m < W.heap.size
  i2 : W.heap.size < kb
  i3 : kb < bx
  i4 : bx < D

theorem LI.inv {q : LP} {W w : World} {s : List Int} {a : Option Addr} {c kb bx : Nat} {done : List (List Int)} (h : LI q W s a c kb bx done w) (hI : LInv q W) : LInv q w := hI.of h.on h.memo
theorem LI.keep {q : LP} {W w w' : World} {s : List Int} {a : Option Addr} {c kb bx D : Nat} {done : List (List Int)} (h : LI q W s a c kb bx done w) (hn : LNum q W kb bx D) (g : Only (fun b => b = D + 1 ∨ b = D + 4) w w') : LI q W s a c kb bx done w' := by
  have h1 := hn.i1
  have h2 := hn.i2
  have h3 := hn.i3
  have h4 := hn.i4
  exact ⟨h.on.trans (g.mono' (fun i e => .inr (by omega))), h.loc.only g (fun p hp => by have := leastL_blocks p hp; omega), h.memo.mono (g.block _ h.memo.lt (by omega)) (fun _ _ hv => hv), h.best.only g (fun p hp => by simp at hp; subst hp; simp only; omega)⟩
theorem LI.gr {q : LP} {W w w' : World} {s : List Int} {a : Option Addr} {c kb bx D : Nat} {done : List (List Int)} (h : LI q W s a c kb bx done w) (hn : LNum q W kb bx D) (g : Gr w w') : LI q W s a c kb bx done w' := h.keep hn (g.only _)
theorem LI.call {q : LP} {W w w' : World} {s : List Int} {a : Option Addr} {c kb bx : Nat} {done : List (List Int)} (h : LI q W s a c kb bx done w) (hI : LInv q W) (g : Only (fun b => b = q.m) w w') (hI' : LInv q w') : LI q W s a c kb bx done w' := by
  have hn : NoCells (fun b => b = q.m) w := by
    obtain ⟨es, clk, hm, _, _⟩ := h.memo
    intro b cs t fr hs hb
    subst hs; rw [hm] at hb; cases hb
  exact ⟨h.on.trans (g.mono' (fun i e => .inl e)), h.loc.onlyN g hn, hI'.memo, h.best.onlyN g hn⟩
theorem LI.set {q : LP} {W w : World} {s x : List Int} {a : Option Addr} {c kb bx D : Nat} {done : List (List Int)} (h : LI q W s a c kb bx done w) (hn : LNum q W kb bx D) {v : Int} (hv : foldLe q s (done ++ [x]) = v) : LI q W s a c kb bx (done ++ [x]) (w.setCell ⟨bx, 0, none⟩ (.int .i64 v)) := by
  have g : Only (fun b => b = bx) w (w.setCell ⟨bx, 0, none⟩ (.int .i64 v)) := Only.setCell (S := fun b => b = bx) (Only.refl _ _) (p := ⟨bx, 0, none⟩) (.inl rfl) _
  have h1 := hn.i1
  have h2 := hn.i2
  have h3 := hn.i3
  refine ⟨h.on.trans (g.mono' (fun i e => .inr (by omega))), h.loc.only g (fun p hp => by have := leastL_blocks p hp; omega), h.memo.mono (g.block _ h.memo.lt (by omega)) (fun _ _ hv => hv), fun p hp => ?_⟩
  simp at hp
  subst hp
  rw [hv]
  have hb := h.best.at 0 rfl
  have hf := h.best.fr 0 rfl
  simp only at hb hf
  exact ⟨by simp [go_sem, hb], by simpa using hf⟩
theorem LI.same {q : LP} {W w : World} {s x : List Int} {a : Option Addr} {c kb bx : Nat} {done : List (List Int)} (h : LI q W s a c kb bx done w) (he : foldLe q s (done ++ [x]) = foldLe q s done) : LI q W s a c kb bx (done ++ [x]) w := by
  refine ⟨h.on, h.loc, h.memo, ?_⟩
  rw [he]
  exact h.best
end
section
open Go.RowKit
attribute [local go_sem] Oper.semAt_some

set_option maxRecDepth 100000 in
set_option maxHeartbeats 4000000 in
theorem least_round (q : LP) (H : LHyp q) (s x : List Int) (W w : World) (a : Option Addr) (c kb bx D cx L : Nat) (ad : Addr) (pre : List (List Int)) {tt0 tt6 tt8 tt9 tt12 tt13 tt14 tt15 tt16 tt17 tt18 tt19 tt20 tt21 tt22 tt23 tt24 tt25 tt26 tt27 tt28 tt29 tt30 tt31 tt32 tt33 tt34 tt35 tt36 tt37 tt38 tt39 tt40 tt41 tt42 tt43 tt44 tt45 tt46 tt47 tt48 tt49 tt50 tt51 tt52 tt53 tt54 tt55 tt56 : Value} (body : Code) (hbo : (Try.f56.body.bind firstBody) = some body)
    (hI : LInv q W) (hs : Ints W a q.n s) (hst : StOk q.f s) (hn : LNum q W kb bx D) (hB : LI q W s a c kb bx pre w) (hx : Ints w (some ad) q.n x) (hsx : StOk q.f x) (hbt : Btw s q.to x)
    (ih : 0 < dur q.f.times s x → ∀ (w : World), LInv q w → Ints w (some ad) q.n x → Calls Try.prog 56 #[.slice (some ad) q.n cx, .pointer (some ⟨q.bto, 0, none⟩), .pointer (some ⟨q.bl, 0, none⟩), .pointer (some ⟨q.bf, 0, none⟩), .pointer (some ⟨q.bb, 0, none⟩)] w (LPost q w x)) :
    body.wpIn (Fence.wide.inRound L) 0 Try.prog (roundQ (fun b => b = q.m ∨ b = bx) (LI q W s a c kb bx) (fun _ _ => False) (pre ++ [x]) w) { tmps := #[tt0, .pointer (some ⟨q.bto, 0, none⟩), .pointer (some ⟨q.bl, 0, none⟩), .pointer (some ⟨q.bf, 0, none⟩), .pointer (some ⟨q.bb, 0, none⟩), .pointer (some ⟨W.heap.size, 0, none⟩), tt6, .pointer (some ⟨kb, 0, none⟩), tt8, tt9, .pointer (some ⟨bx, 0, none⟩), .slice (some ad) q.n cx, tt12, tt13, tt14, tt15, tt16, tt17, tt18, tt19, tt20, tt21, tt22, tt23, tt24, tt25, tt26, tt27, tt28, tt29, tt30, tt31, tt32, tt33, tt34, tt35, tt36, tt37, tt38, tt39, tt40, tt41, tt42, tt43, tt44, tt45, tt46, tt47, tt48, tt49, tt50, tt51, tt52, tt53, tt54, tt55, tt56], defers := [] } w := by
  have hIw := hB.inv hI
  have hsw := hs.only hB.on hI.noc
  have b5 := hB.loc.at 0 rfl
  have c0 := hIw.c0
  have c1 := hIw.c1
  have hab : aboveV x s = true := aboveV_true (n := x.length) rfl (fun j hj => hbt.ge j (by rw [← hbt.len]; exact hj))
  have hdb := dur_bd H.ok hst hsx hab
  have HD := Lib.hid (duration_any q.ta q.ca a (some ad) q.tn q.tc q.cn q.cc q.n c cx q.f s x w hIw.fl H.ok hsw hx (fun c hc => (hst.ver c hc).1) hsx (fun c hc => hbt.ge c (by rw [hst.len]; exact hc)))
  simp only [Try.f56, Option.bind, firstBody] at hbo
  injection hbo with hbo
  subst hbo
  gi_wp2_with fail
  refine ⟨trivial, rfl, ?_⟩
  refine (CallsIn.inRound L (callsIn_wide.2 HD.out)).mono ?_
  rintro e w1 ⟨rfl, hg⟩
  have hB1 := hB.gr hn hg
  have hx1 := hx.gr hg
  have hO1 : Only (fun b => b = q.m ∨ b = bx) w w1 := hg.only _
  have hfo : Hid (foldLe q s (pre ++ [x]) = if 0 < dur q.f.times s x ∧ dur q.f.times s x < foldLe q s pre then min (foldLe q s pre) (max (dur q.f.times s x) (leastV q.f q.to x)) else foldLe q s pre) := Lib.hid (by unfold foldLe; rw [List.foldl_append]; rfl)
  have IH0 := Lib.hid ih
  clear ih HD b5 c0 c1
  generalize hdn : dur q.f.times s x = dn at *
  have HDN := Lib.hid hdn
  have hy := hB1.best.at 0 rfl
  generalize hpp : foldLe q s pre = p at *
  have HPP := Lib.hid hpp
  clear hdn hpp
  dsimp only at hy
  by_cases h1 : 0 < dn
  · by_cases h2 : dn < p
    · have IH := Lib.hid (IH0.out h1)
      have hfo2 : Hid (foldLe q s (pre ++ [x]) = min p (max dn (leastV q.f q.to x))) := Lib.hid (by rw [hfo.out, if_pos ⟨h1, h2⟩])
      clear hfo IH0
      generalize hlx : leastV q.f q.to x = lx at *
      have HLX := Lib.hid hlx
      have hfo := hfo2
      clear hlx hfo2
      gi_wp2_with fail
      refine region_inv (F := Fence.wide.inRound L) (by kernel_rfl) (by rfl) (by decide) (fun _ => trivial)
        (fun done' u W' => Kn [some (.int .i64 p), some (.int .i64 dn), some (.func (.func 56) #[] #[.pointer (some ⟨q.bto, 0, none⟩), .pointer (some ⟨q.bl, 0, none⟩), .pointer (some ⟨q.bf, 0, none⟩), .pointer (some ⟨q.bb, 0, none⟩)]), some (.slice (some ad) q.n cx), some (.int .i64 lx), some (.int .i64 (max dn lx)), some (.int .i64 (min p (max dn lx))), none] done' u ∧ ((done' 7 = false → LI q W s a c kb bx pre W' ∧ Only (fun b => b = q.m ∨ b = bx) w W' ∧ Ints W' (some ad) q.n x) ∧ (done' 7 = true → LI q W s a c kb bx (pre ++ [x]) W' ∧ Only (fun b => b = q.m ∨ b = bx) w W')))
        (fun u => ⟨Kn.start _ _, ⟨fun _ => ⟨hB1.gr hn (Gr.drew w1), hO1.thenGr (Gr.drew w1), hx1.gr (Gr.drew w1)⟩, (fun h => by cases h)⟩⟩) ⟨?_, ?_, ?_, ?_, ?_, ?_, ?_, ?_, trivial⟩ ?_
      · rintro u done' W' hd hanc hclo ⟨hk, hR⟩
        have hL := hR.1 (not_done hclo hd 7 rfl (by kernel_rfl))
        have y := hL.1.best.at 0 rfl
        rw [HPP.out] at y
        refine op_plain (ro := some L) rfl (fun c h => by cases h) fun K hK => ?_
        simp only [fillL, List.setIfInBounds_toArray, List.set_cons_zero, List.set_cons_succ, Nat.zero_add, Nat.reduceAdd] at hK ⊢
        go_simp
        exact hK _ _ ⟨hk.new rfl, ⟨fun h => hR.1 (by rw [upd_ne (by decide)] at h; exact h), fun h => hR.2 (by rw [upd_ne (by decide)] at h; exact h)⟩⟩
      · rintro u done' W' hd hanc hclo ⟨hk, hR⟩
        refine op_plain (ro := some L) rfl (fun c h => by cases h) fun K hK => ?_
        simp only [fillL, List.setIfInBounds_toArray, List.set_cons_zero, List.set_cons_succ, Nat.zero_add, Nat.reduceAdd] at hK ⊢
        go_simp
        exact hK _ _ ⟨hk.new rfl, ⟨fun h => hR.1 (by rw [upd_ne (by decide)] at h; exact h), fun h => hR.2 (by rw [upd_ne (by decide)] at h; exact h)⟩⟩
      · rintro u done' W' hd hanc hclo ⟨hk, hR⟩
        have hL := hR.1 (not_done hclo hd 7 rfl (by kernel_rfl))
        have y := (hL.1.inv hI).c4
        refine op_plain (ro := some L) rfl (fun c h => by cases h) fun K hK => ?_
        simp only [fillL, List.setIfInBounds_toArray, List.set_cons_zero, List.set_cons_succ, Nat.zero_add, Nat.reduceAdd] at hK ⊢
        go_simp
        exact hK _ _ ⟨hk.new rfl, ⟨fun h => hR.1 (by rw [upd_ne (by decide)] at h; exact h), fun h => hR.2 (by rw [upd_ne (by decide)] at h; exact h)⟩⟩
      · rintro u done' W' hd hanc hclo ⟨hk, hR⟩
        refine op_plain (ro := some L) rfl (fun c h => by cases h) fun K hK => ?_
        simp only [fillL, List.setIfInBounds_toArray, List.set_cons_zero, List.set_cons_succ, Nat.zero_add, Nat.reduceAdd] at hK ⊢
        go_simp
        exact hK _ _ ⟨hk.new rfl, ⟨fun h => hR.1 (by rw [upd_ne (by decide)] at h; exact h), fun h => hR.2 (by rw [upd_ne (by decide)] at h; exact h)⟩⟩
      · rintro u done' W' hd hanc hclo ⟨hk, hR⟩
        have e2 := hk.get 2 rfl (hanc 2 (mem_of (by kernel_rfl)))
        have e3 := hk.get 3 rfl (hanc 3 (mem_of (by kernel_rfl)))
        have hL := hR.1 (not_done hclo hd 7 rfl (by kernel_rfl))
        have h7 := not_done hclo hd 7 rfl (by kernel_rfl)
        have HCON := Lib.hid (IH.out W' (hL.1.inv hI) hL.2.2)
        refine op_plain (ro := some L) rfl (fun c h => by cases h) fun K hK => ?_
        simp only [fillL, List.setIfInBounds_toArray, List.set_cons_zero, List.set_cons_succ, Nat.zero_add, Nat.reduceAdd, e2, e3] at hK ⊢
        go_simp
        refine HCON.out.mono ?_
        rintro e w2 ⟨rfl, hI2, hO2⟩
        rw [HLX.out]
        have hnm : NoCells (fun b => b = q.m) W' := fun b cs t fr hs hb => (hL.1.inv hI).noc b cs t fr (.inl hs) hb
        exact hK _ _ ⟨hk.new rfl, ⟨fun _ => ⟨hL.1.call hI hO2 hI2, hL.2.1.trans (hO2.mono' (fun i e => .inl e)), hL.2.2.only hO2 hnm⟩, fun h => by rw [upd_ne (by decide), h7] at h; cases h⟩⟩
      · rintro u done' W' hd hanc hclo ⟨hk, hR⟩
        have e1 := hk.get 1 rfl (hanc 1 (mem_of (by kernel_rfl)))
        have e4 := hk.get 4 rfl (hanc 4 (mem_of (by kernel_rfl)))
        refine op_plain (ro := some L) rfl (fun c h => by cases h) fun K hK => ?_
        simp only [fillL, List.setIfInBounds_toArray, List.set_cons_zero, List.set_cons_succ, Nat.zero_add, Nat.reduceAdd, e1, e4] at hK ⊢
        go_simp
        rw [show (if dn < lx then lx else dn) = max dn lx from by split <;> omega]
        exact hK _ _ ⟨hk.new rfl, ⟨fun h => hR.1 (by rw [upd_ne (by decide)] at h; exact h), fun h => hR.2 (by rw [upd_ne (by decide)] at h; exact h)⟩⟩
      · rintro u done' W' hd hanc hclo ⟨hk, hR⟩
        have e0 := hk.get 0 rfl (hanc 0 (mem_of (by kernel_rfl)))
        have e5 := hk.get 5 rfl (hanc 5 (mem_of (by kernel_rfl)))
        refine op_plain (ro := some L) rfl (fun c h => by cases h) fun K hK => ?_
        simp only [fillL, List.setIfInBounds_toArray, List.set_cons_zero, List.set_cons_succ, Nat.zero_add, Nat.reduceAdd, e0, e5] at hK ⊢
        go_simp
        rw [show (if max dn lx < p then max dn lx else p) = min p (max dn lx) from by split <;> omega]
        exact hK _ _ ⟨hk.new rfl, ⟨fun h => hR.1 (by rw [upd_ne (by decide)] at h; exact h), fun h => hR.2 (by rw [upd_ne (by decide)] at h; exact h)⟩⟩
      · rintro u done' W' hd hanc hclo ⟨hk, hR⟩
        have e6 := hk.get 6 rfl (hanc 6 (mem_of (by kernel_rfl)))
        have hL := hR.1 hd
        have y := hL.1.best.at 0 rfl
        have z := hL.1.best.fr 0 rfl
        refine op_plain (ro := some L) rfl (fun c h => by cases h) fun K hK => ?_
        simp only [fillL, List.setIfInBounds_toArray, List.set_cons_zero, List.set_cons_succ, Nat.zero_add, Nat.reduceAdd, e6] at hK ⊢
        go_simp
        exact hK undef _ ⟨hk.skip rfl, ⟨(fun h => by rw [upd_self] at h; cases h), fun _ => ⟨hL.1.set hn hfo.out, hL.2.1.setCell (.inl (.inr rfl)) _⟩⟩⟩
      · rintro u W' ⟨done', hdn, hk, hR⟩
        have e0 := hk.get 0 rfl (hdn 0 (by decide))
        have e1 := hk.get 1 rfl (hdn 1 (by decide))
        have e2 := hk.get 2 rfl (hdn 2 (by decide))
        have e3 := hk.get 3 rfl (hdn 3 (by decide))
        have e4 := hk.get 4 rfl (hdn 4 (by decide))
        have e5 := hk.get 5 rfl (hdn 5 (by decide))
        have e6 := hk.get 6 rfl (hdn 6 (by decide))
        simp only [fillL, List.setIfInBounds_toArray, List.set_cons_zero, List.set_cons_succ, Nat.zero_add, Nat.reduceAdd, e0, e1, e2, e3, e4, e5, e6]
        have hL := hR.2 (hdn 7 (by decide))
        gi_wp2_with fail
        exact ⟨hL.2, hL.1⟩
    · have hfo2 : Hid (foldLe q s (pre ++ [x]) = p) := Lib.hid (by rw [hfo.out, if_neg (by omega)])
      clear hfo IH0
      gi_wp2_with fail
      exact ⟨hO1, hB1.same (by rw [hfo2.out, HPP.out])⟩
  · have hfo2 : Hid (foldLe q s (pre ++ [x]) = p) := Lib.hid (by rw [hfo.out, if_neg (by omega)])
    clear hfo IH0
    gi_wp2_with fail
    exact ⟨hO1, hB1.same (by rw [hfo2.out, HPP.out])⟩
end
section
open Go.RowKit
attribute [local go_sem] Oper.semAt_some

theorem least_out {q : LP} {W W' : World} {s : List Int} {D : Nat} {t : Array Value} {v : Int} (hI : LInv q W) (hm : q.m < D) (hD : W.heap.size ≤ D) (hon : Only (fun b => b = q.m ∨ W.heap.size ≤ b) W W') (hmm : Memo W' q.m (fun s v => s.length = q.n ∧ v = .int .i64 (leastV q.f q.to s)))
    (hdef : W'.heap[D]? = some (.deferred (some []))) (hv : leastV q.f q.to s = v) (ht : t.getD 6 undef = .int .i64 v := by rfl) :
    bodyPostM Fence.wide 0 Try.prog Try.f56 (LPost q W s) .ret { tmps := t, defers := [{ target := .collected D, args := #[] }] } W' := by
  have hO := putObj_only W' D (.deferred none)
  have hon2 := hon.trans (hO.mono' (fun i e => .inr (by omega)))
  refine marks_ret1 (v := .int .i64 v) (D := D) rfl hdef ?_ ⟨by rw [hv], hI.of hon2 (hmm.mono (hO.block _ hmm.lt (by omega)) (fun _ _ h => h)), hon2.mono (fun i hi e => by omega)⟩
  have ht' : t[6]?.getD undef = .int .i64 v := by rw [← ht]; simp
  simp [results, Try.results56, go_sem, ht']

set_option maxRecDepth 100000 in
set_option maxHeartbeats 4000000 in
theorem least_main (q : LP) (H : LHyp q) (s : List Int) (W : World) (a : Option Addr) (c : Nat) (hI : LInv q W) (hs : Ints W a q.n s) (hst : StOk q.f s) (he : ¬ s = q.to) (hna : aboveV q.to s = true)
    (ih : ∀ (x : List Int) (w : World) (ad : Addr) (cx : Nat), 0 < dur q.f.times s x → x ∈ enum q.f s q.to q.n [] → StOk q.f x → LInv q w → Ints w (some ad) q.n x → Calls Try.prog 56 #[.slice (some ad) q.n cx, .pointer (some ⟨q.bto, 0, none⟩), .pointer (some ⟨q.bl, 0, none⟩), .pointer (some ⟨q.bf, 0, none⟩), .pointer (some ⟨q.bb, 0, none⟩)] w (LPost q w x)) :
    Calls Try.prog 56 #[.slice a q.n c, .pointer (some ⟨q.bto, 0, none⟩), .pointer (some ⟨q.bl, 0, none⟩), .pointer (some ⟨q.bf, 0, none⟩), .pointer (some ⟨q.bb, 0, none⟩)] W (LPost q W s) := by
  have hn1 : 0 < q.n := by have := H.ok.n1; have := H.nt; omega
  have hn6 : q.n ≤ 6 := by have := H.ok.n6; have := H.nt; omega
  have hsl : s.length = q.to.length := by rw [hs.len, hI.ito.len]
  have hfin : Hid (leastV q.f q.to s = foldLe q s (enum q.f s q.to q.n [])) := Lib.hid (by rw [leastV_eq hsl hna he, hs.len]; rfl)
  have hdb := dur_bd H.ok hst H.sto hna
  have hable := aboveV_le hna
  have g1 := Gr.alloc W (.cells #[.slice a q.n c] 26)
  have hb5 := cell_new (w := W) (t := 26) (cs := #[.slice a q.n c]) (j := 0) (v := .slice a q.n c) rfl
  have hf5 := frozen_new (w := W) (t := 26) (cs := #[.slice a q.n c]) (j := 0)
  obtain ⟨w1, hw1⟩ : ∃ w1, W.alloc (.cells #[.slice a q.n c] 26) = w1 := ⟨_, rfl⟩
  rw [hw1] at g1 hb5 hf5
  have hI1 := hI.gr g1
  have hc2 := hI1.c2
  have hq1 := equal_any a q.toa q.n c q.n q.toc s q.to w1 (hs.gr g1) hI1.ito
  rw [decide_eq_false he] at hq1
  have HEQ := Lib.hid hq1
  have HE := Lib.hid he
  have IH := Lib.hid ih
  have HAB := Lib.hid hable
  obtain ⟨lv, lb, hlk, hlv⟩ := least_lookup H hI hst hs.len
  have HLK := Lib.hid hlk
  have HLV := Lib.hid hlv
  clear ih hlk hlv hq1 he hsl hable
  refine calls_marks Try.func56 rfl ?_
  simp only [Try.ntmps56, List.size_toArray, List.length_cons, List.length_nil, Nat.reduceAdd, Nat.reduceSub, Array.replicate_succ, Array.replicate_zero, List.push_toArray, List.append_toArray, List.nil_append, List.cons_append]
  go_wp2_with fail
  clear hw1
  refine HEQ.out.mono ?_
  rintro e w2 ⟨rfl, k, rfl⟩
  have g2 := g1.trans (Gr.drewN w1 k)
  have hb52 := ((Gr.drewN w1 k).cell (lt_cell hb5)).trans hb5
  have hf52 := ((Gr.drewN w1 k).frozen (lt_cell hb5)).trans hf5
  obtain ⟨w2, hw2⟩ : ∃ w2, w1.drewN k = w2 := ⟨_, rfl⟩
  rw [hw2] at g2 hb52 hf52 ⊢
  clear hw2 hb5 hf5 hc2 HEQ g1
  have HKE := Lib.hid (keyOf_any a q.n c s w2 (hs.gr g2) hn1 hn6)
  go_wp2_with fail
  refine HKE.out.mono ?_
  rintro e w3 ⟨rfl, g3⟩
  unfold keyV
  have G3 := g2.trans g3
  have hkg := Gr.alloc w3 (.cells #[.int .i64 (s[0]?.getD 0), .int .i64 (s[1]?.getD 0), .int .i64 (s[2]?.getD 0), .int .i64 (s[3]?.getD 0), .int .i64 (s[4]?.getD 0), .int .i64 (s[5]?.getD 0)] 89)
  have hkc : ∀ j v, (#[Value.int .i64 (s[0]?.getD 0), .int .i64 (s[1]?.getD 0), .int .i64 (s[2]?.getD 0), .int .i64 (s[3]?.getD 0), .int .i64 (s[4]?.getD 0), .int .i64 (s[5]?.getD 0)] : Array Value)[j]? = some v → (w3.alloc (.cells #[.int .i64 (s[0]?.getD 0), .int .i64 (s[1]?.getD 0), .int .i64 (s[2]?.getD 0), .int .i64 (s[3]?.getD 0), .int .i64 (s[4]?.getD 0), .int .i64 (s[5]?.getD 0)] 89)).cell? ⟨w3.heap.size, j, none⟩ = some v := fun j v h => cell_new h
  have hkf : ∀ j, (w3.alloc (.cells #[.int .i64 (s[0]?.getD 0), .int .i64 (s[1]?.getD 0), .int .i64 (s[2]?.getD 0), .int .i64 (s[3]?.getD 0), .int .i64 (s[4]?.getD 0), .int .i64 (s[5]?.getD 0)] 89)).frozen? ⟨w3.heap.size, j, none⟩ = false := fun j => frozen_new
  have hloc : LCells (w3.alloc (.cells #[.int .i64 (s[0]?.getD 0), .int .i64 (s[1]?.getD 0), .int .i64 (s[2]?.getD 0), .int .i64 (s[3]?.getD 0), .int .i64 (s[4]?.getD 0), .int .i64 (s[5]?.getD 0)] 89)) (leastL q W a c w3.heap.size s) := by
    have g4 := g3.trans hkg
    intro p hp
    simp only [leastL, List.mem_cons, List.not_mem_nil, or_false] at hp
    rcases hp with rfl | rfl | rfl | rfl | rfl | rfl | rfl
    · exact ⟨(g4.cell (lt_cell hb52)).trans hb52, (g4.frozen (lt_cell hb52)).trans hf52⟩
    · exact ⟨hkc 0 _ rfl, hkf 0⟩
    · exact ⟨hkc 1 _ rfl, hkf 1⟩
    · exact ⟨hkc 2 _ rfl, hkf 2⟩
    · exact ⟨hkc 3 _ rfl, hkf 3⟩
    · exact ⟨hkc 4 _ rfl, hkf 4⟩
    · exact ⟨hkc 5 _ rfl, hkf 5⟩
  have hkb : W.heap.size < w3.heap.size := Nat.lt_of_lt_of_le (lt_cell hb52) g3.size
  have G4 := G3.trans hkg
  have hI4 := hI.gr G4
  have hc3 := hI4.c3
  obtain ⟨w4, hw4⟩ : ∃ w4, w3.alloc (.cells #[.int .i64 (s[0]?.getD 0), .int .i64 (s[1]?.getD 0), .int .i64 (s[2]?.getD 0), .int .i64 (s[3]?.getD 0), .int .i64 (s[4]?.getD 0), .int .i64 (s[5]?.getD 0)] 89) = w4 := ⟨_, rfl⟩
  rw [hw4] at hloc G4 hI4 hc3
  have hk0 := hloc.at 1 rfl
  have hk1 := hloc.at 2 rfl
  have hk2 := hloc.at 3 rfl
  have hk3 := hloc.at 4 rfl
  have hk4 := hloc.at 5 rfl
  have hk5 := hloc.at 6 rfl
  have hlk := HLK.out w4 (G4.below.block _ hI.memo.lt)
  clear hkc hkf hkg G3 g3 HKE hb52 hf52 g2 HLK
  cases lb with
  | true =>
    have hv := HLV.out rfl
    have HV := Lib.hid hv
    clear hv HLV
    go_wp2_with fail
    exact marks_ret0 (v := .int .i64 lv) (by simp [results, Try.results56, go_sem]) rfl ⟨by rw [HV.out], hI4, G4.only _⟩
  | false =>
    have hc0 := hI4.c0
    have hc1 := hI4.c1
    have hc2 := hI4.c2
    have hb5 := hloc.at 0 rfl
    have HDU := Lib.hid (duration_any q.ta q.ca a q.toa q.tn q.tc q.cn q.cc q.n c q.toc q.f s q.to w4 hI4.fl H.ok (hs.gr G4) hI4.ito (fun c hc => (hst.ver c hc).1) H.sto (fun c hc => HAB.out c (by rw [H.sto.len]; exact hc)))
    clear HLV
    go_wp2_with fail
    refine HDU.out.mono ?_
    rintro e w5 ⟨rfl, g5⟩
    clear hc0 hc1 hc2 hc3 hk0 hk1 hk2 hk3 hk4 hk5 hb5 hlk HDU hw4
    have g6 := g5.allocR (.cells #[.int .i64 (dur q.f.times s q.to)] 3)
    have hbx : LCells (w5.alloc (.cells #[.int .i64 (dur q.f.times s q.to)] 3)) [(⟨w5.heap.size, 0, none⟩, .int .i64 (dur q.f.times s q.to))] := fun p hp => by
      simp at hp
      subst hp
      exact ⟨cell_new rfl, frozen_new⟩
    have hloc6 := hloc.gr g6
    have hkb5 : w3.heap.size < w5.heap.size := Nat.lt_of_lt_of_le (hloc.lt (⟨w3.heap.size, 0, none⟩, _) (by simp [leastL]; rfl)) g5.size
    obtain ⟨w6, hw6⟩ : ∃ w6, w5.alloc (.cells #[.int .i64 (dur q.f.times s q.to)] 3) = w6 := ⟨_, rfl⟩
    rw [hw6] at g6 hbx hloc6
    have G6 := G4.trans g6
    have hI6 := hI.gr G6
    have hc0 := hI6.c0
    have hc1 := hI6.c1
    have hc2 := hI6.c2
    have hb5 := hloc6.at 0 rfl
    have HST := Lib.hid (states_any q.ta q.ca a q.toa q.tn q.tc q.cn q.cc q.n c q.n q.toc w6)
    clear g5 hloc
    go_wp2_with fail
    clear hw6
    refine HST.out.mono ?_
    rintro e w7 hnew
    obtain ⟨g7, s7, i0, i1, i2, i3⟩ := NewIter.facts hnew
    obtain ⟨rfl, -⟩ := hnew
    clear hc0 hc1 hc2 hb5 HST
    generalize hkk : w3.heap.size = kb at *
    generalize hxx : w5.heap.size = bx at *
    have hbx7 := hbx.gr g7
    have hB7 : LI q W s a c kb bx [] w7 := ⟨(G6.trans g7).only _, hloc6.gr g7, (hI6.gr g7).memo, hbx7⟩
    have l0 := hbx7.lt (⟨bx, 0, none⟩, .int .i64 (dur q.f.times s q.to)) (by simp)
    have l6 := hbx.lt (⟨bx, 0, none⟩, .int .i64 (dur q.f.times s q.to)) (by simp)
    simp only at l0 l6
    have hm0 := hI.memo.lt
    have hn : LNum q W kb bx w7.heap.size := ⟨hm0, hkb, hkb5, l0⟩
    have h67 := g7.size
    clear s7 hbx hloc6 hbx7 hkk hxx
    go_wp2_with fail
    refine range_states (wB := W) (S := fun b => b = q.m ∨ W.heap.size ≤ b) (Y := fun b => b = q.m ∨ b = bx) (f := q.f) (lo := s) (hi := q.to) (n := q.n) (bfr := w6.heap.size + 1) (bfl := w6.heap.size) (bto := w6.heap.size + 2) rfl (hI.base H hs hst) ((G6.trans g7).only _) ?_ ?_ i2 i0 i1 i3 ?_ ?_ ?_ (LI q W s a c kb bx) (fun _ _ => False) hB7 (fun xs W1 W2 h g => h.keep hn g) (fun _ _ _ h _ => h.elim) ?a1 ?assign ?body ?done (fun _ _ h => h.elim)
    case assign =>
      intro l v w1 K hK
      gi_wp2
      exact hK
    case body =>
      intro pre x ad cx wr hB _ hx hax hx3 hmem hsx hw
      have hmem' := hmem
      rw [← hs.len] at hmem'
      exact least_round q H s x W wr a c kb bx w7.heap.size cx (w7.heap.size + 1) ad pre _ (by rfl) hI hs hst hn hB hx hsx (enum_between hmem').1 (fun hd w => IH.out x w ad cx hd hmem hsx)
    case done =>
      intro w10 hB10 hdef
      have hI10 := hB10.inv hI
      have c3 := hI10.c3
      have k0 := hB10.loc.at 1 rfl
      have k1 := hB10.loc.at 2 rfl
      have k2 := hB10.loc.at 3 rfl
      have k3 := hB10.loc.at 4 rfl
      have k4 := hB10.loc.at 5 rfl
      have k5 := hB10.loc.at 6 rfl
      have y := hB10.best.at 0 rfl
      obtain ⟨o, hrun, hmemo⟩ := memo_store (v := .int .i64 (foldLe q s (enum q.f s q.to q.n []))) Try.underlying86 hI10.memo (hst.small H.ok) ⟨hs.len, by rw [hfin.out]⟩
      unfold keyV at hrun
      have hO := putObj_only w10 q.m o
      have hnm : NoCells (fun b => b = q.m) w10 := fun b cs t fr hs hb => hI10.noc b cs t fr (.inl hs) hb
      have y11 := hO.cellN hnm y
      have hon11 := hB10.on.trans (hO.mono' (fun i e => .inl e))
      have hD := (Array.getElem?_eq_some_iff.1 hdef).1
      have hdef11 := (hO.block _ hD (by have := hn.i1; have := hn.i2; have := hn.i3; have := hn.i4; omega)).trans hdef
      generalize foldLe q s (enum q.f s q.to q.n []) = fv at *
      dsimp only at y y11
      go_wp2_with fail
      exact least_out hI (by have := hn.i1; have := hn.i2; have := hn.i3; have := hn.i4; omega) (by have := hn.i2; have := hn.i3; have := hn.i4; omega) hon11 hmemo hdef11 hfin.out
    all_goals first | (intro b h; omega) | omega

theorem least_end (q : LP) (s : List Int) (W : World) (a : Option Addr) (c : Nat) (hI : LInv q W) (hs : Ints W a q.n s) (he : s = q.to) :
    Calls Try.prog 56 #[.slice a q.n c, .pointer (some ⟨q.bto, 0, none⟩), .pointer (some ⟨q.bl, 0, none⟩), .pointer (some ⟨q.bf, 0, none⟩), .pointer (some ⟨q.bb, 0, none⟩)] W (LPost q W s) := by
  have hv : Hid (leastV q.f q.to s = 0) := Lib.hid (by rw [he]; exact leastV_end _ _)
  have g1 := Gr.alloc W (.cells #[.slice a q.n c] 26)
  have hb5 := cell_new (w := W) (t := 26) (cs := #[.slice a q.n c]) (j := 0) (v := .slice a q.n c) rfl
  obtain ⟨w1, hw1⟩ : ∃ w1, W.alloc (.cells #[.slice a q.n c] 26) = w1 := ⟨_, rfl⟩
  rw [hw1] at g1 hb5
  have hI1 := hI.gr g1
  have hc2 := hI1.c2
  have hq1 := equal_any a q.toa q.n c q.n q.toc s q.to w1 (hs.gr g1) hI1.ito
  rw [decide_eq_true he] at hq1
  have HEQ := Lib.hid hq1
  clear hq1 he
  go_enter Try.func56, Try.ntmps56
  go_wp2_with fail
  refine HEQ.out.mono ?_
  rintro e w2 ⟨rfl, k, rfl⟩
  go_wp2_with fail
  go_ret
  exact ⟨by rw [hv.out]; rfl, hI1.gr (Gr.drewN w1 k), (g1.trans (Gr.drewN w1 k)).only _⟩

theorem least_any (q : LP) (H : LHyp q) : ∀ (k : Nat) (s : List Int) (W : World) (a : Option Addr) (c : Nat), gap s q.to ≤ k → StOk q.f s → aboveV q.to s = true → LInv q W → Ints W a q.n s →
    Calls Try.prog 56 #[.slice a q.n c, .pointer (some ⟨q.bto, 0, none⟩), .pointer (some ⟨q.bl, 0, none⟩), .pointer (some ⟨q.bf, 0, none⟩), .pointer (some ⟨q.bb, 0, none⟩)] W (LPost q W s) := by
  intro k
  induction k with
  | zero =>
    intro s W a c hk hst ha hI hs
    exact least_end q s W a c hI hs (above_gap_zero (by rw [hs.len, hI.ito.len]) ha (by omega))
  | succ k ih =>
    intro s W a c hk hst ha hI hs
    by_cases he : s = q.to
    · exact least_end q s W a c hI hs he
    · refine least_main q H s W a c hI hs hst he ha (fun x w ad cx hd hmem hsx hIw hxw => ?_)
      have hl : s.length = q.to.length := by rw [hs.len, hI.ito.len]
      rw [← hs.len] at hmem
      have hb := (enum_between hmem).1
      have hne : s ≠ x := fun e => by subst e; rw [dur_self] at hd; omega
      have hlt := gap_lt (hl := hl) hb hne
      exact ih x w (some ad) cx (by omega) hsx (aboveV_true (n := q.to.length) rfl (fun j hj => hb.le j (by omega))) hIw hxw
end
end Go.Proofs.Ytlilojpnhmfnaaa
