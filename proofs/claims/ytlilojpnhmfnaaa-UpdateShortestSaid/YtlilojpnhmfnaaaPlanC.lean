/- The planner: best, up to its loop. -/
import Derived.Test.YtlilojpnhmfnaaaPlanE
import Derived.Test.YtlilojpnhmfnaaaMarks
namespace Go.Proofs.Ytlilojpnhmfnaaa
set_option linter.unusedVariables false
open Go.RowKit
attribute [local go_sem] Oper.semAt_some

theorem best_out {q : PP} (H : PHyp q) {X : Nat → Prop} {W W' w12 : World} {s : List Int} {kb b8 D : Nat} {t : Array Value} {v0 v1 v2 v3 : Value} (hI : PInv q X W) (hn : BNum q W kb b8 D) (hX : ∀ b, X b → b < W.heap.size) (hon : Only (fun b => b = q.m ∨ W.heap.size ≤ b) W W')
    (hm : Memo W' q.m (fun s v => s.length = q.n ∧ RestV (XL X W.heap.size (D + 4)) W' v (bestV q.f q.to q.bu s))) (hr : RestV (XL X W.heap.size (D + 4)) W' (.agg #[v0, v1, v2, v3]) (bestV q.f q.to q.bu s)) (hO12 : Only (fun b => b = W.heap.size + 1 + 1) W' w12)
    (hO13 : Only (fun b => b = D) w12 (w12.putObj D (.deferred none))) (hdef : w12.heap[D]? = some (.deferred (some []))) (q0 : w12.cell? ⟨W.heap.size + 1 + 1, 0, none⟩ = some v0) (q1 : w12.cell? ⟨W.heap.size + 1 + 1, 1, none⟩ = some v1) (q2 : w12.cell? ⟨W.heap.size + 1 + 1, 2, none⟩ = some v2) (q3 : w12.cell? ⟨W.heap.size + 1 + 1, 3, none⟩ = some v3)
    (ht : t.getD 4 undef = .pointer (some ⟨W.heap.size + 1 + 1, 0, none⟩) := by rfl) :
    bodyPostM Fence.wide 0 Try.prog Try.f49 (BPost q X W s) .ret { tmps := t, defers := [{ target := .collected D, args := #[] }] } w12 := by
  have i1 := hn.i1
  have i2 := hn.i2
  have i3 := hn.i3
  have i4 := hn.i4
  have hO : Only (fun b => b = W.heap.size + 1 + 1 ∨ b = D) W' (w12.putObj D (.deferred none)) := (hO12.mono' (fun i e => .inl e)).trans (hO13.mono' (fun i e => .inr e))
  have honW : Only (fun b => b = q.m ∨ W.heap.size ≤ b) W (w12.putObj D (.deferred none)) := hon.trans (hO.mono' (fun i e => .inr (by omega)))
  have hXL : ∀ b, (b = W.heap.size + 1 + 1 ∨ b = D) → XL X W.heap.size (D + 4) b := fun b e => .inr (by omega)
  have hm13 : Memo (w12.putObj D (.deferred none)) q.m (fun s v => s.length = q.n ∧ RestV X (w12.putObj D (.deferred none)) v (bestV q.f q.to q.bu s)) :=
    hm.mono (hO.block _ hm.lt (by omega)) (fun s v hv => ⟨hv.1, (hv.2.onlyX hO hXL).wide (fun b _ hx => .inl hx)⟩)
  have p0 := hO13.cell q0 (by simp only; omega)
  have p1 := hO13.cell q1 (by simp only; omega)
  have p2 := hO13.cell q2 (by simp only; omega)
  have p3 := hO13.cell q3 (by simp only; omega)
  refine marks_ret1 (v := .agg #[v0, v1, v2, v3]) (D := D) rfl hdef ?_ ⟨_, rfl, (hr.onlyX hO hXL).wide (fun b _ hx => .inl hx), hI.of honW hI.nocS hm13, honW.mono (fun i hi e => by omega)⟩
  have ht' : t[4]?.getD undef = .pointer (some ⟨W.heap.size + 1 + 1, 0, none⟩) := by rw [← ht]; simp
  simp [results, Try.results49, go_sem, p0, p1, p2, p3, ht']

set_option maxRecDepth 100000 in
set_option maxHeartbeats 4000000 in
theorem best_main (q : PP) (H : PHyp q) (X : Nat → Prop) (s : List Int) (W : World) (a : Option Addr) (c : Nat) (hI : PInv q X W) (hs : Ints W a q.n s) (hst : StOk q.f s) (he : ¬ s = q.to) (hna : aboveV q.to s = true) (hX : ∀ b, X b → b < W.heap.size)
    (ih : ∀ (X : Nat → Prop) (x : List Int) (w : World) (ad : Addr) (cx : Nat), stepsB q.f.times s x q.bu = true → x ∈ enum q.f s q.to q.n [] → StOk q.f x → PInv q X w → Ints w (some ad) q.n x → (∀ b, X b → b < w.heap.size) → Calls Try.prog 49 #[.pointer (some ⟨q.bp, 0, none⟩), .slice (some ad) q.n cx] w (BPost q X w x)) :
    Calls Try.prog 49 #[.pointer (some ⟨q.bp, 0, none⟩), .slice a q.n c] W (BPost q X W s) := by
  have hde : Hid (decide (s = q.to) = false) := Lib.hid (by simpa using he)
  have hda := Lib.hid hna
  have HE := Lib.hid he
  have IH := Lib.hid ih
  clear ih
  clear he hna
  have hn1 : 0 < q.n := by have := H.ok.n1; have := H.nt; omega
  have hn6 : q.n ≤ 6 := by have := H.ok.n6; have := H.nt; omega
  have hL := BLoc.start q W a c
  obtain ⟨w3, hw3⟩ : ∃ w3, ((W.alloc (.cells #[.pointer (some ⟨q.bp, 0, none⟩)] 74)).alloc (.cells #[.slice a q.n c] 26)).alloc (.cells #[.int .i64 0, .int .i64 0, .slice none 0 0, .bool false] 79) = w3 := ⟨_, rfl⟩
  rw [hw3] at hL
  have hI3 := hI.gr hL.gr
  have hs3 := hs.gr hL.gr
  have hc2 := hI3.c2
  have b2 := hL.b2
  have b3 := hL.b3
  have heq : ∀ k, Hid (Calls Try.prog 50 #[.slice a q.n c, .slice q.toa q.n q.toc] (w3.drewN k) fun e w' => e = .returned (.bool false) ∧ ∃ m, w' = (w3.drewN k).drewN m) := fun k => Lib.hid (by
    have := equal_any a q.toa q.n c q.n q.toc s q.to (w3.drewN k) (hs3.gr (Gr.drewN _ _)) (hI3.ito.gr (Gr.drewN _ _))
    rw [hde.out] at this
    exact this)
  have HEQ := Lib.hid heq
  clear heq
  refine calls_marks Try.func49 rfl ?_
  simp only [Try.ntmps49, List.size_toArray, List.length_cons, List.length_nil, Nat.reduceAdd, Nat.reduceSub, Array.replicate_succ, Array.replicate_zero, List.push_toArray, List.append_toArray, List.nil_append, List.cons_append]
  go_wp2_with fail
  clear hw3
  go_quiet ((go_at_call 50; exact Calls.quiet_of (HEQ.out _).out))
  obtain ⟨w4, hw4, g4⟩ := drewN_some w3 nq
  rw [hw4]
  clear hw4 b2 b3 hc2
  have hL4 := hL.then g4
  have hI4 := hI3.gr g4
  have hs4 := hs3.gr g4
  clear HEQ hI3 hs3 hL g4
  have hc2 := hI4.c2
  have b2 := hL4.b2
  have b3 := hL4.b3
  have hab : ∀ k, Hid (Calls Try.prog 55 #[.slice q.toa q.n q.toc, .slice a q.n c] (w4.drewN k) fun e w' => e = .returned (.bool true) ∧ ∃ m, w' = (w4.drewN k).drewN m) := fun k => Lib.hid (by
    have := above_any q.toa a q.n q.toc q.n c q.to s (w4.drewN k) (hI4.ito.gr (Gr.drewN _ _)) (hs4.gr (Gr.drewN _ _)) (Nat.le_refl _)
    rw [hda.out] at this
    exact this)
  have HAB := Lib.hid hab
  clear hab
  go_wp2_with fail
  go_quiet ((go_at_call 55; exact Calls.quiet_of (HAB.out _).out))
  obtain ⟨w5, hw5, g5⟩ := drewN_some w4 nq
  rw [hw5]
  clear hw5 b2 b3 hc2
  have hL5 := hL4.then g5
  have hI5 := hI4.gr g5
  have hs5 := hs4.gr g5
  have b3 := hL5.b3
  clear HAB hI4 hs4 hL4 g5
  go_wp2_with (go_at_call 57; refine (keyOf_any _ _ _ _ _ hs5 hn1 hn6).mono ?_; rintro e wk ⟨rfl, g6⟩; unfold keyV; have hz6 := Nat.le_refl wk.heap.size)
  clear b3
  have hK6 := BKey.of (hL5.then g6) (hI5.gr g6) (hs5.gr g6)
  obtain ⟨w6, hw6⟩ : ∃ w6, wk.alloc (.cells #[.int .i64 (s[0]?.getD 0), .int .i64 (s[1]?.getD 0), .int .i64 (s[2]?.getD 0), .int .i64 (s[3]?.getD 0), .int .i64 (s[4]?.getD 0), .int .i64 (s[5]?.getD 0)] 89) = w6 := ⟨_, rfl⟩
  rw [hw6] at hK6 ⊢
  clear hw6
  generalize wk.heap.size = kb at *
  obtain ⟨st, ti, xa, xk, xc, xb, b, hlk, hvb⟩ := best_lookup H hI hst hs.len
  have HLK := Lib.hid hlk
  have HVB := Lib.hid hvb
  have b2 := hK6.loc.b2
  have hc4 := hK6.inv.c4
  clear hlk hvb hL5 hI5 hs5
  refine (wpIn_wide (n := 0)).1 ?_
  refine region_inv (F := Fence.wide) (by kernel_rfl) (by rfl) (by decide) (fun _ => trivial)
    (fun done' u W' => Kn [some (.pointer (some ⟨q.bp, 0, none⟩)), some (.pointer (some ⟨q.bp, 0, none⟩)), some (.pointer (some ⟨q.bp, 4, none⟩)), some (.map (some q.m)), some (.agg #[.int .i64 (s[0]?.getD 0), .int .i64 (s[1]?.getD 0), .int .i64 (s[2]?.getD 0), .int .i64 (s[3]?.getD 0), .int .i64 (s[4]?.getD 0), .int .i64 (s[5]?.getD 0)]), some (.tuple #[.agg #[.int .i64 st, .int .i64 ti, .slice xa xk xc, .bool xb], .bool b]), some (.tuple #[.agg #[.int .i64 st, .int .i64 ti, .slice xa xk xc, .bool xb], .bool b]), some (.agg #[.int .i64 st, .int .i64 ti, .slice xa xk xc, .bool xb]), some (.bool b), some (.pointer (some ⟨w6.heap.size, 0, none⟩)), none, some (.bool b)] done' u ∧ R6 w6 (.int .i64 st) (.int .i64 ti) (.slice xa xk xc) (.bool xb) done' W')
    (fun u => ⟨Kn.start _ _, R6.start w6 (.int .i64 st) (.int .i64 ti) (.slice xa xk xc) (.bool xb)⟩) ⟨?_, ?_, ?_, ?_, ?_, ?_, ?_, ?_, ?_, ?_, ?_, ?_, trivial⟩ ?_
  · rintro u done' W' hd hanc hclo ⟨hk, hR⟩
    have c := (hR.gr.cell (lt_cell b2)).trans b2
    refine op_plain (ro := none) rfl (fun c h => by cases h) fun K hK => ?_
    simp only [fillL, List.setIfInBounds_toArray, List.set_cons_zero, List.set_cons_succ, Nat.zero_add, Nat.reduceAdd] at hK ⊢
    go_simp
    exact hK _ _ ⟨hk.new rfl, hR.quiet (by decide) (by decide)⟩
  · rintro u done' W' hd hanc hclo ⟨hk, hR⟩
    have e0 := hk.get 0 rfl (hanc 0 (mem_of (by kernel_rfl)))
    refine op_plain (ro := none) rfl (fun c h => by cases h) fun K hK => ?_
    simp only [fillL, List.setIfInBounds_toArray, List.set_cons_zero, List.set_cons_succ, Nat.zero_add, Nat.reduceAdd, e0] at hK ⊢
    go_simp
    exact hK _ _ ⟨hk.new rfl, hR.quiet (by decide) (by decide)⟩
  · rintro u done' W' hd hanc hclo ⟨hk, hR⟩
    have e1 := hk.get 1 rfl (hanc 1 (mem_of (by kernel_rfl)))
    refine op_plain (ro := none) rfl (fun c h => by cases h) fun K hK => ?_
    simp only [fillL, List.setIfInBounds_toArray, List.set_cons_zero, List.set_cons_succ, Nat.zero_add, Nat.reduceAdd, e1] at hK ⊢
    go_simp
    exact hK _ _ ⟨hk.new rfl, hR.quiet (by decide) (by decide)⟩
  · rintro u done' W' hd hanc hclo ⟨hk, hR⟩
    have e2 := hk.get 2 rfl (hanc 2 (mem_of (by kernel_rfl)))
    have c := (hR.gr.cell (lt_cell hc4)).trans hc4
    refine op_plain (ro := none) rfl (fun c h => by cases h) fun K hK => ?_
    simp only [fillL, List.setIfInBounds_toArray, List.set_cons_zero, List.set_cons_succ, Nat.zero_add, Nat.reduceAdd, e2] at hK ⊢
    go_simp
    exact hK _ _ ⟨hk.new rfl, hR.quiet (by decide) (by decide)⟩
  · rintro u done' W' hd hanc hclo ⟨hk, hR⟩
    have k0 := (hR.gr.cell (lt_cell hK6.k0)).trans hK6.k0
    have k1 := (hR.gr.cell (lt_cell hK6.k1)).trans hK6.k1
    have k2 := (hR.gr.cell (lt_cell hK6.k2)).trans hK6.k2
    have k3 := (hR.gr.cell (lt_cell hK6.k3)).trans hK6.k3
    have k4 := (hR.gr.cell (lt_cell hK6.k4)).trans hK6.k4
    have k5 := (hR.gr.cell (lt_cell hK6.k5)).trans hK6.k5
    refine op_plain (ro := none) rfl (fun c h => by cases h) fun K hK => ?_
    simp only [fillL, List.setIfInBounds_toArray, List.set_cons_zero, List.set_cons_succ, Nat.zero_add, Nat.reduceAdd] at hK ⊢
    go_simp
    exact hK _ _ ⟨hk.new rfl, hR.quiet (by decide) (by decide)⟩
  · rintro u done' W' hd hanc hclo ⟨hk, hR⟩
    have e3 := hk.get 3 rfl (hanc 3 (mem_of (by kernel_rfl)))
    have e4 := hk.get 4 rfl (hanc 4 (mem_of (by kernel_rfl)))
    have hlk := HLK.out W' ((hK6.loc.gr.trans hR.gr).below.block _ hI.memo.lt)
    refine op_plain (ro := none) rfl (fun c h => by cases h) fun K hK => ?_
    simp only [fillL, List.setIfInBounds_toArray, List.set_cons_zero, List.set_cons_succ, Nat.zero_add, Nat.reduceAdd, e3, e4] at hK ⊢
    go_simp
    exact hK _ _ ⟨hk.new rfl, hR.quiet (by decide) (by decide)⟩
  · rintro u done' W' hd hanc hclo ⟨hk, hR⟩
    have e5 := hk.get 5 rfl (hanc 5 (mem_of (by kernel_rfl)))
    refine op_plain (ro := none) rfl (fun c h => by cases h) fun K hK => ?_
    simp only [fillL, List.setIfInBounds_toArray, List.set_cons_zero, List.set_cons_succ, Nat.zero_add, Nat.reduceAdd, e5] at hK ⊢
    go_simp
    exact hK _ _ ⟨hk.new rfl, hR.quiet (by decide) (by decide)⟩
  · rintro u done' W' hd hanc hclo ⟨hk, hR⟩
    have e6 := hk.get 6 rfl (hanc 6 (mem_of (by kernel_rfl)))
    refine op_plain (ro := none) rfl (fun c h => by cases h) fun K hK => ?_
    simp only [fillL, List.setIfInBounds_toArray, List.set_cons_zero, List.set_cons_succ, Nat.zero_add, Nat.reduceAdd, e6] at hK ⊢
    go_simp
    exact hK _ _ ⟨hk.new rfl, hR.quiet (by decide) (by decide)⟩
  · rintro u done' W' hd hanc hclo ⟨hk, hR⟩
    have e6 := hk.get 6 rfl (hanc 6 (mem_of (by kernel_rfl)))
    refine op_plain (ro := none) rfl (fun c h => by cases h) fun K hK => ?_
    simp only [fillL, List.setIfInBounds_toArray, List.set_cons_zero, List.set_cons_succ, Nat.zero_add, Nat.reduceAdd, e6] at hK ⊢
    go_simp
    exact hK _ _ ⟨hk.new rfl, hR.quiet (by decide) (by decide)⟩
  · rintro u done' W' hd hanc hclo ⟨hk, hR⟩
    have hsz := hR.sz hd
    have h10 : done' 10 = false := not_done hclo hd 10 rfl (by kernel_rfl)
    refine op_plain (ro := none) rfl (fun c h => by cases h) fun K hK => ?_
    simp only [fillL, List.setIfInBounds_toArray, List.set_cons_zero, List.set_cons_succ, Nat.zero_add, Nat.reduceAdd] at hK ⊢
    go_simp
    exact hK _ _ ⟨hk.new rfl, hR.alloc hsz h10⟩
  · rintro u done' W' hd hanc hclo ⟨hk, hR⟩
    have e7 := hk.get 7 rfl (hanc 7 (mem_of (by kernel_rfl)))
    have e9 := hk.get 9 rfl (hanc 9 (mem_of (by kernel_rfl)))
    have h9 := hanc 9 (mem_of (by kernel_rfl))
    obtain ⟨z0, z1, z2, z3⟩ := hR.ce h9 hd
    have fz := hR.fz h9
    have y0 := fz 0
    have y1 := fz 1
    have y2 := fz 2
    have y3 := fz 3
    refine op_plain (ro := none) rfl (fun c h => by cases h) fun K hK => ?_
    simp only [fillL, List.setIfInBounds_toArray, List.set_cons_zero, List.set_cons_succ, Nat.zero_add, Nat.reduceAdd, e7, e9] at hK ⊢
    go_simp
    exact hK undef _ ⟨hk.skip rfl, hR.stored h9 hd⟩
  · rintro u done' W' hd hanc hclo ⟨hk, hR⟩
    have e8 := hk.get 8 rfl (hanc 8 (mem_of (by kernel_rfl)))
    refine op_plain (ro := none) rfl (fun c h => by cases h) fun K hK => ?_
    simp only [fillL, List.setIfInBounds_toArray, List.set_cons_zero, List.set_cons_succ, Nat.zero_add, Nat.reduceAdd, e8] at hK ⊢
    go_simp
    exact hK _ _ ⟨hk.new rfl, hR.quiet (by decide) (by decide)⟩
  · rintro u W' ⟨done', hdn, hk, hR⟩
    have h9 := hdn 9 (by decide)
    obtain ⟨x0, x1, x2, x3⟩ := hR.st (hdn 10 (by decide))
    have hg7 := hR.gr
    have hfz := hR.fz h9
    have e0 := hk.get 0 rfl (hdn 0 (by decide))
    have e1 := hk.get 1 rfl (hdn 1 (by decide))
    have e2 := hk.get 2 rfl (hdn 2 (by decide))
    have e3 := hk.get 3 rfl (hdn 3 (by decide))
    have e4 := hk.get 4 rfl (hdn 4 (by decide))
    have e5 := hk.get 5 rfl (hdn 5 (by decide))
    have e6 := hk.get 6 rfl (hdn 6 (by decide))
    have e7 := hk.get 7 rfl (hdn 7 (by decide))
    have e8 := hk.get 8 rfl (hdn 8 (by decide))
    have e9 := hk.get 9 rfl (hdn 9 (by decide))
    have e11 := hk.get 11 rfl (hdn 11 (by decide))
    simp only [fillL, List.setIfInBounds_toArray, List.set_cons_zero, List.set_cons_succ, Nat.zero_add, Nat.reduceAdd, e0, e1, e2, e3, e4, e5, e6, e7, e8, e9, e11]
    clear hk hR hdn h9 e0 e1 e2 e3 e4 e5 e6 e7 e8 e9 e11
    have hK7 := hK6.then hg7
    clear hg7
    cases b with
    | true =>
      have HR := Lib.hid (HVB.out rfl)
      clear HVB
      have b40 := hK7.loc.b40
      have b41 := hK7.loc.b41
      have b42 := hK7.loc.b42
      have b43 := hK7.loc.b43
      have f40 := hK7.loc.f40
      have f41 := hK7.loc.f41
      have f42 := hK7.loc.f42
      have f43 := hK7.loc.f43
      go_wp2_with fail
      have G := hK7.loc.store
      refine marks_ret0 (v := .agg #[.int .i64 st, .int .i64 ti, .slice xa xk xc, .bool xb]) (by simp [results, Try.results49, go_sem, b40, b41, b42, b43]) rfl
        ⟨_, rfl, HR.out.gr (G _ _ _ _), hI.gr (G _ _ _ _), (G _ _ _ _).only _⟩
    | false =>
      clear HVB x0 x1 x2 x3 hfz HLK
      go_wp2_with fail
      have g8 := Gr.alloc W' (.cells #[.int .i64 0, .int .i64 0, .slice none 0 0, .bool false] 79)
      have hX8 := xcells_new W' (.int .i64 0) (.int .i64 0) (.slice none 0 0) (.bool false)
      have hkb8 : kb < W'.heap.size := lt_cell hK7.k0
      have hK8 := hK7.then g8
      obtain ⟨w8, hw8⟩ : ∃ w8, W'.alloc (.cells #[.int .i64 0, .int .i64 0, .slice none 0 0, .bool false] 79) = w8 := ⟨_, rfl⟩
      rw [hw8] at hK8 hX8 ⊢
      clear hw8 g8 hK7
      obtain ⟨b8, hb8⟩ : ∃ b8, W'.heap.size = b8 := ⟨_, rfl⟩
      rw [hb8] at hX8 hkb8 ⊢
      clear hb8 hK6 hc4 b2
      have b2 := hK8.loc.b2
      have b3 := hK8.loc.b3
      have c0 := hK8.inv.c0
      have c1 := hK8.inv.c1
      have c2 := hK8.inv.c2
      refine (wpIn_wide (n := 0)).1 ?_
      refine region_inv (F := Fence.wide) (by kernel_rfl) (by rfl) (by decide) (fun _ => trivial)
        (fun done' u W' => Kn [some (.pointer (some ⟨q.bp, 0, none⟩)), some (.pointer (some ⟨q.bp, 0, none⟩)), some (.pointer (some ⟨q.bp, 0, none⟩)), some (.agg #[.slice q.ta q.tn q.tc, .slice q.ca q.cn q.cc]), some (.slice a q.n c), some (.pointer (some ⟨q.bp, 0, none⟩)), some (.pointer (some ⟨q.bp, 0, none⟩)), some (.pointer (some ⟨q.bp, 2, none⟩)), some (.slice q.toa q.n q.toc), some (.func (.func 90) #[] #[.pointer (some ⟨w8.heap.size + 1, 0, none⟩), .pointer (some ⟨w8.heap.size, 0, none⟩), .pointer (some ⟨w8.heap.size + 2, 0, none⟩)])] done' u ∧ Tail 9 w8 (fun w9 => w9 = ((w8.drew.alloc (.cells #[.slice q.ta q.tn q.tc, .slice q.ca q.cn q.cc] 25)).alloc (.cells #[.slice a q.n c] 26)).alloc (.cells #[.slice q.toa q.n q.toc] 26)) done' W')
        (fun u => ⟨Kn.start _ _, Tail.start⟩) ⟨?_, ?_, ?_, ?_, ?_, ?_, ?_, ?_, ?_, ?_, trivial⟩ ?_
      · rintro u done' W' hd hanc hclo ⟨hk, hT⟩
        have hg : Gr w8 W' := by rw [hT.before (not_done hclo hd 9 rfl (by kernel_rfl))]; exact Gr.drew _
        have c_b2 := (hg.cell (lt_cell b2)).trans b2
        refine op_plain (ro := none) rfl (fun c h => by cases h) fun K hK => ?_
        simp only [fillL, List.setIfInBounds_toArray, List.set_cons_zero, List.set_cons_succ, Nat.zero_add, Nat.reduceAdd] at hK ⊢
        go_simp
        exact hK _ _ ⟨hk.new rfl, hT.quiet (by decide)⟩
      · rintro u done' W' hd hanc hclo ⟨hk, hT⟩
        have e0 := hk.get 0 rfl (hanc 0 (mem_of (by kernel_rfl)))
        refine op_plain (ro := none) rfl (fun c h => by cases h) fun K hK => ?_
        simp only [fillL, List.setIfInBounds_toArray, List.set_cons_zero, List.set_cons_succ, Nat.zero_add, Nat.reduceAdd, e0] at hK ⊢
        go_simp
        exact hK _ _ ⟨hk.new rfl, hT.quiet (by decide)⟩
      · rintro u done' W' hd hanc hclo ⟨hk, hT⟩
        have e1 := hk.get 1 rfl (hanc 1 (mem_of (by kernel_rfl)))
        refine op_plain (ro := none) rfl (fun c h => by cases h) fun K hK => ?_
        simp only [fillL, List.setIfInBounds_toArray, List.set_cons_zero, List.set_cons_succ, Nat.zero_add, Nat.reduceAdd, e1] at hK ⊢
        go_simp
        exact hK _ _ ⟨hk.new rfl, hT.quiet (by decide)⟩
      · rintro u done' W' hd hanc hclo ⟨hk, hT⟩
        have e2 := hk.get 2 rfl (hanc 2 (mem_of (by kernel_rfl)))
        have hg : Gr w8 W' := by rw [hT.before (not_done hclo hd 9 rfl (by kernel_rfl))]; exact Gr.drew _
        have c_c0 := (hg.cell (lt_cell c0)).trans c0
        have c_c1 := (hg.cell (lt_cell c1)).trans c1
        refine op_plain (ro := none) rfl (fun c h => by cases h) fun K hK => ?_
        simp only [fillL, List.setIfInBounds_toArray, List.set_cons_zero, List.set_cons_succ, Nat.zero_add, Nat.reduceAdd, e2] at hK ⊢
        go_simp
        exact hK _ _ ⟨hk.new rfl, hT.quiet (by decide)⟩
      · rintro u done' W' hd hanc hclo ⟨hk, hT⟩
        have hg : Gr w8 W' := by rw [hT.before (not_done hclo hd 9 rfl (by kernel_rfl))]; exact Gr.drew _
        have c_b3 := (hg.cell (lt_cell b3)).trans b3
        refine op_plain (ro := none) rfl (fun c h => by cases h) fun K hK => ?_
        simp only [fillL, List.setIfInBounds_toArray, List.set_cons_zero, List.set_cons_succ, Nat.zero_add, Nat.reduceAdd] at hK ⊢
        go_simp
        exact hK _ _ ⟨hk.new rfl, hT.quiet (by decide)⟩
      · rintro u done' W' hd hanc hclo ⟨hk, hT⟩
        have hg : Gr w8 W' := by rw [hT.before (not_done hclo hd 9 rfl (by kernel_rfl))]; exact Gr.drew _
        have c_b2 := (hg.cell (lt_cell b2)).trans b2
        refine op_plain (ro := none) rfl (fun c h => by cases h) fun K hK => ?_
        simp only [fillL, List.setIfInBounds_toArray, List.set_cons_zero, List.set_cons_succ, Nat.zero_add, Nat.reduceAdd] at hK ⊢
        go_simp
        exact hK _ _ ⟨hk.new rfl, hT.quiet (by decide)⟩
      · rintro u done' W' hd hanc hclo ⟨hk, hT⟩
        have e5 := hk.get 5 rfl (hanc 5 (mem_of (by kernel_rfl)))
        refine op_plain (ro := none) rfl (fun c h => by cases h) fun K hK => ?_
        simp only [fillL, List.setIfInBounds_toArray, List.set_cons_zero, List.set_cons_succ, Nat.zero_add, Nat.reduceAdd, e5] at hK ⊢
        go_simp
        exact hK _ _ ⟨hk.new rfl, hT.quiet (by decide)⟩
      · rintro u done' W' hd hanc hclo ⟨hk, hT⟩
        have e6 := hk.get 6 rfl (hanc 6 (mem_of (by kernel_rfl)))
        refine op_plain (ro := none) rfl (fun c h => by cases h) fun K hK => ?_
        simp only [fillL, List.setIfInBounds_toArray, List.set_cons_zero, List.set_cons_succ, Nat.zero_add, Nat.reduceAdd, e6] at hK ⊢
        go_simp
        exact hK _ _ ⟨hk.new rfl, hT.quiet (by decide)⟩
      · rintro u done' W' hd hanc hclo ⟨hk, hT⟩
        have e7 := hk.get 7 rfl (hanc 7 (mem_of (by kernel_rfl)))
        have hg : Gr w8 W' := by rw [hT.before (not_done hclo hd 9 rfl (by kernel_rfl))]; exact Gr.drew _
        have c_c2 := (hg.cell (lt_cell c2)).trans c2
        refine op_plain (ro := none) rfl (fun c h => by cases h) fun K hK => ?_
        simp only [fillL, List.setIfInBounds_toArray, List.set_cons_zero, List.set_cons_succ, Nat.zero_add, Nat.reduceAdd, e7] at hK ⊢
        go_simp
        exact hK _ _ ⟨hk.new rfl, hT.quiet (by decide)⟩
      · rintro u done' W' hd hanc hclo ⟨hk, hT⟩
        have e3 := hk.get 3 rfl (hanc 3 (mem_of (by kernel_rfl)))
        have e4 := hk.get 4 rfl (hanc 4 (mem_of (by kernel_rfl)))
        have e8 := hk.get 8 rfl (hanc 8 (mem_of (by kernel_rfl)))
        obtain rfl := hT.before hd
        have HCON := Lib.hid (states_any q.ta q.ca a q.toa q.tn q.tc q.cn q.cc q.n c q.n q.toc w8.drew)
        refine op_plain (ro := none) rfl (fun c h => by cases h) fun K hK => ?_
        simp only [fillL, List.setIfInBounds_toArray, List.set_cons_zero, List.set_cons_succ, Nat.zero_add, Nat.reduceAdd, e3, e4, e8] at hK ⊢
        go_simp
        refine HCON.out.mono ?_
        rintro e w9 ⟨rfl, hw9⟩
        exact hK _ _ ⟨hk.new rfl, Tail.done hw9⟩
      · rintro u W' ⟨done', hdn, hk, hT⟩
        have e0 := hk.get 0 rfl (hdn 0 (by decide))
        have e1 := hk.get 1 rfl (hdn 1 (by decide))
        have e2 := hk.get 2 rfl (hdn 2 (by decide))
        have e3 := hk.get 3 rfl (hdn 3 (by decide))
        have e4 := hk.get 4 rfl (hdn 4 (by decide))
        have e5 := hk.get 5 rfl (hdn 5 (by decide))
        have e6 := hk.get 6 rfl (hdn 6 (by decide))
        have e7 := hk.get 7 rfl (hdn 7 (by decide))
        have e8 := hk.get 8 rfl (hdn 8 (by decide))
        have e9 := hk.get 9 rfl (hdn 9 (by decide))
        simp only [fillL, List.setIfInBounds_toArray, List.set_cons_zero, List.set_cons_succ, Nat.zero_add, Nat.reduceAdd, e0, e1, e2, e3, e4, e5, e6, e7, e8, e9]
        obtain ⟨g9, s9, i0, i1, i2, i3⟩ := NewIter.facts ⟨rfl, hT.after (hdn 9 (by decide))⟩
        clear hk hdn hT e0 e1 e2 e3 e4 e5 e6 e7 e8 e9 b2 b3 c0 c1 c2
        go_wp2_with fail
        have hK9 := (hK8.then (Gr.drew w8)).then g9
        have hX9 := (hX8.gr (Gr.drew w8)).gr g9
        have hB9 : BI q X W s a c kb b8 W'.heap.size [] W' := BI.start hI hK9 hX9
        have l0 := hX9.lt (⟨b8, 0, none⟩, .int .i64 0) (by simp [xcells])
        have hn : BNum q W kb b8 W'.heap.size := ⟨hI.memo.lt, hK8.kge, hkb8, l0⟩
        have hl8 := hX8.lt (⟨b8, 0, none⟩, .int .i64 0) (by simp [xcells])
        have hm8 : q.m < w8.heap.size := by have := hn.i1; have := hn.i2; have := hn.i3; simp only at hl8; omega
        clear hK8 hX8 hX9 s9
        refine range_states (wB := W) (S := fun b => b = q.m ∨ W.heap.size ≤ b) (Y := fun b => b = q.m ∨ b = b8) (f := q.f) (lo := s) (hi := q.to) (n := q.n) (bfr := w8.heap.size + 1) (bfl := w8.heap.size) (bto := w8.heap.size + 2) rfl (hI.base H hs hst) (hK9.loc.gr.only _) ?_ ?_ i2 i0 i1 i3 ?_ ?_ ?_ (BI q X W s a c kb b8 W'.heap.size) (fun _ _ => False) hB9 (fun xs W1 W2 h g => h.keep hn g) (fun _ _ _ h _ => h.elim) ?a1 ?assign ?body ?done (fun _ _ h => h.elim)
        case assign =>
          intro l v w1 K hK
          gi_wp2
          exact hK
        case body =>
          intro pre x ad cx w1 hB _ hx hax hx3 hmem hsx hw
          exact best_round q H X s x W w1 a c kb b8 W'.heap.size cx (W'.heap.size + 1) ad pre _ (by rfl) hI hs hst hn hB hx hax hx3 hsx hX (fun hsb w => IH.out (XL X W.heap.size (W'.heap.size + 4)) x w ad cx hsb hmem hsx)
        case done =>
          intro w10 hB10 hdef
          generalize W'.heap.size = D at *
          have hfv : Hid (bestV q.f q.to q.bu s = foldV q s (enum q.f s q.to q.n [])) := Lib.hid (by rw [bestV_eq (by rw [hs.len, hI.ito.len]), if_neg HE.out, hda.out, hs.len]; rfl)
          have hI10 := hB10.inv hI
          obtain ⟨pa, pk, pc, hl8, hi8, had8⟩ := hB10.best
          have b2 := hB10.loc.at 0 rfl
          have k0 := hB10.loc.at 6 rfl
          have k1 := hB10.loc.at 7 rfl
          have k2 := hB10.loc.at 8 rfl
          have k3 := hB10.loc.at 9 rfl
          have k4 := hB10.loc.at 10 rfl
          have k5 := hB10.loc.at 11 rfl
          have y0 := hl8.at 0 rfl
          have y1 := hl8.at 1 rfl
          have y2 := hl8.at 2 rfl
          have y3 := hl8.at 3 rfl
          have c4 := hI10.c4
          have hrest : RestV (XL X W.heap.size (D + 4)) w10 (.agg #[.int .i64 (foldV q s (enum q.f s q.to q.n [])).steps, .int .i64 (foldV q s (enum q.f s q.to q.n [])).time, .slice pa pk pc, .bool (foldV q s (enum q.f s q.to q.n [])).is]) (bestV q.f q.to q.bu s) := by
            rw [hfv.out]
            refine ⟨pa, pk, pc, rfl, hi8, fun ad e => ⟨fun hx => ?_, (had8 ad e).2⟩⟩
            have h1 := (had8 ad e).1
            have h2 := hn.i1
            rcases hx with hx | hx
            · have := hX _ hx; have := hn.i2; have := hn.i3; have := hn.i4; omega
            · omega
          obtain ⟨o, hrun, hmemo⟩ := memo_store (v := .agg #[.int .i64 (foldV q s (enum q.f s q.to q.n [])).steps, .int .i64 (foldV q s (enum q.f s q.to q.n [])).time, .slice pa pk pc, .bool (foldV q s (enum q.f s q.to q.n [])).is]) Try.underlying75 (hI10.gr (Gr.drew w10)).memo (hst.small H.ok) ⟨hs.len, hrest.gr (Gr.drew w10)⟩
          generalize foldV q s (enum q.f s q.to q.n []) = p at *
          unfold keyV at hrun
          have HRUN := Lib.hid hrun
          clear hrun hfv
          go_wp2_with fail
          refine (wpIn_wide (n := 0)).1 ?_
          refine region_inv (F := Fence.wide) (by kernel_rfl) (by rfl) (by decide) (fun _ => trivial)
            (fun done' u W' => Kn [some (.pointer (some ⟨q.bp, 0, none⟩)), some (.pointer (some ⟨q.bp, 0, none⟩)), some (.pointer (some ⟨q.bp, 4, none⟩)), some (.map (some q.m)), some (.agg #[.int .i64 (s[0]?.getD 0), .int .i64 (s[1]?.getD 0), .int .i64 (s[2]?.getD 0), .int .i64 (s[3]?.getD 0), .int .i64 (s[4]?.getD 0), .int .i64 (s[5]?.getD 0)]), some (.agg #[.int .i64 p.steps, .int .i64 p.time, .slice pa pk pc, .bool p.is]), none] done' u ∧ Tail 6 w10 (fun w11 => w11 = w10.drew.putObj q.m o) done' W')
            (fun u => ⟨Kn.start _ _, Tail.start⟩) ⟨?_, ?_, ?_, ?_, ?_, ?_, ?_, trivial⟩ ?_
          · rintro u done' W' hd hanc hclo ⟨hk, hT⟩
            have hg : Gr w10 W' := by rw [hT.before (not_done hclo hd 6 rfl (by kernel_rfl))]; exact Gr.drew _
            have c_b2 := (hg.cell (lt_cell b2)).trans b2
            refine op_plain (ro := none) rfl (fun c h => by cases h) fun K hK => ?_
            simp only [fillL, List.setIfInBounds_toArray, List.set_cons_zero, List.set_cons_succ, Nat.zero_add, Nat.reduceAdd] at hK ⊢
            go_simp
            exact hK _ _ ⟨hk.new rfl, hT.quiet (by decide)⟩
          · rintro u done' W' hd hanc hclo ⟨hk, hT⟩
            have e0 := hk.get 0 rfl (hanc 0 (mem_of (by kernel_rfl)))
            refine op_plain (ro := none) rfl (fun c h => by cases h) fun K hK => ?_
            simp only [fillL, List.setIfInBounds_toArray, List.set_cons_zero, List.set_cons_succ, Nat.zero_add, Nat.reduceAdd, e0] at hK ⊢
            go_simp
            exact hK _ _ ⟨hk.new rfl, hT.quiet (by decide)⟩
          · rintro u done' W' hd hanc hclo ⟨hk, hT⟩
            have e1 := hk.get 1 rfl (hanc 1 (mem_of (by kernel_rfl)))
            refine op_plain (ro := none) rfl (fun c h => by cases h) fun K hK => ?_
            simp only [fillL, List.setIfInBounds_toArray, List.set_cons_zero, List.set_cons_succ, Nat.zero_add, Nat.reduceAdd, e1] at hK ⊢
            go_simp
            exact hK _ _ ⟨hk.new rfl, hT.quiet (by decide)⟩
          · rintro u done' W' hd hanc hclo ⟨hk, hT⟩
            have e2 := hk.get 2 rfl (hanc 2 (mem_of (by kernel_rfl)))
            have hg : Gr w10 W' := by rw [hT.before (not_done hclo hd 6 rfl (by kernel_rfl))]; exact Gr.drew _
            have c_c4 := (hg.cell (lt_cell c4)).trans c4
            refine op_plain (ro := none) rfl (fun c h => by cases h) fun K hK => ?_
            simp only [fillL, List.setIfInBounds_toArray, List.set_cons_zero, List.set_cons_succ, Nat.zero_add, Nat.reduceAdd, e2] at hK ⊢
            go_simp
            exact hK _ _ ⟨hk.new rfl, hT.quiet (by decide)⟩
          · rintro u done' W' hd hanc hclo ⟨hk, hT⟩
            have hg : Gr w10 W' := by rw [hT.before (not_done hclo hd 6 rfl (by kernel_rfl))]; exact Gr.drew _
            have c_k0 := (hg.cell (lt_cell k0)).trans k0
            have c_k1 := (hg.cell (lt_cell k1)).trans k1
            have c_k2 := (hg.cell (lt_cell k2)).trans k2
            have c_k3 := (hg.cell (lt_cell k3)).trans k3
            have c_k4 := (hg.cell (lt_cell k4)).trans k4
            have c_k5 := (hg.cell (lt_cell k5)).trans k5
            refine op_plain (ro := none) rfl (fun c h => by cases h) fun K hK => ?_
            simp only [fillL, List.setIfInBounds_toArray, List.set_cons_zero, List.set_cons_succ, Nat.zero_add, Nat.reduceAdd] at hK ⊢
            go_simp
            exact hK _ _ ⟨hk.new rfl, hT.quiet (by decide)⟩
          · rintro u done' W' hd hanc hclo ⟨hk, hT⟩
            have hg : Gr w10 W' := by rw [hT.before (not_done hclo hd 6 rfl (by kernel_rfl))]; exact Gr.drew _
            have c_y0 := (hg.cell (lt_cell y0)).trans y0
            have c_y1 := (hg.cell (lt_cell y1)).trans y1
            have c_y2 := (hg.cell (lt_cell y2)).trans y2
            have c_y3 := (hg.cell (lt_cell y3)).trans y3
            refine op_plain (ro := none) rfl (fun c h => by cases h) fun K hK => ?_
            simp only [fillL, List.setIfInBounds_toArray, List.set_cons_zero, List.set_cons_succ, Nat.zero_add, Nat.reduceAdd] at hK ⊢
            go_simp
            exact hK _ _ ⟨hk.new rfl, hT.quiet (by decide)⟩
          · rintro u done' W' hd hanc hclo ⟨hk, hT⟩
            have e3 := hk.get 3 rfl (hanc 3 (mem_of (by kernel_rfl)))
            have e4 := hk.get 4 rfl (hanc 4 (mem_of (by kernel_rfl)))
            have e5 := hk.get 5 rfl (hanc 5 (mem_of (by kernel_rfl)))
            obtain rfl := hT.before hd
            have hrun := HRUN.out
            refine op_plain (ro := none) rfl (fun c h => by cases h) fun K hK => ?_
            simp only [fillL, List.setIfInBounds_toArray, List.set_cons_zero, List.set_cons_succ, Nat.zero_add, Nat.reduceAdd, e3, e4, e5] at hK ⊢
            go_simp
            exact hK undef _ ⟨hk.skip rfl, Tail.done rfl⟩
          · rintro u W' ⟨done', hdn, hk, hT⟩
            have e0 := hk.get 0 rfl (hdn 0 (by decide))
            have e1 := hk.get 1 rfl (hdn 1 (by decide))
            have e2 := hk.get 2 rfl (hdn 2 (by decide))
            have e3 := hk.get 3 rfl (hdn 3 (by decide))
            have e4 := hk.get 4 rfl (hdn 4 (by decide))
            have e5 := hk.get 5 rfl (hdn 5 (by decide))
            simp only [fillL, List.setIfInBounds_toArray, List.set_cons_zero, List.set_cons_succ, Nat.zero_add, Nat.reduceAdd, e0, e1, e2, e3, e4, e5]
            have hw11 := hT.after (hdn 6 (by decide))
            have hO11 : Only (fun b => b = q.m) w10 W' := by rw [hw11]; exact ((Gr.drew w10).only _).trans (putObj_only _ _ _)
            have hm11 : Memo W' q.m (fun s v => s.length = q.n ∧ RestV (XL X W.heap.size (D + 4)) W' v (bestV q.f q.to q.bu s)) := by
              have h1 := hmemo
              rw [← hw11] at h1
              exact h1.mono rfl (fun s v hv => ⟨hv.1, hv.2.only (S := fun b => b = q.m) (by rw [hw11]; exact putObj_only _ _ _) (hI10.gr (Gr.drew w10)).noc⟩)
            have hl11 := hl8.onlyN hO11 hI10.noc
            have hc11 := hB10.loc.onlyN hO11 hI10.noc
            have hD : D < w10.heap.size := (Array.getElem?_eq_some_iff.1 hdef).1
            have hdef11 := (hO11.block D hD (by have := hn.i1; have := hn.i2; have := hn.i3; have := hn.i4; omega)).trans hdef
            have hon11 := hB10.on.trans (hO11.mono' (fun i e => .inl e))
            have hr11 := hrest.only hO11 hI10.noc
            clear hw11 hT hk hdn hmemo HRUN y0 y1 y2 y3 b2 k0 k1 k2 k3 k4 k5 c4 e0 e1 e2 e3 e4 e5
            have y0 := hl11.at 0 rfl
            have y1 := hl11.at 1 rfl
            have y2 := hl11.at 2 rfl
            have y3 := hl11.at 3 rfl
            have r0 := hc11.at 2 rfl
            have r1 := hc11.at 3 rfl
            have r2 := hc11.at 4 rfl
            have r3 := hc11.at 5 rfl
            have f0 := hc11.fr 2 rfl
            have f1 := hc11.fr 3 rfl
            have f2 := hc11.fr 4 rfl
            have f3 := hc11.fr 5 rfl
            go_wp2_with fail
            obtain ⟨w12, hw12⟩ : ∃ w12, (((W'.setCell ⟨W.heap.size + 1 + 1, 0, none⟩ (.int .i64 p.steps)).setCell ⟨W.heap.size + 1 + 1, 1, none⟩ (.int .i64 p.time)).setCell ⟨W.heap.size + 1 + 1, 2, none⟩ (.slice pa pk pc)).setCell ⟨W.heap.size + 1 + 1, 3, none⟩ (.bool p.is) = w12 := ⟨_, rfl⟩
            rw [hw12]
            obtain ⟨q0, q1, q2, q3, _, hsz12, hoth⟩ := setCell4 r0 r1 r2 r3 _ _ _ _ w12 hw12.symm
            have hO12 : Only (fun b => b = W.heap.size + 1 + 1) W' w12 := by
              rw [← hw12]
              exact (((Only.refl (fun b => b = W.heap.size + 1 + 1) W').setCell (p := ⟨W.heap.size + 1 + 1, 0, none⟩) (.inl rfl) _).setCell (p := ⟨W.heap.size + 1 + 1, 1, none⟩) (.inl rfl) _).setCell (p := ⟨W.heap.size + 1 + 1, 2, none⟩) (.inl rfl) _ |>.setCell (p := ⟨W.heap.size + 1 + 1, 3, none⟩) (.inl rfl) _
            clear hw12
            have hdef12 := (hoth D (by have := hn.i2; have := hn.i3; have := hn.i4; omega)).trans hdef11
            have hO13 := putObj_only w12 D (.deferred none)
            exact best_out H hI hn hX hon11 hm11 hr11 hO12 hO13 hdef12 q0 q1 q2 q3
        
        all_goals first | (intro b h; have := hn.i1; have := hn.i2; have := hn.i3; have := hn.i4; omega) | (have := hn.i1; have := hn.i2; have := hn.i3; have := hn.i4; simp only at hl8; omega)
end Go.Proofs.Ytlilojpnhmfnaaa
