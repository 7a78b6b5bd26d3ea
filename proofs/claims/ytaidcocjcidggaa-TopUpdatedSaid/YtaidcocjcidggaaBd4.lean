/- Several texts of this claim in one file. (1) The planner: a round of the loop of best. (2) A function that holds a range over a function: how it is opened, and how it returns. Nothing of the program is proved here. (3) The planner: best, up to its loop. (4) The planner: the contract of best. (5) Plain words: the way that the planner's rests lead. No program in sight. (6) A list of states that a call collects. Nothing of the program is proved here. (7) Contract: Plan. -/
import Derived.Test.YtaidcocjcidggaaBd3
import Derived.RangeFuncNested
import Derived.RangeFuncBound
import Derived.RangeFuncCalls
import Derived.RangeFuncLeaves
import Derived.OwnWalkIn
import Derived.TacticsInMore
import Derived.IntWalk
namespace Go.Proofs.Ytaidcocjcidggaa
set_option linter.unusedSimpArgs false
set_option linter.unusedVariables false
section
open Go.RowKit
attribute [local go_sem] Oper.semAt_some

/-- the body of the first range over a function -/
def firstBody : Code → Option Code
  | .rangeFunc _ _ _ b => some b
  | .seq a b => match firstBody a with | some c => some c | none => firstBody b
  | .cond _ a b => match firstBody a with | some c => some c | none => firstBody b
  | .block _ a => firstBody a
  | .loop a => firstBody a
  | .scope a => firstBody a
  | _ => none

def xcells (b : Nat) (v0 v1 v2 v3 : Value) : List (Addr × Value) := [(⟨b, 0, none⟩, v0), (⟨b, 1, none⟩, v1), (⟨b, 2, none⟩, v2), (⟨b, 3, none⟩, v3)]
theorem xcells_of {w : World} {b : Nat} {v0 v1 v2 v3 : Value} (h0 : w.cell? ⟨b, 0, none⟩ = some v0) (h1 : w.cell? ⟨b, 1, none⟩ = some v1) (h2 : w.cell? ⟨b, 2, none⟩ = some v2) (h3 : w.cell? ⟨b, 3, none⟩ = some v3) (hf : ∀ j, w.frozen? ⟨b, j, none⟩ = false) : LCells w (xcells b v0 v1 v2 v3) := by
  intro p hp
  simp only [xcells, List.mem_cons, List.not_mem_nil, or_false] at hp
  rcases hp with rfl | rfl | rfl | rfl
  · exact ⟨h0, hf 0⟩
  · exact ⟨h1, hf 1⟩
  · exact ⟨h2, hf 2⟩
  · exact ⟨h3, hf 3⟩
theorem xcells_new (w : World) (v0 v1 v2 v3 : Value) : LCells (w.alloc (.cells #[v0, v1, v2, v3] 81)) (xcells w.heap.size v0 v1 v2 v3) :=
  xcells_of (cell_new rfl) (cell_new rfl) (cell_new rfl) (cell_new rfl) (fun _ => frozen_new)
theorem xcells_set1 {w : World} {b : Nat} {v0 v1 v2 v3 : Value} (h : LCells w (xcells b v0 v1 v2 v3)) (v : Value) : LCells (w.setCell ⟨b, 1, none⟩ v) (xcells b v0 v v2 v3) := by
  have h0 := h.at 0 rfl
  have h1 := h.at 1 rfl
  have h2 := h.at 2 rfl
  have h3 := h.at 3 rfl
  have f0 := h.fr 0 rfl
  have f1 := h.fr 1 rfl
  have f2 := h.fr 2 rfl
  have f3 := h.fr 3 rfl
  intro p hp
  simp only [xcells, List.mem_cons, List.not_mem_nil, or_false] at hp
  simp only at h0 h1 h2 h3 f0 f1 f2 f3
  rcases hp with rfl | rfl | rfl | rfl
  · exact ⟨by simp [go_sem, h0], by simpa using f0⟩
  · exact ⟨by simp [go_sem, h1], by simpa using f1⟩
  · exact ⟨by simp [go_sem, h2], by simpa using f2⟩
  · exact ⟨by simp [go_sem, h3], by simpa using f3⟩

structure R16 (w2 : World) (bx : Nat) (p0 p1 p2 p3 s0 s1 s2 s3 : Value) (done : Nat → Bool) (W : World) : Prop where
  gr : Gr w2 W
  pre : done 11 = false → LCells W (xcells bx p0 p1 p2 p3)
  post : done 11 = true → LCells W (xcells bx s0 s1 s2 s3)
theorem R16.quiet {w2 W : World} {bx : Nat} {p0 p1 p2 p3 s0 s1 s2 s3 : Value} {done : Nat → Bool} (h : R16 w2 bx p0 p1 p2 p3 s0 s1 s2 s3 done W) {i : Nat} (hi : 11 ≠ i) : R16 w2 bx p0 p1 p2 p3 s0 s1 s2 s3 (upd done i) W := by
  refine ⟨h.gr, ?_, ?_⟩ <;> simp only [upd_ne hi]
  · exact h.pre
  · exact h.post
theorem R16.call {w2 W W' : World} {bx : Nat} {p0 p1 p2 p3 s0 s1 s2 s3 : Value} {done : Nat → Bool} (h : R16 w2 bx p0 p1 p2 p3 s0 s1 s2 s3 done W) (h11 : done 11 = false) (g : Gr W W') : R16 w2 bx p0 p1 p2 p3 s0 s1 s2 s3 (upd done 8) W' :=
  ⟨h.gr.trans g, fun _ => (h.pre h11).gr g, (fun h => by rw [upd_ne (by decide), h11] at h; cases h)⟩
theorem R16.store {w2 W : World} {bx : Nat} {p0 p1 p2 p3 s1 : Value} {done : Nat → Bool} (h : R16 w2 bx p0 p1 p2 p3 p0 s1 p2 p3 done W) (hb : w2.heap.size = bx) (h11 : done 11 = false) : R16 w2 bx p0 p1 p2 p3 p0 s1 p2 p3 (upd done 11) (W.setCell ⟨bx, 1, none⟩ s1) :=
  ⟨h.gr.setCell (by rw [hb]; exact Nat.le_refl _) _, (fun h => by rw [upd_self] at h; cases h), fun _ => xcells_set1 (h.pre h11) s1⟩

/-- two numbers in a new slice -/
def Two (W : World) (v : Value) (x y : Int) : Prop := ∃ g, v = .slice (some ⟨g, 0, none⟩) 2 2 ∧ W.cell? ((⟨g, 0, none⟩ : Addr).add 0) = some (.int .i64 x) ∧ W.cell? ((⟨g, 0, none⟩ : Addr).add 1) = some (.int .i64 y)

theorem best_set {q : PP} {X : Nat → Prop} {W w w6 : World} {s x : List Int} {a : Option Addr} {c kb b8 D cx : Nat} {ad : Addr} {pre : List (List Int)} {r p : Rs} {pa : Option Addr} {pk pc : Nat} (hn : BNum q W kb b8 D) (hB : BI q X W s a c kb b8 D pre w6) (hO : Only (fun b => b = q.m ∨ b = b8) w w6)
    (hx : Ints w6 (some ad) q.n x) (hx3 : Is3 w6 ad.block) (hax : D + 4 < ad.block) (H : PHyp q) (hfv : foldV q s (pre ++ [x]) = r.via q.f.times s x) (hl : LCells w6 (restL b8 p pa pk pc)) :
    Only (fun b => b = q.m ∨ b = b8) w ((((w6.setCell ⟨b8, 0, none⟩ (.int .i64 (r.steps + 1))).setCell ⟨b8, 1, none⟩ (.int .i64 (r.time + dur q.f.times s x))).setCell ⟨b8, 2, none⟩ (.slice (some ad) q.n cx)).setCell ⟨b8, 3, none⟩ (.bool true)) ∧
    BI q X W s a c kb b8 D (pre ++ [x]) ((((w6.setCell ⟨b8, 0, none⟩ (.int .i64 (r.steps + 1))).setCell ⟨b8, 1, none⟩ (.int .i64 (r.time + dur q.f.times s x))).setCell ⟨b8, 2, none⟩ (.slice (some ad) q.n cx)).setCell ⟨b8, 3, none⟩ (.bool true)) := by
  obtain ⟨w7, hw7⟩ : ∃ w7, (((w6.setCell ⟨b8, 0, none⟩ (.int .i64 (r.steps + 1))).setCell ⟨b8, 1, none⟩ (.int .i64 (r.time + dur q.f.times s x))).setCell ⟨b8, 2, none⟩ (.slice (some ad) q.n cx)).setCell ⟨b8, 3, none⟩ (.bool true) = w7 := ⟨_, rfl⟩
  have g : Only (fun b => b = b8) w6 w7 := by
    rw [← hw7]
    exact ((((Only.refl (fun b => b = b8) w6).setCell (p := ⟨b8, 0, none⟩) (.inl rfl) _).setCell (p := ⟨b8, 1, none⟩) (.inl rfl) _).setCell (p := ⟨b8, 2, none⟩) (.inl rfl) _).setCell (p := ⟨b8, 3, none⟩) (.inl rfl) _
  have h4 := setCell4 (hl.at 0 rfl) (hl.at 1 rfl) (hl.at 2 rfl) (hl.at 3 rfl) _ _ _ _ w7 hw7.symm
  rw [hw7]
  obtain ⟨_, e, l2, _⟩ := hx.at (j := 0) (by have := H.ok.n1; have := H.nt; omega)
  cases e
  have hi4 := hn.i4
  have hx7 : Ints w7 (some ad) q.n x := hx.onlyAt g (fun ad' e h => by cases e; omega)
  refine ⟨hO.trans (g.mono' (fun i e => .inr e)), hB.set hn g (a' := some ad) (k' := q.n) (c' := cx) ?_ (by rw [hfv]; exact hx7) (fun ad' e => by cases e; exact ⟨hax, hx3.only g (by omega)⟩)⟩
  rw [hfv]
  intro p hp
  simp only [restL, List.mem_cons, List.not_mem_nil, or_false] at hp
  rcases hp with rfl | rfl | rfl | rfl
  · exact ⟨h4.1, by rw [h4.2.2.2.2.1]; exact hl.fr 0 rfl⟩
  · exact ⟨h4.2.1, by rw [h4.2.2.2.2.1]; exact hl.fr 1 rfl⟩
  · exact ⟨h4.2.2.1, by rw [h4.2.2.2.2.1]; exact hl.fr 2 rfl⟩
  · exact ⟨h4.2.2.2.1, by rw [h4.2.2.2.2.1]; exact hl.fr 3 rfl⟩

set_option maxRecDepth 100000 in
set_option maxHeartbeats 4000000 in
theorem best_round (q : PP) (H : PHyp q) (X : Nat → Prop) (s x : List Int) (W w : World) (a : Option Addr) (c kb b8 D cx L : Nat) (ad : Addr) (pre : List (List Int)) {tt0 tt1 tt4 tt5 tt6 tt7 tt10 tt11 tt12 tt13 tt14 tt15 tt16 tt17 tt18 tt19 tt20 tt21 tt22 tt23 tt24 tt25 tt26 tt27 tt28 tt29 tt30 tt31 tt32 tt33 tt34 tt35 tt36 tt37 tt38 tt39 tt40 tt41 tt42 tt43 tt44 tt45 tt46 tt47 tt48 tt49 tt50 tt51 tt52 tt53 tt54 tt55 tt56 tt57 tt58 tt59 tt60 tt61 tt62 tt63 tt64 tt65 tt66 tt67 tt68 tt69 tt70 tt71 tt72 tt73 tt74 tt75 tt76 tt77 tt78 tt79 tt80 tt81 tt82 tt83 tt84 tt85 tt86 tt87 tt88 tt89 tt90 tt91 tt92 tt93 tt94 tt95 tt96 tt97 tt98 tt99 tt100 tt101 tt102 tt103 tt104 tt105 tt106 tt107 tt108 tt109 tt110 : Value} (body : Code) (hbo : (Try.f52.body.bind firstBody) = some body)
    (hI : PInv q X W) (hs : Ints W a q.n s) (hst : StOk q.f s) (hn : BNum q W kb b8 D) (hB : BI q X W s a c kb b8 D pre w) (hx : Ints w (some ad) q.n x) (hax : D + 4 < ad.block) (hx3 : Is3 w ad.block) (hsx : StOk q.f x)
    (hX : ∀ b, X b → b < W.heap.size)
    (ih : stepsB q.f.times s x q.bu = true → ∀ (w : World), PInv q (XL X W.heap.size (D + 4)) w → Ints w (some ad) q.n x → (∀ b, XL X W.heap.size (D + 4) b → b < w.heap.size) → Calls Try.prog 52 #[.pointer (some ⟨q.bp, 0, none⟩), .slice (some ad) q.n cx] w (BPost q (XL X W.heap.size (D + 4)) w x)) :
    body.wpIn (Fence.wide.inRound L) 0 Try.prog (roundQ (fun b => b = q.m ∨ b = b8) (BI q X W s a c kb b8 D) (fun _ _ => False) (pre ++ [x]) w) { tmps := #[tt0, tt1, .pointer (some ⟨W.heap.size, 0, none⟩), .pointer (some ⟨W.heap.size + 1, 0, none⟩), tt4, tt5, tt6, tt7, .pointer (some ⟨b8, 0, none⟩), .slice (some ad) q.n cx, tt10, tt11, tt12, tt13, tt14, tt15, tt16, tt17, tt18, tt19, tt20, tt21, tt22, tt23, tt24, tt25, tt26, tt27, tt28, tt29, tt30, tt31, tt32, tt33, tt34, tt35, tt36, tt37, tt38, tt39, tt40, tt41, tt42, tt43, tt44, tt45, tt46, tt47, tt48, tt49, tt50, tt51, tt52, tt53, tt54, tt55, tt56, tt57, tt58, tt59, tt60, tt61, tt62, tt63, tt64, tt65, tt66, tt67, tt68, tt69, tt70, tt71, tt72, tt73, tt74, tt75, tt76, tt77, tt78, tt79, tt80, tt81, tt82, tt83, tt84, tt85, tt86, tt87, tt88, tt89, tt90, tt91, tt92, tt93, tt94, tt95, tt96, tt97, tt98, tt99, tt100, tt101, tt102, tt103, tt104, tt105, tt106, tt107, tt108, tt109, tt110], defers := [] } w := by
  have hIw := hB.inv hI
  have hsw := hs.only hB.on hI.nocS
  have hxw := hx
  have b2 := hB.loc.at 0 rfl
  have b3 := hB.loc.at 1 rfl
  have c0 := hIw.c0
  have c1 := hIw.c1
  have c3 := hIw.c3
  simp only [Try.f52, Option.bind, firstBody] at hbo
  injection hbo with hbo
  subst hbo
  gi_wp2_with fail
  refine region_inv (F := Fence.wide.inRound L) (by kernel_rfl) (by rfl) (by decide) (fun _ => trivial)
    (fun done' u W' => Kn [some (.pointer (some ⟨q.bp, 0, none⟩)), some (.pointer (some ⟨q.bp, 0, none⟩)), some (.pointer (some ⟨q.bp, 0, none⟩)), some (.agg #[.slice q.ta q.tn q.tc, .slice q.ca q.cn q.cc]), some (.slice a q.n c), some (.slice (some ad) q.n cx), some (.pointer (some ⟨q.bp, 0, none⟩)), some (.pointer (some ⟨q.bp, 0, none⟩)), some (.pointer (some ⟨q.bp, 3, none⟩)), some (.int .i64 q.bu), some (.bool (stepsB q.f.times s x q.bu)), some (.bool (!stepsB q.f.times s x q.bu))] done' u ∧ Gr w W')
    (fun u => ⟨Kn.start _ _, Gr.drew w⟩) ⟨?_, ?_, ?_, ?_, ?_, ?_, ?_, ?_, ?_, ?_, ?_, ?_, trivial⟩ ?_
  · rintro u done' W' hd hanc hclo ⟨hk, hg⟩
    have c_b2 := (hg.cell (lt_cell b2)).trans b2
    refine op_plain (ro := some L) rfl (fun c h => by cases h) fun K hK => ?_
    simp only [fillL, List.setIfInBounds_toArray, List.set_cons_zero, List.set_cons_succ, Nat.zero_add, Nat.reduceAdd] at hK ⊢
    go_simp
    exact hK _ _ ⟨hk.new rfl, hg⟩
  · rintro u done' W' hd hanc hclo ⟨hk, hg⟩
    have e0 := hk.get 0 rfl (hanc 0 (mem_of (by kernel_rfl)))
    refine op_plain (ro := some L) rfl (fun c h => by cases h) fun K hK => ?_
    simp only [fillL, List.setIfInBounds_toArray, List.set_cons_zero, List.set_cons_succ, Nat.zero_add, Nat.reduceAdd, e0] at hK ⊢
    go_simp
    exact hK _ _ ⟨hk.new rfl, hg⟩
  · rintro u done' W' hd hanc hclo ⟨hk, hg⟩
    have e1 := hk.get 1 rfl (hanc 1 (mem_of (by kernel_rfl)))
    refine op_plain (ro := some L) rfl (fun c h => by cases h) fun K hK => ?_
    simp only [fillL, List.setIfInBounds_toArray, List.set_cons_zero, List.set_cons_succ, Nat.zero_add, Nat.reduceAdd, e1] at hK ⊢
    go_simp
    exact hK _ _ ⟨hk.new rfl, hg⟩
  · rintro u done' W' hd hanc hclo ⟨hk, hg⟩
    have e2 := hk.get 2 rfl (hanc 2 (mem_of (by kernel_rfl)))
    have c_c0 := (hg.cell (lt_cell c0)).trans c0
    have c_c1 := (hg.cell (lt_cell c1)).trans c1
    refine op_plain (ro := some L) rfl (fun c h => by cases h) fun K hK => ?_
    simp only [fillL, List.setIfInBounds_toArray, List.set_cons_zero, List.set_cons_succ, Nat.zero_add, Nat.reduceAdd, e2] at hK ⊢
    go_simp
    exact hK _ _ ⟨hk.new rfl, hg⟩
  · rintro u done' W' hd hanc hclo ⟨hk, hg⟩
    have c_b3 := (hg.cell (lt_cell b3)).trans b3
    refine op_plain (ro := some L) rfl (fun c h => by cases h) fun K hK => ?_
    simp only [fillL, List.setIfInBounds_toArray, List.set_cons_zero, List.set_cons_succ, Nat.zero_add, Nat.reduceAdd] at hK ⊢
    go_simp
    exact hK _ _ ⟨hk.new rfl, hg⟩
  · rintro u done' W' hd hanc hclo ⟨hk, hg⟩
    refine op_plain (ro := some L) rfl (fun c h => by cases h) fun K hK => ?_
    simp only [fillL, List.setIfInBounds_toArray, List.set_cons_zero, List.set_cons_succ, Nat.zero_add, Nat.reduceAdd] at hK ⊢
    go_simp
    exact hK _ _ ⟨hk.new rfl, hg⟩
  · rintro u done' W' hd hanc hclo ⟨hk, hg⟩
    have c_b2 := (hg.cell (lt_cell b2)).trans b2
    refine op_plain (ro := some L) rfl (fun c h => by cases h) fun K hK => ?_
    simp only [fillL, List.setIfInBounds_toArray, List.set_cons_zero, List.set_cons_succ, Nat.zero_add, Nat.reduceAdd] at hK ⊢
    go_simp
    exact hK _ _ ⟨hk.new rfl, hg⟩
  · rintro u done' W' hd hanc hclo ⟨hk, hg⟩
    have e6 := hk.get 6 rfl (hanc 6 (mem_of (by kernel_rfl)))
    refine op_plain (ro := some L) rfl (fun c h => by cases h) fun K hK => ?_
    simp only [fillL, List.setIfInBounds_toArray, List.set_cons_zero, List.set_cons_succ, Nat.zero_add, Nat.reduceAdd, e6] at hK ⊢
    go_simp
    exact hK _ _ ⟨hk.new rfl, hg⟩
  · rintro u done' W' hd hanc hclo ⟨hk, hg⟩
    have e7 := hk.get 7 rfl (hanc 7 (mem_of (by kernel_rfl)))
    refine op_plain (ro := some L) rfl (fun c h => by cases h) fun K hK => ?_
    simp only [fillL, List.setIfInBounds_toArray, List.set_cons_zero, List.set_cons_succ, Nat.zero_add, Nat.reduceAdd, e7] at hK ⊢
    go_simp
    exact hK _ _ ⟨hk.new rfl, hg⟩
  · rintro u done' W' hd hanc hclo ⟨hk, hg⟩
    have e8 := hk.get 8 rfl (hanc 8 (mem_of (by kernel_rfl)))
    have c_c3 := (hg.cell (lt_cell c3)).trans c3
    refine op_plain (ro := some L) rfl (fun c h => by cases h) fun K hK => ?_
    simp only [fillL, List.setIfInBounds_toArray, List.set_cons_zero, List.set_cons_succ, Nat.zero_add, Nat.reduceAdd, e8] at hK ⊢
    go_simp
    exact hK _ _ ⟨hk.new rfl, hg⟩
  · rintro u done' W' hd hanc hclo ⟨hk, hg⟩
    have e3 := hk.get 3 rfl (hanc 3 (mem_of (by kernel_rfl)))
    have e4 := hk.get 4 rfl (hanc 4 (mem_of (by kernel_rfl)))
    have e5 := hk.get 5 rfl (hanc 5 (mem_of (by kernel_rfl)))
    have e9 := hk.get 9 rfl (hanc 9 (mem_of (by kernel_rfl)))
    have HCON := Lib.hid (steps_any q.ta q.ca a (some ad) q.tn q.tc q.cn q.cc q.n c cx q.f s x q.bu W' (hIw.fl.gr hg) H.ok (hsw.gr hg) (hxw.gr hg) hst hsx)
    refine op_plain (ro := some L) rfl (fun c h => by cases h) fun K hK => ?_
    simp only [fillL, List.setIfInBounds_toArray, List.set_cons_zero, List.set_cons_succ, Nat.zero_add, Nat.reduceAdd, e3, e4, e5, e9] at hK ⊢
    go_simp
    refine HCON.out.mono ?_
    rintro e w2 ⟨rfl, hg2⟩
    exact hK _ _ ⟨hk.new rfl, hg.trans hg2⟩
  · rintro u done' W' hd hanc hclo ⟨hk, hg⟩
    have e10 := hk.get 10 rfl (hanc 10 (mem_of (by kernel_rfl)))
    refine op_plain (ro := some L) rfl (fun c h => by cases h) fun K hK => ?_
    simp only [fillL, List.setIfInBounds_toArray, List.set_cons_zero, List.set_cons_succ, Nat.zero_add, Nat.reduceAdd, e10] at hK ⊢
    go_simp
    exact hK _ _ ⟨hk.new rfl, hg⟩
  · rintro u W' ⟨done', hdn, hk, hg⟩
    have e0 := hk.get 0 rfl (hdn 0 (by decide))
    have e1 := hk.get 1 rfl (hdn 1 (by decide))
    have e2 := hk.get 2 rfl (hdn 2 (by decide))
    have e3 := hk.get 3 rfl (hdn 3 (by decide))
    have e4 := hk.get 4 rfl (hdn 4 (by decide))
    have e5 := hk.get 5 rfl (hdn 5 (by decide))
    have e6 := hk.get 6 rfl (hdn 6 (by decide))
    have e7 := hk.get 7 rfl (hdn 7 (by decide))
    have e8 := hk.get 8 rfl (hdn 8 (by decide))
    have e9 := hk.get 9 rfl (hdn 9 (by decide))
    have e10 := hk.get 10 rfl (hdn 10 (by decide))
    have e11 := hk.get 11 rfl (hdn 11 (by decide))
    simp only [fillL, List.setIfInBounds_toArray, List.set_cons_zero, List.set_cons_succ, Nat.zero_add, Nat.reduceAdd, e0, e1, e2, e3, e4, e5, e6, e7, e8, e9, e10, e11]
    clear hk hdn e0 e1 e2 e3 e4 e5 e6 e7 e8 e9 e10 e11
    cases hsb : stepsB q.f.times s x q.bu with
    | false =>
      have hfo : Hid (foldV q s (pre ++ [x]) = foldV q s pre) := Lib.hid (by simp [foldV, bestStep, hsb])
      clear hsb
      gi_wp2
      exact ⟨hg.only _, (hB.gr hn hg).same hfo.out⟩
    | true =>
      have hB1 := hB.gr hn hg
      have hx1 := hx.gr hg
      have hx13 := hx3.gr hg
      have hXw : ∀ b, XL X W.heap.size (D + 4) b → b < W'.heap.size := fun b hb => by
        have l1 := hB1.on.size
        obtain ⟨ad', e, l2, _⟩ := hx1.at (j := 0) (by have := H.ok.n1; have := H.nt; omega)
        cases e
        rcases hb with hb | hb
        · have := hX b hb; omega
        · omega
      have HIH := Lib.hid (ih hsb W' (hB1.inv hI) hx1 hXw)
      have HSB := Lib.hid hsb
      have b2 := hB1.loc.at 0 rfl
      have hbd := bestV_bd (bu := q.bu) H.ok H.sto x hsx
      have hfo : Hid (foldV q s (pre ++ [x]) = if (bestV q.f q.to q.bu x).is then (if !(foldV q s pre).is || rsLess ((bestV q.f q.to q.bu x).via q.f.times s x) (foldV q s pre) then (bestV q.f q.to q.bu x).via q.f.times s x else foldV q s pre) else foldV q s pre) := Lib.hid (by simp [foldV, bestStep, hsb])
      clear hsb ih
      generalize hr : bestV q.f q.to q.bu x = r at *
      gi_wp2_with fail
      refine ⟨trivial, rfl, ?_⟩
      refine (CallsIn.inRound L (callsIn_wide.2 HIH.out)).mono ?_
      rintro e w2 ⟨v, rfl, ⟨ra, rk, rc, rfl, hri, hrx⟩, hI2, hO2⟩
      rw [hr]
      have HR := Lib.hid hr
      have hB2 := hB1.call hI hO2 hI2
      have hx2 := hx1.only hO2 (hB1.inv hI).noc
      have hx23 := hx13.onlyN hO2 (hB1.inv hI).noc
      have hO02 : Only (fun b => b = q.m ∨ b = b8) w w2 := (hg.only _).trans (hO2.mono' (fun i e => .inl e))
      clear hr b2 hB1 hx1 HIH hO2 hg
      have hq1 := hbd.s0
      have hq2 := hbd.s1
      have hq3 := hbd.t0
      have hq4 := hbd.t1
      cases his : r.is with
      | false =>
        gi_wp2_with fail
        exact ⟨hO02.thenGr (Gr.alloc _ _), (hB2.gr hn (Gr.alloc _ _)).same (by rw [hfo.out, if_neg (by simp [his])])⟩
      | true =>
        have hab := aboveV_le (stepsB_true HSB.out).1
        have hdd := durTo_bd H.ok (fun c hc => (hst.ver c hc).1) hsx (fun c hc => hab c (by rw [hsx.len]; exact hc)) q.f.times.length (Nat.le_refl _)
        have hd0 : 0 ≤ dur q.f.times s x := by unfold dur; rw [hsx.len]; exact hdd.1
        have hd1 : dur q.f.times s x ≤ 60000 := by have := hdd.2; have := H.ok.n6; unfold dur; rw [hsx.len]; omega
        clear hdd
        gi_wp2_with fail
        have hXc := xcells_new w2 (.int .i64 (r.steps + 1)) (.int .i64 r.time) (.slice ra rk rc) (.bool true)
        have hg3 := Gr.alloc w2 (.cells #[.int .i64 (r.steps + 1), .int .i64 r.time, .slice ra rk rc, .bool true] 81)
        obtain ⟨w3, hw3⟩ : ∃ w3, w2.alloc (.cells #[.int .i64 (r.steps + 1), .int .i64 r.time, .slice ra rk rc, .bool true] 81) = w3 := ⟨_, rfl⟩
        rw [hw3] at hXc hg3 ⊢
        clear hw3
        have hI2w := hB2.inv hI
        have hs2w := hs.only hB2.on hI.nocS
        have d2 := hB2.loc.at 0 rfl
        have d3 := hB2.loc.at 1 rfl
        have g0 := hI2w.c0
        have g1 := hI2w.c1
        obtain ⟨bx, hbx⟩ : ∃ bx, w2.heap.size = bx := ⟨_, rfl⟩
        rw [hbx] at hXc ⊢
        have HBX := Lib.hid hbx
        clear hbx
        refine region_inv (F := Fence.wide.inRound L) (by kernel_rfl) (by rfl) (by decide) (fun _ => trivial)
          (fun done' u W' => Kn [some (.pointer (some ⟨bx, 1, none⟩)), some (.int .i64 r.time), some (.pointer (some ⟨q.bp, 0, none⟩)), some (.pointer (some ⟨q.bp, 0, none⟩)), some (.pointer (some ⟨q.bp, 0, none⟩)), some (.agg #[.slice q.ta q.tn q.tc, .slice q.ca q.cn q.cc]), some (.slice a q.n c), some (.slice (some ad) q.n cx), some (.int .i64 (dur q.f.times s x)), some (.int .i64 (r.time + dur q.f.times s x)), some (.pointer (some ⟨bx, 1, none⟩)), none] done' u ∧ R16 w2 bx (.int .i64 (r.steps + 1)) (.int .i64 (r.time)) (.slice ra rk rc) (.bool true) (.int .i64 (r.steps + 1)) (.int .i64 (r.time + dur q.f.times s x)) (.slice ra rk rc) (.bool true) done' W')
          (fun u => ⟨Kn.start _ _, ⟨hg3.drewR, fun _ => hXc.gr (Gr.drew _), (fun h => by cases h)⟩⟩) ⟨?_, ?_, ?_, ?_, ?_, ?_, ?_, ?_, ?_, ?_, ?_, ?_, trivial⟩ ?_
        · rintro u done' W' hd hanc hclo ⟨hk, hR⟩
          refine op_plain (ro := some L) rfl (fun c h => by cases h) fun K hK => ?_
          simp only [fillL, List.setIfInBounds_toArray, List.set_cons_zero, List.set_cons_succ, Nat.zero_add, Nat.reduceAdd] at hK ⊢
          go_simp
          exact hK _ _ ⟨hk.new rfl, hR.quiet (by decide)⟩
        · rintro u done' W' hd hanc hclo ⟨hk, hR⟩
          have e0 := hk.get 0 rfl (hanc 0 (mem_of (by kernel_rfl)))
          have hl := hR.pre (not_done hclo hd 11 rfl (by kernel_rfl))
          have y1 := hl.at 1 rfl
          refine op_plain (ro := some L) rfl (fun c h => by cases h) fun K hK => ?_
          simp only [fillL, List.setIfInBounds_toArray, List.set_cons_zero, List.set_cons_succ, Nat.zero_add, Nat.reduceAdd, e0] at hK ⊢
          go_simp
          exact hK _ _ ⟨hk.new rfl, hR.quiet (by decide)⟩
        · rintro u done' W' hd hanc hclo ⟨hk, hR⟩
          have c_d2 := (hR.gr.cell (lt_cell d2)).trans d2
          refine op_plain (ro := some L) rfl (fun c h => by cases h) fun K hK => ?_
          simp only [fillL, List.setIfInBounds_toArray, List.set_cons_zero, List.set_cons_succ, Nat.zero_add, Nat.reduceAdd] at hK ⊢
          go_simp
          exact hK _ _ ⟨hk.new rfl, hR.quiet (by decide)⟩
        · rintro u done' W' hd hanc hclo ⟨hk, hR⟩
          have e2 := hk.get 2 rfl (hanc 2 (mem_of (by kernel_rfl)))
          refine op_plain (ro := some L) rfl (fun c h => by cases h) fun K hK => ?_
          simp only [fillL, List.setIfInBounds_toArray, List.set_cons_zero, List.set_cons_succ, Nat.zero_add, Nat.reduceAdd, e2] at hK ⊢
          go_simp
          exact hK _ _ ⟨hk.new rfl, hR.quiet (by decide)⟩
        · rintro u done' W' hd hanc hclo ⟨hk, hR⟩
          have e3 := hk.get 3 rfl (hanc 3 (mem_of (by kernel_rfl)))
          refine op_plain (ro := some L) rfl (fun c h => by cases h) fun K hK => ?_
          simp only [fillL, List.setIfInBounds_toArray, List.set_cons_zero, List.set_cons_succ, Nat.zero_add, Nat.reduceAdd, e3] at hK ⊢
          go_simp
          exact hK _ _ ⟨hk.new rfl, hR.quiet (by decide)⟩
        · rintro u done' W' hd hanc hclo ⟨hk, hR⟩
          have e4 := hk.get 4 rfl (hanc 4 (mem_of (by kernel_rfl)))
          have c_g0 := (hR.gr.cell (lt_cell g0)).trans g0
          have c_g1 := (hR.gr.cell (lt_cell g1)).trans g1
          refine op_plain (ro := some L) rfl (fun c h => by cases h) fun K hK => ?_
          simp only [fillL, List.setIfInBounds_toArray, List.set_cons_zero, List.set_cons_succ, Nat.zero_add, Nat.reduceAdd, e4] at hK ⊢
          go_simp
          exact hK _ _ ⟨hk.new rfl, hR.quiet (by decide)⟩
        · rintro u done' W' hd hanc hclo ⟨hk, hR⟩
          have c_d3 := (hR.gr.cell (lt_cell d3)).trans d3
          refine op_plain (ro := some L) rfl (fun c h => by cases h) fun K hK => ?_
          simp only [fillL, List.setIfInBounds_toArray, List.set_cons_zero, List.set_cons_succ, Nat.zero_add, Nat.reduceAdd] at hK ⊢
          go_simp
          exact hK _ _ ⟨hk.new rfl, hR.quiet (by decide)⟩
        · rintro u done' W' hd hanc hclo ⟨hk, hR⟩
          refine op_plain (ro := some L) rfl (fun c h => by cases h) fun K hK => ?_
          simp only [fillL, List.setIfInBounds_toArray, List.set_cons_zero, List.set_cons_succ, Nat.zero_add, Nat.reduceAdd] at hK ⊢
          go_simp
          exact hK _ _ ⟨hk.new rfl, hR.quiet (by decide)⟩
        · rintro u done' W' hd hanc hclo ⟨hk, hR⟩
          have e5 := hk.get 5 rfl (hanc 5 (mem_of (by kernel_rfl)))
          have e6 := hk.get 6 rfl (hanc 6 (mem_of (by kernel_rfl)))
          have e7 := hk.get 7 rfl (hanc 7 (mem_of (by kernel_rfl)))
          have h11 := not_done hclo hd 11 rfl (by kernel_rfl)
          have HCON := Lib.hid (duration_any q.ta q.ca a (some ad) q.tn q.tc q.cn q.cc q.n c cx q.f s x W' (hI2w.fl.gr hR.gr) H.ok (hs2w.gr hR.gr) (hx2.gr hR.gr) (fun c hc => (hst.ver c hc).1) hsx (fun c hc => hab c (by rw [hsx.len]; exact hc)))
          refine op_plain (ro := some L) rfl (fun c h => by cases h) fun K hK => ?_
          simp only [fillL, List.setIfInBounds_toArray, List.set_cons_zero, List.set_cons_succ, Nat.zero_add, Nat.reduceAdd, e5, e6, e7] at hK ⊢
          go_simp
          refine HCON.out.mono ?_
          rintro e w5 ⟨rfl, hg5⟩
          exact hK _ _ ⟨hk.new rfl, hR.call h11 hg5⟩
        · rintro u done' W' hd hanc hclo ⟨hk, hR⟩
          have e1 := hk.get 1 rfl (hanc 1 (mem_of (by kernel_rfl)))
          have e8 := hk.get 8 rfl (hanc 8 (mem_of (by kernel_rfl)))
          have hw : IntKind.i64.wrap (r.time + dur q.f.times s x) = r.time + dur q.f.times s x := IntWalk.i64_in _ (by omega)
          refine op_plain (ro := some L) rfl (fun c h => by cases h) fun K hK => ?_
          simp only [fillL, List.setIfInBounds_toArray, List.set_cons_zero, List.set_cons_succ, Nat.zero_add, Nat.reduceAdd, e1, e8] at hK ⊢
          go_simp
          exact hK _ _ ⟨hk.new rfl, hR.quiet (by decide)⟩
        · rintro u done' W' hd hanc hclo ⟨hk, hR⟩
          refine op_plain (ro := some L) rfl (fun c h => by cases h) fun K hK => ?_
          simp only [fillL, List.setIfInBounds_toArray, List.set_cons_zero, List.set_cons_succ, Nat.zero_add, Nat.reduceAdd] at hK ⊢
          go_simp
          exact hK _ _ ⟨hk.new rfl, hR.quiet (by decide)⟩
        · rintro u done' W' hd hanc hclo ⟨hk, hR⟩
          have e9 := hk.get 9 rfl (hanc 9 (mem_of (by kernel_rfl)))
          have e10 := hk.get 10 rfl (hanc 10 (mem_of (by kernel_rfl)))
          have hl := hR.pre hd
          have y1 := hl.at 1 rfl
          have y2 := hl.fr 1 rfl
          refine op_plain (ro := some L) rfl (fun c h => by cases h) fun K hK => ?_
          simp only [fillL, List.setIfInBounds_toArray, List.set_cons_zero, List.set_cons_succ, Nat.zero_add, Nat.reduceAdd, e9, e10] at hK ⊢
          go_simp
          exact hK undef _ ⟨hk.skip rfl, hR.store HBX.out hd⟩
        · rintro u W' ⟨done', hdn, hk, hR⟩
          have e0 := hk.get 0 rfl (hdn 0 (by decide))
          have e1 := hk.get 1 rfl (hdn 1 (by decide))
          have e2 := hk.get 2 rfl (hdn 2 (by decide))
          have e3 := hk.get 3 rfl (hdn 3 (by decide))
          have e4 := hk.get 4 rfl (hdn 4 (by decide))
          have e5 := hk.get 5 rfl (hdn 5 (by decide))
          have e6 := hk.get 6 rfl (hdn 6 (by decide))
          have e7 := hk.get 7 rfl (hdn 7 (by decide))
          have e8 := hk.get 8 rfl (hdn 8 (by decide))
          have e9 := hk.get 9 rfl (hdn 9 (by decide))
          have e10 := hk.get 10 rfl (hdn 10 (by decide))
          simp only [fillL, List.setIfInBounds_toArray, List.set_cons_zero, List.set_cons_succ, Nat.zero_add, Nat.reduceAdd, e0, e1, e2, e3, e4, e5, e6, e7, e8, e9, e10]
          have hg4 := hR.gr
          have hX4 := hR.post (hdn 11 (by decide))
          clear hk hdn hR hXc hg3 d2 d3 g0 g1 e0 e1 e2 e3 e4 e5 e6 e7 e8 e9 e10
          rename World => w4
          have hB4 := hB2.gr hn hg4
          have hx4 := hx2.gr hg4
          obtain ⟨pa, pk, pc, hl8, hi8, had8⟩ := hB4.best
          have hO04 := hO02.thenGr hg4
          generalize hpp : foldV q s pre = p at hl8 hi8 hfo
          have HPP := Lib.hid hpp
          clear hpp hI2w hs2w
          have x0 := hX4.at 0 rfl
          have x1 := hX4.at 1 rfl
          have y0 := hl8.at 0 rfl
          have y1 := hl8.at 1 rfl
          have y3 := hl8.at 3 rfl
          cases hpi : p.is with
          | false =>
            rw [hpi] at y3
            gi_wp2_with fail
            refine region_inv (F := Fence.wide.inRound L) (by kernel_rfl) (by rfl) (by decide) (fun _ => trivial)
              (fun done' u W' => Kn [some (.pointer (some ⟨b8, 3, none⟩)), some (.bool false), some (.bool true), some (.bool true), none, none, none, none, none, none, none, none, none, none, none, none, none, some (.bool true)] done' u ∧ Gr w4 W' ∧ True)
              (fun u => ⟨Kn.start _ _, ⟨Gr.drew w4, trivial⟩⟩) ⟨?_, ?_, ?_, ?_, ?_, ?_, ?_, ?_, ?_, ?_, ?_, ?_, ?_, ?_, ?_, ?_, ?_, ?_, trivial⟩ ?_
            · rintro u done' W' hd hanc hclo ⟨hk, hg⟩
              refine op_plain (ro := some L) rfl (fun c h => by cases h) fun K hK => ?_
              simp only [fillL, List.setIfInBounds_toArray, List.set_cons_zero, List.set_cons_succ, Nat.zero_add, Nat.reduceAdd] at hK ⊢
              go_simp
              exact hK _ _ ⟨hk.new rfl, hg⟩
            · rintro u done' W' hd hanc hclo ⟨hk, hg⟩
              have e0 := hk.get 0 rfl (hanc 0 (mem_of (by kernel_rfl)))
              have c_y3 := (hg.1.cell (lt_cell y3)).trans y3
              refine op_plain (ro := some L) rfl (fun c h => by cases h) fun K hK => ?_
              simp only [fillL, List.setIfInBounds_toArray, List.set_cons_zero, List.set_cons_succ, Nat.zero_add, Nat.reduceAdd, e0] at hK ⊢
              go_simp
              exact hK _ _ ⟨hk.new rfl, hg⟩
            · rintro u done' W' hd hanc hclo ⟨hk, hg⟩
              have e1 := hk.get 1 rfl (hanc 1 (mem_of (by kernel_rfl)))
              refine op_plain (ro := some L) rfl (fun c h => by cases h) fun K hK => ?_
              simp only [fillL, List.setIfInBounds_toArray, List.set_cons_zero, List.set_cons_succ, Nat.zero_add, Nat.reduceAdd, e1] at hK ⊢
              go_simp
              exact hK _ _ ⟨hk.new rfl, hg⟩
            · rintro u done' W' hd hanc hclo ⟨hk, hg⟩
              have e2 := hk.get 2 rfl (hanc 2 (mem_of (by kernel_rfl)))
              refine op_plain (ro := some L) rfl (fun c h => by cases h) fun K hK => ?_
              simp only [fillL, List.setIfInBounds_toArray, List.set_cons_zero, List.set_cons_succ, Nat.zero_add, Nat.reduceAdd, e2] at hK ⊢
              go_simp
              exact hK _ _ ⟨hk.new rfl, hg⟩
            · intro u done' W' hd hanc hclo hR
              have e3 := hR.1.get 3 rfl (hanc 3 (mem_of (by kernel_rfl)))
              with_reducible refine op_skip 3 false e3 rfl ?_ ?_ rfl ?_
              · decide
              · rfl
              · obtain ⟨hk, hg⟩ := hR
                exact ⟨hk.skip rfl, hg⟩
            · intro u done' W' hd hanc hclo hR
              have e3 := hR.1.get 3 rfl (hanc 3 (mem_of (by kernel_rfl)))
              with_reducible refine op_skip 3 false e3 rfl ?_ ?_ rfl ?_
              · decide
              · rfl
              · obtain ⟨hk, hg⟩ := hR
                exact ⟨hk.skip rfl, hg⟩
            · intro u done' W' hd hanc hclo hR
              have e3 := hR.1.get 3 rfl (hanc 3 (mem_of (by kernel_rfl)))
              with_reducible refine op_skip 3 false e3 rfl ?_ ?_ rfl ?_
              · decide
              · rfl
              · obtain ⟨hk, hg⟩ := hR
                exact ⟨hk.skip rfl, hg⟩
            · intro u done' W' hd hanc hclo hR
              have e3 := hR.1.get 3 rfl (hanc 3 (mem_of (by kernel_rfl)))
              with_reducible refine op_skip 3 false e3 rfl ?_ ?_ rfl ?_
              · decide
              · rfl
              · obtain ⟨hk, hg⟩ := hR
                exact ⟨hk.skip rfl, hg⟩
            · intro u done' W' hd hanc hclo hR
              have e3 := hR.1.get 3 rfl (hanc 3 (mem_of (by kernel_rfl)))
              with_reducible refine op_skip 3 false e3 rfl ?_ ?_ rfl ?_
              · decide
              · rfl
              · obtain ⟨hk, hg⟩ := hR
                exact ⟨hk.skip rfl, hg⟩
            · intro u done' W' hd hanc hclo hR
              have e3 := hR.1.get 3 rfl (hanc 3 (mem_of (by kernel_rfl)))
              with_reducible refine op_skip 3 false e3 rfl ?_ ?_ rfl ?_
              · decide
              · rfl
              · obtain ⟨hk, hg⟩ := hR
                exact ⟨hk.skip rfl, hg⟩
            · intro u done' W' hd hanc hclo hR
              have e3 := hR.1.get 3 rfl (hanc 3 (mem_of (by kernel_rfl)))
              with_reducible refine op_skip 3 false e3 rfl ?_ ?_ rfl ?_
              · decide
              · rfl
              · obtain ⟨hk, hg⟩ := hR
                exact ⟨hk.skip rfl, hg⟩
            · intro u done' W' hd hanc hclo hR
              have e3 := hR.1.get 3 rfl (hanc 3 (mem_of (by kernel_rfl)))
              with_reducible refine op_skip 3 false e3 rfl ?_ ?_ rfl ?_
              · decide
              · rfl
              · obtain ⟨hk, hg⟩ := hR
                exact ⟨hk.skip rfl, hg⟩
            · intro u done' W' hd hanc hclo hR
              have e3 := hR.1.get 3 rfl (hanc 3 (mem_of (by kernel_rfl)))
              with_reducible refine op_skip 3 false e3 rfl ?_ ?_ rfl ?_
              · decide
              · rfl
              · obtain ⟨hk, hg⟩ := hR
                exact ⟨hk.skip rfl, hg⟩
            · intro u done' W' hd hanc hclo hR
              have e3 := hR.1.get 3 rfl (hanc 3 (mem_of (by kernel_rfl)))
              with_reducible refine op_skip 3 false e3 rfl ?_ ?_ rfl ?_
              · decide
              · rfl
              · obtain ⟨hk, hg⟩ := hR
                exact ⟨hk.skip rfl, hg⟩
            · intro u done' W' hd hanc hclo hR
              have e3 := hR.1.get 3 rfl (hanc 3 (mem_of (by kernel_rfl)))
              with_reducible refine op_skip 3 false e3 rfl ?_ ?_ rfl ?_
              · decide
              · rfl
              · obtain ⟨hk, hg⟩ := hR
                exact ⟨hk.skip rfl, hg⟩
            · intro u done' W' hd hanc hclo hR
              have e3 := hR.1.get 3 rfl (hanc 3 (mem_of (by kernel_rfl)))
              with_reducible refine op_skip 3 false e3 rfl ?_ ?_ rfl ?_
              · decide
              · rfl
              · obtain ⟨hk, hg⟩ := hR
                exact ⟨hk.skip rfl, hg⟩
            · intro u done' W' hd hanc hclo hR
              have e3 := hR.1.get 3 rfl (hanc 3 (mem_of (by kernel_rfl)))
              with_reducible refine op_skip 3 false e3 rfl ?_ ?_ rfl ?_
              · decide
              · rfl
              · obtain ⟨hk, hg⟩ := hR
                exact ⟨hk.skip rfl, hg⟩
            · rintro u done' W' hd hanc hclo ⟨hk, hg⟩
              have e3 := hk.get 3 rfl (hanc 3 (mem_of (by kernel_rfl)))
              refine op_plain (ro := some L) rfl (fun c h => by cases h) fun K hK => ?_
              simp only [fillL, List.setIfInBounds_toArray, List.set_cons_zero, List.set_cons_succ, Nat.zero_add, Nat.reduceAdd, e3] at hK ⊢
              go_simp
              exact hK _ _ ⟨hk.new rfl, hg⟩
            · rintro u W' ⟨done', hdn, hk, hg⟩
              have e0 := hk.get 0 rfl (hdn 0 (by decide))
              have e1 := hk.get 1 rfl (hdn 1 (by decide))
              have e2 := hk.get 2 rfl (hdn 2 (by decide))
              have e3 := hk.get 3 rfl (hdn 3 (by decide))
              have e17 := hk.get 17 rfl (hdn 17 (by decide))
              simp only [fillL, List.setIfInBounds_toArray, List.set_cons_zero, List.set_cons_succ, Nat.zero_add, Nat.reduceAdd, e0, e1, e2, e3, e17]
              have hX5 := hX4.gr hg.1
              have hl5 := hl8.gr hg.1
              have hB5 := hB4.gr hn hg.1
              have hx5 := hx4.gr hg.1
              have hO05 := hO04.thenGr hg.1
              have HFV : Hid (foldV q s (pre ++ [x]) = r.via q.f.times s x) := Lib.hid (by rw [hfo.out, if_pos his, if_pos (by simp [hpi])])
              clear hX4 hl8 hB4 hx4 hO04 hfo x0 x1 y0 y1 y3
              have x0 := hX5.at 0 rfl
              have x1 := hX5.at 1 rfl
              have x2 := hX5.at 2 rfl
              have x3 := hX5.at 3 rfl
              have xf := hX5.fr 2 rfl
              have y0 := hl5.at 0 rfl
              have y1 := hl5.at 1 rfl
              have y2 := hl5.at 2 rfl
              have y3 := hl5.at 3 rfl
              have z0 := hl5.fr 0 rfl
              have z1 := hl5.fr 1 rfl
              have z2 := hl5.fr 2 rfl
              have z3 := hl5.fr 3 rfl
              have hnb : b8 < bx := by
                have l1 := hn.i4
                obtain ⟨_, e, l2, _⟩ := hx2.at (j := 0) (by have := H.ok.n1; have := H.nt; omega)
                cases e
                have := HBX.out
                omega
              have hne : bx ≠ b8 := by omega
              have hne2 : b8 ≠ bx := by omega
              gi_wp2_with fail
              have hG6 : Gr w2 (W'.setCell ⟨bx, 2, none⟩ (.slice (some ad) q.n cx)) := (hg4.trans hg.1).setCell (by rw [HBX.out]; exact Nat.le_refl _) _
              exact best_set hn (hB2.gr hn hG6) (hO02.thenGr hG6) (hx2.gr hG6) (hx23.gr hG6) hax H HFV.out (hl5.only (S := fun b => b = bx) (Only.setCell (S := fun b => b = bx) (Only.refl _ _) (p := ⟨bx, 2, none⟩) (.inl rfl) _) (fun p hp => by rw [restL_blocks p hp]; exact hne2))
          | true =>
            rw [hpi] at y3
            gi_wp2_with fail
            refine region_inv (F := Fence.wide.inRound L) (by kernel_rfl) (by rfl) (by decide) (fun _ => trivial)
              (fun done' u W' => Kn [some (.pointer (some ⟨b8, 3, none⟩)), some (.bool true), some (.bool false), some (.bool false), some (.pointer (some ⟨bx, 0, none⟩)), some (.int .i64 (r.steps + 1)), some (.pointer (some ⟨b8, 0, none⟩)), some (.int .i64 p.steps), some (.int .i64 (cmpI (r.steps + 1) p.steps)), some (.pointer (some ⟨bx, 1, none⟩)), some (.int .i64 (r.time + dur q.f.times s x)), some (.pointer (some ⟨b8, 1, none⟩)), some (.int .i64 p.time), some (.int .i64 (cmpI (r.time + dur q.f.times s x) p.time)), none, some (.int .i64 (orI (cmpI (r.steps + 1) p.steps) (cmpI (r.time + dur q.f.times s x) p.time))), some (.bool (decide (orI (cmpI (r.steps + 1) p.steps) (cmpI (r.time + dur q.f.times s x) p.time) < 0))), some (.bool (decide (orI (cmpI (r.steps + 1) p.steps) (cmpI (r.time + dur q.f.times s x) p.time) < 0)))] done' u ∧ Gr w4 W' ∧ (done' 14 = true → Two W' (u 14) (cmpI (r.steps + 1) p.steps) (cmpI (r.time + dur q.f.times s x) p.time)))
              (fun u => ⟨Kn.start _ _, ⟨Gr.drew w4, fun h => by cases h⟩⟩) ⟨?_, ?_, ?_, ?_, ?_, ?_, ?_, ?_, ?_, ?_, ?_, ?_, ?_, ?_, ?_, ?_, ?_, ?_, trivial⟩ ?_
            · rintro u done' W' hd hanc hclo ⟨hk, hg⟩
              refine op_plain (ro := some L) rfl (fun c h => by cases h) fun K hK => ?_
              simp only [fillL, List.setIfInBounds_toArray, List.set_cons_zero, List.set_cons_succ, Nat.zero_add, Nat.reduceAdd] at hK ⊢
              go_simp
              exact hK _ _ ⟨hk.new rfl, ⟨hg.1, fun h => by rw [upd_ne (by decide)] at h; simpa using hg.2 h⟩⟩
            · rintro u done' W' hd hanc hclo ⟨hk, hg⟩
              have e0 := hk.get 0 rfl (hanc 0 (mem_of (by kernel_rfl)))
              have c_y3 := (hg.1.cell (lt_cell y3)).trans y3
              refine op_plain (ro := some L) rfl (fun c h => by cases h) fun K hK => ?_
              simp only [fillL, List.setIfInBounds_toArray, List.set_cons_zero, List.set_cons_succ, Nat.zero_add, Nat.reduceAdd, e0] at hK ⊢
              go_simp
              exact hK _ _ ⟨hk.new rfl, ⟨hg.1, fun h => by rw [upd_ne (by decide)] at h; simpa using hg.2 h⟩⟩
            · rintro u done' W' hd hanc hclo ⟨hk, hg⟩
              have e1 := hk.get 1 rfl (hanc 1 (mem_of (by kernel_rfl)))
              refine op_plain (ro := some L) rfl (fun c h => by cases h) fun K hK => ?_
              simp only [fillL, List.setIfInBounds_toArray, List.set_cons_zero, List.set_cons_succ, Nat.zero_add, Nat.reduceAdd, e1] at hK ⊢
              go_simp
              exact hK _ _ ⟨hk.new rfl, ⟨hg.1, fun h => by rw [upd_ne (by decide)] at h; simpa using hg.2 h⟩⟩
            · rintro u done' W' hd hanc hclo ⟨hk, hg⟩
              have e2 := hk.get 2 rfl (hanc 2 (mem_of (by kernel_rfl)))
              refine op_plain (ro := some L) rfl (fun c h => by cases h) fun K hK => ?_
              simp only [fillL, List.setIfInBounds_toArray, List.set_cons_zero, List.set_cons_succ, Nat.zero_add, Nat.reduceAdd, e2] at hK ⊢
              go_simp
              exact hK _ _ ⟨hk.new rfl, ⟨hg.1, fun h => by rw [upd_ne (by decide)] at h; simpa using hg.2 h⟩⟩
            · intro u done' W' hd hanc hclo hR
              have hk := hR.1
              have e3 := hk.get 3 rfl (hanc 3 (mem_of (by kernel_rfl)))
              with_reducible refine op_meetIn 3 false e3 ?_ ?_ ?_ ?_
              · decide
              · rfl
              · rfl
              refine op_in (ro := some L) ?_ ?_
              · intro c h; cases h
              intro K hK
              have hg := hR.2
              simp only [fillL, List.setIfInBounds_toArray, List.set_cons_zero, List.set_cons_succ, Nat.zero_add, Nat.reduceAdd, e3] at hK ⊢
              go_simp
              exact hK _ _ ⟨hk.new rfl, ⟨hg.1, fun h => by rw [upd_ne (by decide)] at h; simpa using hg.2 h⟩⟩
            · intro u done' W' hd hanc hclo hR
              have hk := hR.1
              have e3 := hk.get 3 rfl (hanc 3 (mem_of (by kernel_rfl)))
              have e4 := hk.get 4 rfl (hanc 4 (mem_of (by kernel_rfl)))
              with_reducible refine op_meetIn 3 false e3 ?_ ?_ ?_ ?_
              · decide
              · rfl
              · rfl
              refine op_in (ro := some L) ?_ ?_
              · intro c h; cases h
              intro K hK
              have hg := hR.2
              have c_x0 := (hg.1.cell (lt_cell x0)).trans x0
              simp only [fillL, List.setIfInBounds_toArray, List.set_cons_zero, List.set_cons_succ, Nat.zero_add, Nat.reduceAdd, e3, e4] at hK ⊢
              go_simp
              exact hK _ _ ⟨hk.new rfl, ⟨hg.1, fun h => by rw [upd_ne (by decide)] at h; simpa using hg.2 h⟩⟩
            · intro u done' W' hd hanc hclo hR
              have hk := hR.1
              have e3 := hk.get 3 rfl (hanc 3 (mem_of (by kernel_rfl)))
              with_reducible refine op_meetIn 3 false e3 ?_ ?_ ?_ ?_
              · decide
              · rfl
              · rfl
              refine op_in (ro := some L) ?_ ?_
              · intro c h; cases h
              intro K hK
              have hg := hR.2
              simp only [fillL, List.setIfInBounds_toArray, List.set_cons_zero, List.set_cons_succ, Nat.zero_add, Nat.reduceAdd, e3] at hK ⊢
              go_simp
              exact hK _ _ ⟨hk.new rfl, ⟨hg.1, fun h => by rw [upd_ne (by decide)] at h; simpa using hg.2 h⟩⟩
            · intro u done' W' hd hanc hclo hR
              have hk := hR.1
              have e3 := hk.get 3 rfl (hanc 3 (mem_of (by kernel_rfl)))
              have e6 := hk.get 6 rfl (hanc 6 (mem_of (by kernel_rfl)))
              with_reducible refine op_meetIn 3 false e3 ?_ ?_ ?_ ?_
              · decide
              · rfl
              · rfl
              refine op_in (ro := some L) ?_ ?_
              · intro c h; cases h
              intro K hK
              have hg := hR.2
              have c_y0 := (hg.1.cell (lt_cell y0)).trans y0
              simp only [fillL, List.setIfInBounds_toArray, List.set_cons_zero, List.set_cons_succ, Nat.zero_add, Nat.reduceAdd, e3, e6] at hK ⊢
              go_simp
              exact hK _ _ ⟨hk.new rfl, ⟨hg.1, fun h => by rw [upd_ne (by decide)] at h; simpa using hg.2 h⟩⟩
            · intro u done' W' hd hanc hclo hR
              have hk := hR.1
              have e3 := hk.get 3 rfl (hanc 3 (mem_of (by kernel_rfl)))
              have e5 := hk.get 5 rfl (hanc 5 (mem_of (by kernel_rfl)))
              have e7 := hk.get 7 rfl (hanc 7 (mem_of (by kernel_rfl)))
              with_reducible refine op_meetIn 3 false e3 ?_ ?_ ?_ ?_
              · decide
              · rfl
              · rfl
              refine op_in (ro := some L) ?_ ?_
              · intro c h; cases h
              intro K hK
              have hg := hR.2
              have HCON := Lib.hid (compare_any (r.steps + 1) p.steps W')
              simp only [fillL, List.setIfInBounds_toArray, List.set_cons_zero, List.set_cons_succ, Nat.zero_add, Nat.reduceAdd, e3, e5, e7] at hK ⊢
              go_simp
              refine HCON.out.mono ?_
              rintro e w5 ⟨rfl, rfl⟩
              exact hK _ _ ⟨hk.new rfl, ⟨hg.1, fun h => by rw [upd_ne (by decide)] at h; simpa using hg.2 h⟩⟩
            · intro u done' W' hd hanc hclo hR
              have hk := hR.1
              have e3 := hk.get 3 rfl (hanc 3 (mem_of (by kernel_rfl)))
              with_reducible refine op_meetIn 3 false e3 ?_ ?_ ?_ ?_
              · decide
              · rfl
              · rfl
              refine op_in (ro := some L) ?_ ?_
              · intro c h; cases h
              intro K hK
              have hg := hR.2
              simp only [fillL, List.setIfInBounds_toArray, List.set_cons_zero, List.set_cons_succ, Nat.zero_add, Nat.reduceAdd, e3] at hK ⊢
              go_simp
              exact hK _ _ ⟨hk.new rfl, ⟨hg.1, fun h => by rw [upd_ne (by decide)] at h; simpa using hg.2 h⟩⟩
            · intro u done' W' hd hanc hclo hR
              have hk := hR.1
              have e3 := hk.get 3 rfl (hanc 3 (mem_of (by kernel_rfl)))
              have e9 := hk.get 9 rfl (hanc 9 (mem_of (by kernel_rfl)))
              with_reducible refine op_meetIn 3 false e3 ?_ ?_ ?_ ?_
              · decide
              · rfl
              · rfl
              refine op_in (ro := some L) ?_ ?_
              · intro c h; cases h
              intro K hK
              have hg := hR.2
              have c_x1 := (hg.1.cell (lt_cell x1)).trans x1
              simp only [fillL, List.setIfInBounds_toArray, List.set_cons_zero, List.set_cons_succ, Nat.zero_add, Nat.reduceAdd, e3, e9] at hK ⊢
              go_simp
              exact hK _ _ ⟨hk.new rfl, ⟨hg.1, fun h => by rw [upd_ne (by decide)] at h; simpa using hg.2 h⟩⟩
            · intro u done' W' hd hanc hclo hR
              have hk := hR.1
              have e3 := hk.get 3 rfl (hanc 3 (mem_of (by kernel_rfl)))
              with_reducible refine op_meetIn 3 false e3 ?_ ?_ ?_ ?_
              · decide
              · rfl
              · rfl
              refine op_in (ro := some L) ?_ ?_
              · intro c h; cases h
              intro K hK
              have hg := hR.2
              simp only [fillL, List.setIfInBounds_toArray, List.set_cons_zero, List.set_cons_succ, Nat.zero_add, Nat.reduceAdd, e3] at hK ⊢
              go_simp
              exact hK _ _ ⟨hk.new rfl, ⟨hg.1, fun h => by rw [upd_ne (by decide)] at h; simpa using hg.2 h⟩⟩
            · intro u done' W' hd hanc hclo hR
              have hk := hR.1
              have e3 := hk.get 3 rfl (hanc 3 (mem_of (by kernel_rfl)))
              have e11 := hk.get 11 rfl (hanc 11 (mem_of (by kernel_rfl)))
              with_reducible refine op_meetIn 3 false e3 ?_ ?_ ?_ ?_
              · decide
              · rfl
              · rfl
              refine op_in (ro := some L) ?_ ?_
              · intro c h; cases h
              intro K hK
              have hg := hR.2
              have c_y1 := (hg.1.cell (lt_cell y1)).trans y1
              simp only [fillL, List.setIfInBounds_toArray, List.set_cons_zero, List.set_cons_succ, Nat.zero_add, Nat.reduceAdd, e3, e11] at hK ⊢
              go_simp
              exact hK _ _ ⟨hk.new rfl, ⟨hg.1, fun h => by rw [upd_ne (by decide)] at h; simpa using hg.2 h⟩⟩
            · intro u done' W' hd hanc hclo hR
              have hk := hR.1
              have e3 := hk.get 3 rfl (hanc 3 (mem_of (by kernel_rfl)))
              have e10 := hk.get 10 rfl (hanc 10 (mem_of (by kernel_rfl)))
              have e12 := hk.get 12 rfl (hanc 12 (mem_of (by kernel_rfl)))
              with_reducible refine op_meetIn 3 false e3 ?_ ?_ ?_ ?_
              · decide
              · rfl
              · rfl
              refine op_in (ro := some L) ?_ ?_
              · intro c h; cases h
              intro K hK
              have hg := hR.2
              have HCON := Lib.hid (compare_any (r.time + dur q.f.times s x) p.time W')
              simp only [fillL, List.setIfInBounds_toArray, List.set_cons_zero, List.set_cons_succ, Nat.zero_add, Nat.reduceAdd, e3, e10, e12] at hK ⊢
              go_simp
              refine HCON.out.mono ?_
              rintro e w5 ⟨rfl, rfl⟩
              exact hK _ _ ⟨hk.new rfl, ⟨hg.1, fun h => by rw [upd_ne (by decide)] at h; simpa using hg.2 h⟩⟩
            · intro u done' W' hd hanc hclo hR
              have hk := hR.1
              have e3 := hk.get 3 rfl (hanc 3 (mem_of (by kernel_rfl)))
              have e8 := hk.get 8 rfl (hanc 8 (mem_of (by kernel_rfl)))
              have e13 := hk.get 13 rfl (hanc 13 (mem_of (by kernel_rfl)))
              with_reducible refine op_meetIn 3 false e3 ?_ ?_ ?_ ?_
              · decide
              · rfl
              · rfl
              refine op_in (ro := some L) ?_ ?_
              · intro c h; cases h
              intro K hK
              have hg := hR.2
              simp only [fillL, List.setIfInBounds_toArray, List.set_cons_zero, List.set_cons_succ, Nat.zero_add, Nat.reduceAdd, e3, e8, e13] at hK ⊢
              go_simp
              exact hK _ _ ⟨hk.skip rfl, ⟨hg.1.allocR _, fun _ => ⟨_, by simp, cell_new rfl, cell_new rfl⟩⟩⟩
            · intro u done' W' hd hanc hclo hR
              have hk := hR.1
              have e3 := hk.get 3 rfl (hanc 3 (mem_of (by kernel_rfl)))
              with_reducible refine op_meetIn 3 false e3 ?_ ?_ ?_ ?_
              · decide
              · rfl
              · rfl
              refine op_in (ro := some L) ?_ ?_
              · intro c h; cases h
              intro K hK
              have hg := hR.2
              obtain ⟨gg, e14, t0, t1⟩ := hg.2 (hanc 14 (mem_of (by kernel_rfl)))
              have HCON := Lib.hid (or_any ⟨gg, 0, none⟩ 2 (cmpI (r.steps + 1) p.steps) (cmpI (r.time + dur q.f.times s x) p.time) W' t0 t1)
              simp only [fillL, List.setIfInBounds_toArray, List.set_cons_zero, List.set_cons_succ, Nat.zero_add, Nat.reduceAdd, e3, e14] at hK ⊢
              go_simp
              refine HCON.out.mono ?_
              rintro e w5 ⟨rfl, rfl⟩
              exact hK _ _ ⟨hk.new rfl, ⟨hg.1, fun _ => ⟨gg, by simp, t0, t1⟩⟩⟩
            · intro u done' W' hd hanc hclo hR
              have hk := hR.1
              have e3 := hk.get 3 rfl (hanc 3 (mem_of (by kernel_rfl)))
              have e15 := hk.get 15 rfl (hanc 15 (mem_of (by kernel_rfl)))
              with_reducible refine op_meetIn 3 false e3 ?_ ?_ ?_ ?_
              · decide
              · rfl
              · rfl
              refine op_in (ro := some L) ?_ ?_
              · intro c h; cases h
              intro K hK
              have hg := hR.2
              simp only [fillL, List.setIfInBounds_toArray, List.set_cons_zero, List.set_cons_succ, Nat.zero_add, Nat.reduceAdd, e3, e15] at hK ⊢
              go_simp
              exact hK _ _ ⟨hk.new rfl, ⟨hg.1, fun h => by rw [upd_ne (by decide)] at h; simpa using hg.2 h⟩⟩
            · rintro u done' W' hd hanc hclo ⟨hk, hg⟩
              have e3 := hk.get 3 rfl (hanc 3 (mem_of (by kernel_rfl)))
              have e16 := hk.get 16 rfl (hanc 16 (mem_of (by kernel_rfl)))
              refine op_plain (ro := some L) rfl (fun c h => by cases h) fun K hK => ?_
              simp only [fillL, List.setIfInBounds_toArray, List.set_cons_zero, List.set_cons_succ, Nat.zero_add, Nat.reduceAdd, e3, e16] at hK ⊢
              go_simp
              exact hK _ _ ⟨hk.new rfl, ⟨hg.1, fun h => by rw [upd_ne (by decide)] at h; simpa using hg.2 h⟩⟩
            · rintro u W' ⟨done', hdn, hk, hg⟩
              have e0 := hk.get 0 rfl (hdn 0 (by decide))
              have e1 := hk.get 1 rfl (hdn 1 (by decide))
              have e2 := hk.get 2 rfl (hdn 2 (by decide))
              have e3 := hk.get 3 rfl (hdn 3 (by decide))
              have e17 := hk.get 17 rfl (hdn 17 (by decide))
              simp only [fillL, List.setIfInBounds_toArray, List.set_cons_zero, List.set_cons_succ, Nat.zero_add, Nat.reduceAdd, e0, e1, e2, e3, e17]
              cases hless : decide (orI (cmpI (r.steps + 1) p.steps) (cmpI (r.time + dur q.f.times s x) p.time) < 0) with
              | true =>
                have hX5 := hX4.gr hg.1
                have hl5 := hl8.gr hg.1
                have hB5 := hB4.gr hn hg.1
                have hx5 := hx4.gr hg.1
                have hO05 := hO04.thenGr hg.1
                have HFV : Hid (foldV q s (pre ++ [x]) = r.via q.f.times s x) := Lib.hid (by rw [hfo.out, if_pos his, if_pos (by rw [hpi]; exact hless)])
                clear hX4 hl8 hB4 hx4 hO04 hfo x0 x1 y0 y1 y3
                have x0 := hX5.at 0 rfl
                have x1 := hX5.at 1 rfl
                have x2 := hX5.at 2 rfl
                have x3 := hX5.at 3 rfl
                have xf := hX5.fr 2 rfl
                have y0 := hl5.at 0 rfl
                have y1 := hl5.at 1 rfl
                have y2 := hl5.at 2 rfl
                have y3 := hl5.at 3 rfl
                have z0 := hl5.fr 0 rfl
                have z1 := hl5.fr 1 rfl
                have z2 := hl5.fr 2 rfl
                have z3 := hl5.fr 3 rfl
                have hnb : b8 < bx := by
                  have l1 := hn.i4
                  obtain ⟨_, e, l2, _⟩ := hx2.at (j := 0) (by have := H.ok.n1; have := H.nt; omega)
                  cases e
                  have := HBX.out
                  omega
                have hne : bx ≠ b8 := by omega
                have hne2 : b8 ≠ bx := by omega
                gi_wp2_with fail
                have hG6 : Gr w2 (W'.setCell ⟨bx, 2, none⟩ (.slice (some ad) q.n cx)) := (hg4.trans hg.1).setCell (by rw [HBX.out]; exact Nat.le_refl _) _
                exact best_set hn (hB2.gr hn hG6) (hO02.thenGr hG6) (hx2.gr hG6) (hx23.gr hG6) hax H HFV.out (hl5.only (S := fun b => b = bx) (Only.setCell (S := fun b => b = bx) (Only.refl _ _) (p := ⟨bx, 2, none⟩) (.inl rfl) _) (fun p hp => by rw [restL_blocks p hp]; exact hne2))
              | false =>
                gi_wp2_with fail
                have hX5 := hX4.gr hg.1
                have hl5 := hl8.gr hg.1
                have hB5 := hB4.gr hn hg.1
                have hx5 := hx4.gr hg.1
                have hO05 := hO04.thenGr hg.1
                exact ⟨hO05, hB5.same (by rw [hfo.out, if_pos his, HPP.out, if_neg (fun h => by rw [hpi] at h; have h2 : decide (orI (cmpI (r.steps + 1) p.steps) (cmpI (r.time + dur q.f.times s x) p.time) < 0) = true := h; rw [hless] at h2; cases h2)])⟩
end
section
open Go.RowKit

theorem calls_marks {P : Program} {f : FuncId} {fn : Func} {c : Code} {args : Array Value} {w : World} {R : Ending → World → Prop} (hf : P.funcs[f]? = some fn) (hb : fn.body = some c)
    (h : c.wp P (bodyPostM Fence.wide 0 P fn R) { tmps := args ++ Array.replicate (fn.ntmps - args.size) undef, defers := [] } w) : Calls P f args w R :=
  callsIn_wide.1 (callsIn_of_wp_marks (F := Fence.wide) (n := 0) hf hb trivial ((wpIn_wide (n := 0)).2 h))
theorem marks_ret0 {P : Program} {fn : Func} {R : Ending → World → Prop} {a : Act} {w : World} {v : Value} (hr : (results fn a.tmps).run P w = .ok v w) (hd : a.defers = []) (hR : R (.returned v) w) : bodyPostM Fence.wide 0 P fn R .ret a w := by
  show LeavesInM _ _ _ _ _ _ a.defers _ _
  rw [hd]
  exact ⟨v, hr, hR⟩
theorem marks_ret1 {P : Program} {fn : Func} {R : Ending → World → Prop} {a : Act} {w : World} {v : Value} {D : Nat} (hd : a.defers = [{ target := .collected D, args := #[] }]) (hD : w.heap[D]? = some (.deferred (some [])))
    (hr : (results fn a.tmps).run P (w.putObj D (.deferred none)) = .ok v (w.putObj D (.deferred none))) (hR : R (.returned v) (w.putObj D (.deferred none))) : bodyPostM Fence.wide 0 P fn R .ret a w := by
  show LeavesInM _ _ _ _ _ _ a.defers _ _
  rw [hd]
  exact ⟨by simp, .inl ⟨_, _, rfl, run_takeDeferred hD, v, hr, hR⟩⟩
end
section
set_option linter.unusedVariables false
open Go.RowKit
attribute [local go_sem] Oper.semAt_some

theorem best_out {q : PP} (H : PHyp q) {X : Nat → Prop} {W W' w12 : World} {s : List Int} {kb b8 D : Nat} {t : Array Value} {v0 v1 v2 v3 : Value} (hI : PInv q X W) (hn : BNum q W kb b8 D) (hX : ∀ b, X b → b < W.heap.size) (hon : Only (fun b => b = q.m ∨ W.heap.size ≤ b) W W')
    (hm : Memo W' q.m (fun s v => s.length = q.n ∧ RestV (XL X W.heap.size (D + 4)) W' v (bestV q.f q.to q.bu s))) (hr : RestV (XL X W.heap.size (D + 4)) W' (.agg #[v0, v1, v2, v3]) (bestV q.f q.to q.bu s)) (hO12 : Only (fun b => b = W.heap.size + 1 + 1) W' w12)
    (hO13 : Only (fun b => b = D) w12 (w12.putObj D (.deferred none))) (hdef : w12.heap[D]? = some (.deferred (some []))) (q0 : w12.cell? ⟨W.heap.size + 1 + 1, 0, none⟩ = some v0) (q1 : w12.cell? ⟨W.heap.size + 1 + 1, 1, none⟩ = some v1) (q2 : w12.cell? ⟨W.heap.size + 1 + 1, 2, none⟩ = some v2) (q3 : w12.cell? ⟨W.heap.size + 1 + 1, 3, none⟩ = some v3)
    (ht : t.getD 4 undef = .pointer (some ⟨W.heap.size + 1 + 1, 0, none⟩) := by rfl) :
    bodyPostM Fence.wide 0 Try.prog Try.f52 (BPost q X W s) .ret { tmps := t, defers := [{ target := .collected D, args := #[] }] } w12 := by
  have i1 := hn.i1
  have i2 := hn.i2
  have i3 := hn.i3
  have i4 := hn.i4
  have hO : Only (fun b => b = W.heap.size + 1 + 1 ∨ b = D) W' (w12.putObj D (.deferred none)) := (hO12.mono' (fun i e => .inl e)).trans (hO13.mono' (fun i e => .inr e))
  have honW : Only (fun b => b = q.m ∨ W.heap.size ≤ b) W (w12.putObj D (.deferred none)) := hon.trans (hO.mono' (fun i e => .inr (by omega)))
  have hXL : ∀ b, (b = W.heap.size + 1 + 1 ∨ b = D) → XL X W.heap.size (D + 4) b := fun b e => .inr (by omega)
  have hm13 : Memo (w12.putObj D (.deferred none)) q.m (fun s v => s.length = q.n ∧ RestV X (w12.putObj D (.deferred none)) v (bestV q.f q.to q.bu s)) :=
    hm.mono (hO.block _ hm.lt (by omega)) (fun s v hv => ⟨hv.1, (hv.2.onlyX hO hXL).wide (fun b _ hx => .inl hx)⟩)
  have p0 := hO13.cell q0 (by simp only; omega)
  have p1 := hO13.cell q1 (by simp only; omega)
  have p2 := hO13.cell q2 (by simp only; omega)
  have p3 := hO13.cell q3 (by simp only; omega)
  refine marks_ret1 (v := .agg #[v0, v1, v2, v3]) (D := D) rfl hdef ?_ ⟨_, rfl, (hr.onlyX hO hXL).wide (fun b _ hx => .inl hx), hI.of honW hI.nocS hm13, honW.mono (fun i hi e => by omega)⟩
  have ht' : t[4]?.getD undef = .pointer (some ⟨W.heap.size + 1 + 1, 0, none⟩) := by rw [← ht]; simp
  simp [results, Try.results49, go_sem, p0, p1, p2, p3, ht']

set_option maxRecDepth 100000 in
set_option maxHeartbeats 4000000 in
theorem best_main (q : PP) (H : PHyp q) (X : Nat → Prop) (s : List Int) (W : World) (a : Option Addr) (c : Nat) (hI : PInv q X W) (hs : Ints W a q.n s) (hst : StOk q.f s) (he : ¬ s = q.to) (hna : aboveV q.to s = true) (hX : ∀ b, X b → b < W.heap.size)
    (ih : ∀ (X : Nat → Prop) (x : List Int) (w : World) (ad : Addr) (cx : Nat), stepsB q.f.times s x q.bu = true → x ∈ enum q.f s q.to q.n [] → StOk q.f x → PInv q X w → Ints w (some ad) q.n x → (∀ b, X b → b < w.heap.size) → Calls Try.prog 52 #[.pointer (some ⟨q.bp, 0, none⟩), .slice (some ad) q.n cx] w (BPost q X w x)) :
    Calls Try.prog 52 #[.pointer (some ⟨q.bp, 0, none⟩), .slice a q.n c] W (BPost q X W s) := by
  have hde : Hid (decide (s = q.to) = false) := Lib.hid (by simpa using he)
  have hda := Lib.hid hna
  have HE := Lib.hid he
  have IH := Lib.hid ih
  clear ih
  clear he hna
  have hn1 : 0 < q.n := by have := H.ok.n1; have := H.nt; omega
  have hn6 : q.n ≤ 6 := by have := H.ok.n6; have := H.nt; omega
  have hL := BLoc.start q W a c
  obtain ⟨w3, hw3⟩ : ∃ w3, ((W.alloc (.cells #[.pointer (some ⟨q.bp, 0, none⟩)] 76)).alloc (.cells #[.slice a q.n c] 26)).alloc (.cells #[.int .i64 0, .int .i64 0, .slice none 0 0, .bool false] 81) = w3 := ⟨_, rfl⟩
  rw [hw3] at hL
  have hI3 := hI.gr hL.gr
  have hs3 := hs.gr hL.gr
  have hc2 := hI3.c2
  have b2 := hL.b2
  have b3 := hL.b3
  have heq : ∀ k, Hid (Calls Try.prog 53 #[.slice a q.n c, .slice q.toa q.n q.toc] (w3.drewN k) fun e w' => e = .returned (.bool false) ∧ ∃ m, w' = (w3.drewN k).drewN m) := fun k => Lib.hid (by
    have := equal_any a q.toa q.n c q.n q.toc s q.to (w3.drewN k) (hs3.gr (Gr.drewN _ _)) (hI3.ito.gr (Gr.drewN _ _))
    rw [hde.out] at this
    exact this)
  have HEQ := Lib.hid heq
  clear heq
  refine calls_marks Try.func52 rfl ?_
  simp only [Try.ntmps52, List.size_toArray, List.length_cons, List.length_nil, Nat.reduceAdd, Nat.reduceSub, Array.replicate_succ, Array.replicate_zero, List.push_toArray, List.append_toArray, List.nil_append, List.cons_append]
  go_wp2_with fail
  clear hw3
  go_quiet ((go_at_call 53; exact Calls.quiet_of (HEQ.out _).out))
  obtain ⟨w4, hw4, g4⟩ := drewN_some w3 nq
  rw [hw4]
  clear hw4 b2 b3 hc2
  have hL4 := hL.then g4
  have hI4 := hI3.gr g4
  have hs4 := hs3.gr g4
  clear HEQ hI3 hs3 hL g4
  have hc2 := hI4.c2
  have b2 := hL4.b2
  have b3 := hL4.b3
  have hab : ∀ k, Hid (Calls Try.prog 58 #[.slice q.toa q.n q.toc, .slice a q.n c] (w4.drewN k) fun e w' => e = .returned (.bool true) ∧ ∃ m, w' = (w4.drewN k).drewN m) := fun k => Lib.hid (by
    have := above_any q.toa a q.n q.toc q.n c q.to s (w4.drewN k) (hI4.ito.gr (Gr.drewN _ _)) (hs4.gr (Gr.drewN _ _)) (Nat.le_refl _)
    rw [hda.out] at this
    exact this)
  have HAB := Lib.hid hab
  clear hab
  go_wp2_with fail
  go_quiet ((go_at_call 58; exact Calls.quiet_of (HAB.out _).out))
  obtain ⟨w5, hw5, g5⟩ := drewN_some w4 nq
  rw [hw5]
  clear hw5 b2 b3 hc2
  have hL5 := hL4.then g5
  have hI5 := hI4.gr g5
  have hs5 := hs4.gr g5
  have b3 := hL5.b3
  clear HAB hI4 hs4 hL4 g5
  go_wp2_with (go_at_call 60; refine (keyOf_any _ _ _ _ _ hs5 hn1 hn6).mono ?_; rintro e wk ⟨rfl, g6⟩; unfold keyV; have hz6 := Nat.le_refl wk.heap.size)
  clear b3
  have hK6 := BKey.of (hL5.then g6) (hI5.gr g6) (hs5.gr g6)
  obtain ⟨w6, hw6⟩ : ∃ w6, wk.alloc (.cells #[.int .i64 (s[0]?.getD 0), .int .i64 (s[1]?.getD 0), .int .i64 (s[2]?.getD 0), .int .i64 (s[3]?.getD 0), .int .i64 (s[4]?.getD 0), .int .i64 (s[5]?.getD 0)] 90) = w6 := ⟨_, rfl⟩
  rw [hw6] at hK6 ⊢
  clear hw6
  generalize wk.heap.size = kb at *
  obtain ⟨st, ti, xa, xk, xc, xb, b, hlk, hvb⟩ := best_lookup H hI hst hs.len
  have HLK := Lib.hid hlk
  have HVB := Lib.hid hvb
  have b2 := hK6.loc.b2
  have hc4 := hK6.inv.c4
  clear hlk hvb hL5 hI5 hs5
  refine (wpIn_wide (n := 0)).1 ?_
  refine region_inv (F := Fence.wide) (by kernel_rfl) (by rfl) (by decide) (fun _ => trivial)
    (fun done' u W' => Kn [some (.pointer (some ⟨q.bp, 0, none⟩)), some (.pointer (some ⟨q.bp, 0, none⟩)), some (.pointer (some ⟨q.bp, 4, none⟩)), some (.map (some q.m)), some (.agg #[.int .i64 (s[0]?.getD 0), .int .i64 (s[1]?.getD 0), .int .i64 (s[2]?.getD 0), .int .i64 (s[3]?.getD 0), .int .i64 (s[4]?.getD 0), .int .i64 (s[5]?.getD 0)]), some (.tuple #[.agg #[.int .i64 st, .int .i64 ti, .slice xa xk xc, .bool xb], .bool b]), some (.tuple #[.agg #[.int .i64 st, .int .i64 ti, .slice xa xk xc, .bool xb], .bool b]), some (.agg #[.int .i64 st, .int .i64 ti, .slice xa xk xc, .bool xb]), some (.bool b), some (.pointer (some ⟨w6.heap.size, 0, none⟩)), none, some (.bool b)] done' u ∧ R6 w6 (.int .i64 st) (.int .i64 ti) (.slice xa xk xc) (.bool xb) done' W')
    (fun u => ⟨Kn.start _ _, R6.start w6 (.int .i64 st) (.int .i64 ti) (.slice xa xk xc) (.bool xb)⟩) ⟨?_, ?_, ?_, ?_, ?_, ?_, ?_, ?_, ?_, ?_, ?_, ?_, trivial⟩ ?_
  · rintro u done' W' hd hanc hclo ⟨hk, hR⟩
    have c := (hR.gr.cell (lt_cell b2)).trans b2
    refine op_plain (ro := none) rfl (fun c h => by cases h) fun K hK => ?_
    simp only [fillL, List.setIfInBounds_toArray, List.set_cons_zero, List.set_cons_succ, Nat.zero_add, Nat.reduceAdd] at hK ⊢
    go_simp
    exact hK _ _ ⟨hk.new rfl, hR.quiet (by decide) (by decide)⟩
  · rintro u done' W' hd hanc hclo ⟨hk, hR⟩
    have e0 := hk.get 0 rfl (hanc 0 (mem_of (by kernel_rfl)))
    refine op_plain (ro := none) rfl (fun c h => by cases h) fun K hK => ?_
    simp only [fillL, List.setIfInBounds_toArray, List.set_cons_zero, List.set_cons_succ, Nat.zero_add, Nat.reduceAdd, e0] at hK ⊢
    go_simp
    exact hK _ _ ⟨hk.new rfl, hR.quiet (by decide) (by decide)⟩
  · rintro u done' W' hd hanc hclo ⟨hk, hR⟩
    have e1 := hk.get 1 rfl (hanc 1 (mem_of (by kernel_rfl)))
    refine op_plain (ro := none) rfl (fun c h => by cases h) fun K hK => ?_
    simp only [fillL, List.setIfInBounds_toArray, List.set_cons_zero, List.set_cons_succ, Nat.zero_add, Nat.reduceAdd, e1] at hK ⊢
    go_simp
    exact hK _ _ ⟨hk.new rfl, hR.quiet (by decide) (by decide)⟩
  · rintro u done' W' hd hanc hclo ⟨hk, hR⟩
    have e2 := hk.get 2 rfl (hanc 2 (mem_of (by kernel_rfl)))
    have c := (hR.gr.cell (lt_cell hc4)).trans hc4
    refine op_plain (ro := none) rfl (fun c h => by cases h) fun K hK => ?_
    simp only [fillL, List.setIfInBounds_toArray, List.set_cons_zero, List.set_cons_succ, Nat.zero_add, Nat.reduceAdd, e2] at hK ⊢
    go_simp
    exact hK _ _ ⟨hk.new rfl, hR.quiet (by decide) (by decide)⟩
  · rintro u done' W' hd hanc hclo ⟨hk, hR⟩
    have k0 := (hR.gr.cell (lt_cell hK6.k0)).trans hK6.k0
    have k1 := (hR.gr.cell (lt_cell hK6.k1)).trans hK6.k1
    have k2 := (hR.gr.cell (lt_cell hK6.k2)).trans hK6.k2
    have k3 := (hR.gr.cell (lt_cell hK6.k3)).trans hK6.k3
    have k4 := (hR.gr.cell (lt_cell hK6.k4)).trans hK6.k4
    have k5 := (hR.gr.cell (lt_cell hK6.k5)).trans hK6.k5
    refine op_plain (ro := none) rfl (fun c h => by cases h) fun K hK => ?_
    simp only [fillL, List.setIfInBounds_toArray, List.set_cons_zero, List.set_cons_succ, Nat.zero_add, Nat.reduceAdd] at hK ⊢
    go_simp
    exact hK _ _ ⟨hk.new rfl, hR.quiet (by decide) (by decide)⟩
  · rintro u done' W' hd hanc hclo ⟨hk, hR⟩
    have e3 := hk.get 3 rfl (hanc 3 (mem_of (by kernel_rfl)))
    have e4 := hk.get 4 rfl (hanc 4 (mem_of (by kernel_rfl)))
    have hlk := HLK.out W' ((hK6.loc.gr.trans hR.gr).below.block _ hI.memo.lt)
    refine op_plain (ro := none) rfl (fun c h => by cases h) fun K hK => ?_
    simp only [fillL, List.setIfInBounds_toArray, List.set_cons_zero, List.set_cons_succ, Nat.zero_add, Nat.reduceAdd, e3, e4] at hK ⊢
    go_simp
    exact hK _ _ ⟨hk.new rfl, hR.quiet (by decide) (by decide)⟩
  · rintro u done' W' hd hanc hclo ⟨hk, hR⟩
    have e5 := hk.get 5 rfl (hanc 5 (mem_of (by kernel_rfl)))
    refine op_plain (ro := none) rfl (fun c h => by cases h) fun K hK => ?_
    simp only [fillL, List.setIfInBounds_toArray, List.set_cons_zero, List.set_cons_succ, Nat.zero_add, Nat.reduceAdd, e5] at hK ⊢
    go_simp
    exact hK _ _ ⟨hk.new rfl, hR.quiet (by decide) (by decide)⟩
  · rintro u done' W' hd hanc hclo ⟨hk, hR⟩
    have e6 := hk.get 6 rfl (hanc 6 (mem_of (by kernel_rfl)))
    refine op_plain (ro := none) rfl (fun c h => by cases h) fun K hK => ?_
    simp only [fillL, List.setIfInBounds_toArray, List.set_cons_zero, List.set_cons_succ, Nat.zero_add, Nat.reduceAdd, e6] at hK ⊢
    go_simp
    exact hK _ _ ⟨hk.new rfl, hR.quiet (by decide) (by decide)⟩
  · rintro u done' W' hd hanc hclo ⟨hk, hR⟩
    have e6 := hk.get 6 rfl (hanc 6 (mem_of (by kernel_rfl)))
    refine op_plain (ro := none) rfl (fun c h => by cases h) fun K hK => ?_
    simp only [fillL, List.setIfInBounds_toArray, List.set_cons_zero, List.set_cons_succ, Nat.zero_add, Nat.reduceAdd, e6] at hK ⊢
    go_simp
    exact hK _ _ ⟨hk.new rfl, hR.quiet (by decide) (by decide)⟩
  · rintro u done' W' hd hanc hclo ⟨hk, hR⟩
    have hsz := hR.sz hd
    have h10 : done' 10 = false := not_done hclo hd 10 rfl (by kernel_rfl)
    refine op_plain (ro := none) rfl (fun c h => by cases h) fun K hK => ?_
    simp only [fillL, List.setIfInBounds_toArray, List.set_cons_zero, List.set_cons_succ, Nat.zero_add, Nat.reduceAdd] at hK ⊢
    go_simp
    exact hK _ _ ⟨hk.new rfl, hR.alloc hsz h10⟩
  · rintro u done' W' hd hanc hclo ⟨hk, hR⟩
    have e7 := hk.get 7 rfl (hanc 7 (mem_of (by kernel_rfl)))
    have e9 := hk.get 9 rfl (hanc 9 (mem_of (by kernel_rfl)))
    have h9 := hanc 9 (mem_of (by kernel_rfl))
    obtain ⟨z0, z1, z2, z3⟩ := hR.ce h9 hd
    have fz := hR.fz h9
    have y0 := fz 0
    have y1 := fz 1
    have y2 := fz 2
    have y3 := fz 3
    refine op_plain (ro := none) rfl (fun c h => by cases h) fun K hK => ?_
    simp only [fillL, List.setIfInBounds_toArray, List.set_cons_zero, List.set_cons_succ, Nat.zero_add, Nat.reduceAdd, e7, e9] at hK ⊢
    go_simp
    exact hK undef _ ⟨hk.skip rfl, hR.stored h9 hd⟩
  · rintro u done' W' hd hanc hclo ⟨hk, hR⟩
    have e8 := hk.get 8 rfl (hanc 8 (mem_of (by kernel_rfl)))
    refine op_plain (ro := none) rfl (fun c h => by cases h) fun K hK => ?_
    simp only [fillL, List.setIfInBounds_toArray, List.set_cons_zero, List.set_cons_succ, Nat.zero_add, Nat.reduceAdd, e8] at hK ⊢
    go_simp
    exact hK _ _ ⟨hk.new rfl, hR.quiet (by decide) (by decide)⟩
  · rintro u W' ⟨done', hdn, hk, hR⟩
    have h9 := hdn 9 (by decide)
    obtain ⟨x0, x1, x2, x3⟩ := hR.st (hdn 10 (by decide))
    have hg7 := hR.gr
    have hfz := hR.fz h9
    have e0 := hk.get 0 rfl (hdn 0 (by decide))
    have e1 := hk.get 1 rfl (hdn 1 (by decide))
    have e2 := hk.get 2 rfl (hdn 2 (by decide))
    have e3 := hk.get 3 rfl (hdn 3 (by decide))
    have e4 := hk.get 4 rfl (hdn 4 (by decide))
    have e5 := hk.get 5 rfl (hdn 5 (by decide))
    have e6 := hk.get 6 rfl (hdn 6 (by decide))
    have e7 := hk.get 7 rfl (hdn 7 (by decide))
    have e8 := hk.get 8 rfl (hdn 8 (by decide))
    have e9 := hk.get 9 rfl (hdn 9 (by decide))
    have e11 := hk.get 11 rfl (hdn 11 (by decide))
    simp only [fillL, List.setIfInBounds_toArray, List.set_cons_zero, List.set_cons_succ, Nat.zero_add, Nat.reduceAdd, e0, e1, e2, e3, e4, e5, e6, e7, e8, e9, e11]
    clear hk hR hdn h9 e0 e1 e2 e3 e4 e5 e6 e7 e8 e9 e11
    have hK7 := hK6.then hg7
    clear hg7
    cases b with
    | true =>
      have HR := Lib.hid (HVB.out rfl)
      clear HVB
      have b40 := hK7.loc.b40
      have b41 := hK7.loc.b41
      have b42 := hK7.loc.b42
      have b43 := hK7.loc.b43
      have f40 := hK7.loc.f40
      have f41 := hK7.loc.f41
      have f42 := hK7.loc.f42
      have f43 := hK7.loc.f43
      go_wp2_with fail
      have G := hK7.loc.store
      refine marks_ret0 (v := .agg #[.int .i64 st, .int .i64 ti, .slice xa xk xc, .bool xb]) (by simp [results, Try.results49, go_sem, b40, b41, b42, b43]) rfl
        ⟨_, rfl, HR.out.gr (G _ _ _ _), hI.gr (G _ _ _ _), (G _ _ _ _).only _⟩
    | false =>
      clear HVB x0 x1 x2 x3 hfz HLK
      go_wp2_with fail
      have g8 := Gr.alloc W' (.cells #[.int .i64 0, .int .i64 0, .slice none 0 0, .bool false] 81)
      have hX8 := xcells_new W' (.int .i64 0) (.int .i64 0) (.slice none 0 0) (.bool false)
      have hkb8 : kb < W'.heap.size := lt_cell hK7.k0
      have hK8 := hK7.then g8
      obtain ⟨w8, hw8⟩ : ∃ w8, W'.alloc (.cells #[.int .i64 0, .int .i64 0, .slice none 0 0, .bool false] 81) = w8 := ⟨_, rfl⟩
      rw [hw8] at hK8 hX8 ⊢
      clear hw8 g8 hK7
      obtain ⟨b8, hb8⟩ : ∃ b8, W'.heap.size = b8 := ⟨_, rfl⟩
      rw [hb8] at hX8 hkb8 ⊢
      clear hb8 hK6 hc4 b2
      have b2 := hK8.loc.b2
      have b3 := hK8.loc.b3
      have c0 := hK8.inv.c0
      have c1 := hK8.inv.c1
      have c2 := hK8.inv.c2
      refine (wpIn_wide (n := 0)).1 ?_
      refine region_inv (F := Fence.wide) (by kernel_rfl) (by rfl) (by decide) (fun _ => trivial)
        (fun done' u W' => Kn [some (.pointer (some ⟨q.bp, 0, none⟩)), some (.pointer (some ⟨q.bp, 0, none⟩)), some (.pointer (some ⟨q.bp, 0, none⟩)), some (.agg #[.slice q.ta q.tn q.tc, .slice q.ca q.cn q.cc]), some (.slice a q.n c), some (.pointer (some ⟨q.bp, 0, none⟩)), some (.pointer (some ⟨q.bp, 0, none⟩)), some (.pointer (some ⟨q.bp, 2, none⟩)), some (.slice q.toa q.n q.toc), some (.func (.func 94) #[] #[.pointer (some ⟨w8.heap.size + 1, 0, none⟩), .pointer (some ⟨w8.heap.size, 0, none⟩), .pointer (some ⟨w8.heap.size + 2, 0, none⟩)])] done' u ∧ Tail 9 w8 (fun w9 => w9 = ((w8.drew.alloc (.cells #[.slice q.ta q.tn q.tc, .slice q.ca q.cn q.cc] 25)).alloc (.cells #[.slice a q.n c] 26)).alloc (.cells #[.slice q.toa q.n q.toc] 26)) done' W')
        (fun u => ⟨Kn.start _ _, Tail.start⟩) ⟨?_, ?_, ?_, ?_, ?_, ?_, ?_, ?_, ?_, ?_, trivial⟩ ?_
      · rintro u done' W' hd hanc hclo ⟨hk, hT⟩
        have hg : Gr w8 W' := by rw [hT.before (not_done hclo hd 9 rfl (by kernel_rfl))]; exact Gr.drew _
        have c_b2 := (hg.cell (lt_cell b2)).trans b2
        refine op_plain (ro := none) rfl (fun c h => by cases h) fun K hK => ?_
        simp only [fillL, List.setIfInBounds_toArray, List.set_cons_zero, List.set_cons_succ, Nat.zero_add, Nat.reduceAdd] at hK ⊢
        go_simp
        exact hK _ _ ⟨hk.new rfl, hT.quiet (by decide)⟩
      · rintro u done' W' hd hanc hclo ⟨hk, hT⟩
        have e0 := hk.get 0 rfl (hanc 0 (mem_of (by kernel_rfl)))
        refine op_plain (ro := none) rfl (fun c h => by cases h) fun K hK => ?_
        simp only [fillL, List.setIfInBounds_toArray, List.set_cons_zero, List.set_cons_succ, Nat.zero_add, Nat.reduceAdd, e0] at hK ⊢
        go_simp
        exact hK _ _ ⟨hk.new rfl, hT.quiet (by decide)⟩
      · rintro u done' W' hd hanc hclo ⟨hk, hT⟩
        have e1 := hk.get 1 rfl (hanc 1 (mem_of (by kernel_rfl)))
        refine op_plain (ro := none) rfl (fun c h => by cases h) fun K hK => ?_
        simp only [fillL, List.setIfInBounds_toArray, List.set_cons_zero, List.set_cons_succ, Nat.zero_add, Nat.reduceAdd, e1] at hK ⊢
        go_simp
        exact hK _ _ ⟨hk.new rfl, hT.quiet (by decide)⟩
      · rintro u done' W' hd hanc hclo ⟨hk, hT⟩
        have e2 := hk.get 2 rfl (hanc 2 (mem_of (by kernel_rfl)))
        have hg : Gr w8 W' := by rw [hT.before (not_done hclo hd 9 rfl (by kernel_rfl))]; exact Gr.drew _
        have c_c0 := (hg.cell (lt_cell c0)).trans c0
        have c_c1 := (hg.cell (lt_cell c1)).trans c1
        refine op_plain (ro := none) rfl (fun c h => by cases h) fun K hK => ?_
        simp only [fillL, List.setIfInBounds_toArray, List.set_cons_zero, List.set_cons_succ, Nat.zero_add, Nat.reduceAdd, e2] at hK ⊢
        go_simp
        exact hK _ _ ⟨hk.new rfl, hT.quiet (by decide)⟩
      · rintro u done' W' hd hanc hclo ⟨hk, hT⟩
        have hg : Gr w8 W' := by rw [hT.before (not_done hclo hd 9 rfl (by kernel_rfl))]; exact Gr.drew _
        have c_b3 := (hg.cell (lt_cell b3)).trans b3
        refine op_plain (ro := none) rfl (fun c h => by cases h) fun K hK => ?_
        simp only [fillL, List.setIfInBounds_toArray, List.set_cons_zero, List.set_cons_succ, Nat.zero_add, Nat.reduceAdd] at hK ⊢
        go_simp
        exact hK _ _ ⟨hk.new rfl, hT.quiet (by decide)⟩
      · rintro u done' W' hd hanc hclo ⟨hk, hT⟩
        have hg : Gr w8 W' := by rw [hT.before (not_done hclo hd 9 rfl (by kernel_rfl))]; exact Gr.drew _
        have c_b2 := (hg.cell (lt_cell b2)).trans b2
        refine op_plain (ro := none) rfl (fun c h => by cases h) fun K hK => ?_
        simp only [fillL, List.setIfInBounds_toArray, List.set_cons_zero, List.set_cons_succ, Nat.zero_add, Nat.reduceAdd] at hK ⊢
        go_simp
        exact hK _ _ ⟨hk.new rfl, hT.quiet (by decide)⟩
      · rintro u done' W' hd hanc hclo ⟨hk, hT⟩
        have e5 := hk.get 5 rfl (hanc 5 (mem_of (by kernel_rfl)))
        refine op_plain (ro := none) rfl (fun c h => by cases h) fun K hK => ?_
        simp only [fillL, List.setIfInBounds_toArray, List.set_cons_zero, List.set_cons_succ, Nat.zero_add, Nat.reduceAdd, e5] at hK ⊢
        go_simp
        exact hK _ _ ⟨hk.new rfl, hT.quiet (by decide)⟩
      · rintro u done' W' hd hanc hclo ⟨hk, hT⟩
        have e6 := hk.get 6 rfl (hanc 6 (mem_of (by kernel_rfl)))
        refine op_plain (ro := none) rfl (fun c h => by cases h) fun K hK => ?_
        simp only [fillL, List.setIfInBounds_toArray, List.set_cons_zero, List.set_cons_succ, Nat.zero_add, Nat.reduceAdd, e6] at hK ⊢
        go_simp
        exact hK _ _ ⟨hk.new rfl, hT.quiet (by decide)⟩
      · rintro u done' W' hd hanc hclo ⟨hk, hT⟩
        have e7 := hk.get 7 rfl (hanc 7 (mem_of (by kernel_rfl)))
        have hg : Gr w8 W' := by rw [hT.before (not_done hclo hd 9 rfl (by kernel_rfl))]; exact Gr.drew _
        have c_c2 := (hg.cell (lt_cell c2)).trans c2
        refine op_plain (ro := none) rfl (fun c h => by cases h) fun K hK => ?_
        simp only [fillL, List.setIfInBounds_toArray, List.set_cons_zero, List.set_cons_succ, Nat.zero_add, Nat.reduceAdd, e7] at hK ⊢
        go_simp
        exact hK _ _ ⟨hk.new rfl, hT.quiet (by decide)⟩
      · rintro u done' W' hd hanc hclo ⟨hk, hT⟩
        have e3 := hk.get 3 rfl (hanc 3 (mem_of (by kernel_rfl)))
        have e4 := hk.get 4 rfl (hanc 4 (mem_of (by kernel_rfl)))
        have e8 := hk.get 8 rfl (hanc 8 (mem_of (by kernel_rfl)))
        obtain rfl := hT.before hd
        have HCON := Lib.hid (states_any q.ta q.ca a q.toa q.tn q.tc q.cn q.cc q.n c q.n q.toc w8.drew)
        refine op_plain (ro := none) rfl (fun c h => by cases h) fun K hK => ?_
        simp only [fillL, List.setIfInBounds_toArray, List.set_cons_zero, List.set_cons_succ, Nat.zero_add, Nat.reduceAdd, e3, e4, e8] at hK ⊢
        go_simp
        refine HCON.out.mono ?_
        rintro e w9 ⟨rfl, hw9⟩
        exact hK _ _ ⟨hk.new rfl, Tail.done hw9⟩
      · rintro u W' ⟨done', hdn, hk, hT⟩
        have e0 := hk.get 0 rfl (hdn 0 (by decide))
        have e1 := hk.get 1 rfl (hdn 1 (by decide))
        have e2 := hk.get 2 rfl (hdn 2 (by decide))
        have e3 := hk.get 3 rfl (hdn 3 (by decide))
        have e4 := hk.get 4 rfl (hdn 4 (by decide))
        have e5 := hk.get 5 rfl (hdn 5 (by decide))
        have e6 := hk.get 6 rfl (hdn 6 (by decide))
        have e7 := hk.get 7 rfl (hdn 7 (by decide))
        have e8 := hk.get 8 rfl (hdn 8 (by decide))
        have e9 := hk.get 9 rfl (hdn 9 (by decide))
        simp only [fillL, List.setIfInBounds_toArray, List.set_cons_zero, List.set_cons_succ, Nat.zero_add, Nat.reduceAdd, e0, e1, e2, e3, e4, e5, e6, e7, e8, e9]
        obtain ⟨g9, s9, i0, i1, i2, i3⟩ := NewIter.facts ⟨rfl, hT.after (hdn 9 (by decide))⟩
        clear hk hdn hT e0 e1 e2 e3 e4 e5 e6 e7 e8 e9 b2 b3 c0 c1 c2
        go_wp2_with fail
        have hK9 := (hK8.then (Gr.drew w8)).then g9
        have hX9 := (hX8.gr (Gr.drew w8)).gr g9
        have hB9 : BI q X W s a c kb b8 W'.heap.size [] W' := BI.start hI hK9 hX9
        have l0 := hX9.lt (⟨b8, 0, none⟩, .int .i64 0) (by simp [xcells])
        have hn : BNum q W kb b8 W'.heap.size := ⟨hI.memo.lt, hK8.kge, hkb8, l0⟩
        have hl8 := hX8.lt (⟨b8, 0, none⟩, .int .i64 0) (by simp [xcells])
        have hm8 : q.m < w8.heap.size := by have := hn.i1; have := hn.i2; have := hn.i3; simp only at hl8; omega
        clear hK8 hX8 hX9 s9
        refine range_states (wB := W) (S := fun b => b = q.m ∨ W.heap.size ≤ b) (Y := fun b => b = q.m ∨ b = b8) (f := q.f) (lo := s) (hi := q.to) (n := q.n) (bfr := w8.heap.size + 1) (bfl := w8.heap.size) (bto := w8.heap.size + 2) rfl (hI.base H hs hst) (hK9.loc.gr.only _) ?_ ?_ i2 i0 i1 i3 ?_ ?_ ?_ (BI q X W s a c kb b8 W'.heap.size) (fun _ _ => False) hB9 (fun xs W1 W2 h g => h.keep hn g) (fun _ _ _ h _ => h.elim) ?a1 ?assign ?body ?done (fun _ _ h => h.elim)
        case assign =>
          intro l v w1 K hK
          gi_wp2
          exact hK
        case body =>
          intro pre x ad cx w1 hB _ hx hax hx3 hmem hsx hw
          exact best_round q H X s x W w1 a c kb b8 W'.heap.size cx (W'.heap.size + 1) ad pre _ (by rfl) hI hs hst hn hB hx hax hx3 hsx hX (fun hsb w => IH.out (XL X W.heap.size (W'.heap.size + 4)) x w ad cx hsb hmem hsx)
        case done =>
          intro w10 hB10 hdef
          generalize W'.heap.size = D at *
          have hfv : Hid (bestV q.f q.to q.bu s = foldV q s (enum q.f s q.to q.n [])) := Lib.hid (by rw [bestV_eq (by rw [hs.len, hI.ito.len]), if_neg HE.out, hda.out, hs.len]; rfl)
          have hI10 := hB10.inv hI
          obtain ⟨pa, pk, pc, hl8, hi8, had8⟩ := hB10.best
          have b2 := hB10.loc.at 0 rfl
          have k0 := hB10.loc.at 6 rfl
          have k1 := hB10.loc.at 7 rfl
          have k2 := hB10.loc.at 8 rfl
          have k3 := hB10.loc.at 9 rfl
          have k4 := hB10.loc.at 10 rfl
          have k5 := hB10.loc.at 11 rfl
          have y0 := hl8.at 0 rfl
          have y1 := hl8.at 1 rfl
          have y2 := hl8.at 2 rfl
          have y3 := hl8.at 3 rfl
          have c4 := hI10.c4
          have hrest : RestV (XL X W.heap.size (D + 4)) w10 (.agg #[.int .i64 (foldV q s (enum q.f s q.to q.n [])).steps, .int .i64 (foldV q s (enum q.f s q.to q.n [])).time, .slice pa pk pc, .bool (foldV q s (enum q.f s q.to q.n [])).is]) (bestV q.f q.to q.bu s) := by
            rw [hfv.out]
            refine ⟨pa, pk, pc, rfl, hi8, fun ad e => ⟨fun hx => ?_, (had8 ad e).2⟩⟩
            have h1 := (had8 ad e).1
            have h2 := hn.i1
            rcases hx with hx | hx
            · have := hX _ hx; have := hn.i2; have := hn.i3; have := hn.i4; omega
            · omega
          obtain ⟨o, hrun, hmemo⟩ := memo_store (v := .agg #[.int .i64 (foldV q s (enum q.f s q.to q.n [])).steps, .int .i64 (foldV q s (enum q.f s q.to q.n [])).time, .slice pa pk pc, .bool (foldV q s (enum q.f s q.to q.n [])).is]) Try.underlying77 (hI10.gr (Gr.drew w10)).memo (hst.small H.ok) ⟨hs.len, hrest.gr (Gr.drew w10)⟩
          generalize foldV q s (enum q.f s q.to q.n []) = p at *
          unfold keyV at hrun
          have HRUN := Lib.hid hrun
          clear hrun hfv
          go_wp2_with fail
          refine (wpIn_wide (n := 0)).1 ?_
          refine region_inv (F := Fence.wide) (by kernel_rfl) (by rfl) (by decide) (fun _ => trivial)
            (fun done' u W' => Kn [some (.pointer (some ⟨q.bp, 0, none⟩)), some (.pointer (some ⟨q.bp, 0, none⟩)), some (.pointer (some ⟨q.bp, 4, none⟩)), some (.map (some q.m)), some (.agg #[.int .i64 (s[0]?.getD 0), .int .i64 (s[1]?.getD 0), .int .i64 (s[2]?.getD 0), .int .i64 (s[3]?.getD 0), .int .i64 (s[4]?.getD 0), .int .i64 (s[5]?.getD 0)]), some (.agg #[.int .i64 p.steps, .int .i64 p.time, .slice pa pk pc, .bool p.is]), none] done' u ∧ Tail 6 w10 (fun w11 => w11 = w10.drew.putObj q.m o) done' W')
            (fun u => ⟨Kn.start _ _, Tail.start⟩) ⟨?_, ?_, ?_, ?_, ?_, ?_, ?_, trivial⟩ ?_
          · rintro u done' W' hd hanc hclo ⟨hk, hT⟩
            have hg : Gr w10 W' := by rw [hT.before (not_done hclo hd 6 rfl (by kernel_rfl))]; exact Gr.drew _
            have c_b2 := (hg.cell (lt_cell b2)).trans b2
            refine op_plain (ro := none) rfl (fun c h => by cases h) fun K hK => ?_
            simp only [fillL, List.setIfInBounds_toArray, List.set_cons_zero, List.set_cons_succ, Nat.zero_add, Nat.reduceAdd] at hK ⊢
            go_simp
            exact hK _ _ ⟨hk.new rfl, hT.quiet (by decide)⟩
          · rintro u done' W' hd hanc hclo ⟨hk, hT⟩
            have e0 := hk.get 0 rfl (hanc 0 (mem_of (by kernel_rfl)))
            refine op_plain (ro := none) rfl (fun c h => by cases h) fun K hK => ?_
            simp only [fillL, List.setIfInBounds_toArray, List.set_cons_zero, List.set_cons_succ, Nat.zero_add, Nat.reduceAdd, e0] at hK ⊢
            go_simp
            exact hK _ _ ⟨hk.new rfl, hT.quiet (by decide)⟩
          · rintro u done' W' hd hanc hclo ⟨hk, hT⟩
            have e1 := hk.get 1 rfl (hanc 1 (mem_of (by kernel_rfl)))
            refine op_plain (ro := none) rfl (fun c h => by cases h) fun K hK => ?_
            simp only [fillL, List.setIfInBounds_toArray, List.set_cons_zero, List.set_cons_succ, Nat.zero_add, Nat.reduceAdd, e1] at hK ⊢
            go_simp
            exact hK _ _ ⟨hk.new rfl, hT.quiet (by decide)⟩
          · rintro u done' W' hd hanc hclo ⟨hk, hT⟩
            have e2 := hk.get 2 rfl (hanc 2 (mem_of (by kernel_rfl)))
            have hg : Gr w10 W' := by rw [hT.before (not_done hclo hd 6 rfl (by kernel_rfl))]; exact Gr.drew _
            have c_c4 := (hg.cell (lt_cell c4)).trans c4
            refine op_plain (ro := none) rfl (fun c h => by cases h) fun K hK => ?_
            simp only [fillL, List.setIfInBounds_toArray, List.set_cons_zero, List.set_cons_succ, Nat.zero_add, Nat.reduceAdd, e2] at hK ⊢
            go_simp
            exact hK _ _ ⟨hk.new rfl, hT.quiet (by decide)⟩
          · rintro u done' W' hd hanc hclo ⟨hk, hT⟩
            have hg : Gr w10 W' := by rw [hT.before (not_done hclo hd 6 rfl (by kernel_rfl))]; exact Gr.drew _
            have c_k0 := (hg.cell (lt_cell k0)).trans k0
            have c_k1 := (hg.cell (lt_cell k1)).trans k1
            have c_k2 := (hg.cell (lt_cell k2)).trans k2
            have c_k3 := (hg.cell (lt_cell k3)).trans k3
            have c_k4 := (hg.cell (lt_cell k4)).trans k4
            have c_k5 := (hg.cell (lt_cell k5)).trans k5
            refine op_plain (ro := none) rfl (fun c h => by cases h) fun K hK => ?_
            simp only [fillL, List.setIfInBounds_toArray, List.set_cons_zero, List.set_cons_succ, Nat.zero_add, Nat.reduceAdd] at hK ⊢
            go_simp
            exact hK _ _ ⟨hk.new rfl, hT.quiet (by decide)⟩
          · rintro u done' W' hd hanc hclo ⟨hk, hT⟩
            have hg : Gr w10 W' := by rw [hT.before (not_done hclo hd 6 rfl (by kernel_rfl))]; exact Gr.drew _
            have c_y0 := (hg.cell (lt_cell y0)).trans y0
            have c_y1 := (hg.cell (lt_cell y1)).trans y1
            have c_y2 := (hg.cell (lt_cell y2)).trans y2
            have c_y3 := (hg.cell (lt_cell y3)).trans y3
            refine op_plain (ro := none) rfl (fun c h => by cases h) fun K hK => ?_
            simp only [fillL, List.setIfInBounds_toArray, List.set_cons_zero, List.set_cons_succ, Nat.zero_add, Nat.reduceAdd] at hK ⊢
            go_simp
            exact hK _ _ ⟨hk.new rfl, hT.quiet (by decide)⟩
          · rintro u done' W' hd hanc hclo ⟨hk, hT⟩
            have e3 := hk.get 3 rfl (hanc 3 (mem_of (by kernel_rfl)))
            have e4 := hk.get 4 rfl (hanc 4 (mem_of (by kernel_rfl)))
            have e5 := hk.get 5 rfl (hanc 5 (mem_of (by kernel_rfl)))
            obtain rfl := hT.before hd
            have hrun := HRUN.out
            refine op_plain (ro := none) rfl (fun c h => by cases h) fun K hK => ?_
            simp only [fillL, List.setIfInBounds_toArray, List.set_cons_zero, List.set_cons_succ, Nat.zero_add, Nat.reduceAdd, e3, e4, e5] at hK ⊢
            go_simp
            exact hK undef _ ⟨hk.skip rfl, Tail.done rfl⟩
          · rintro u W' ⟨done', hdn, hk, hT⟩
            have e0 := hk.get 0 rfl (hdn 0 (by decide))
            have e1 := hk.get 1 rfl (hdn 1 (by decide))
            have e2 := hk.get 2 rfl (hdn 2 (by decide))
            have e3 := hk.get 3 rfl (hdn 3 (by decide))
            have e4 := hk.get 4 rfl (hdn 4 (by decide))
            have e5 := hk.get 5 rfl (hdn 5 (by decide))
            simp only [fillL, List.setIfInBounds_toArray, List.set_cons_zero, List.set_cons_succ, Nat.zero_add, Nat.reduceAdd, e0, e1, e2, e3, e4, e5]
            have hw11 := hT.after (hdn 6 (by decide))
            have hO11 : Only (fun b => b = q.m) w10 W' := by rw [hw11]; exact ((Gr.drew w10).only _).trans (putObj_only _ _ _)
            have hm11 : Memo W' q.m (fun s v => s.length = q.n ∧ RestV (XL X W.heap.size (D + 4)) W' v (bestV q.f q.to q.bu s)) := by
              have h1 := hmemo
              rw [← hw11] at h1
              exact h1.mono rfl (fun s v hv => ⟨hv.1, hv.2.only (S := fun b => b = q.m) (by rw [hw11]; exact putObj_only _ _ _) (hI10.gr (Gr.drew w10)).noc⟩)
            have hl11 := hl8.onlyN hO11 hI10.noc
            have hc11 := hB10.loc.onlyN hO11 hI10.noc
            have hD : D < w10.heap.size := (Array.getElem?_eq_some_iff.1 hdef).1
            have hdef11 := (hO11.block D hD (by have := hn.i1; have := hn.i2; have := hn.i3; have := hn.i4; omega)).trans hdef
            have hon11 := hB10.on.trans (hO11.mono' (fun i e => .inl e))
            have hr11 := hrest.only hO11 hI10.noc
            clear hw11 hT hk hdn hmemo HRUN y0 y1 y2 y3 b2 k0 k1 k2 k3 k4 k5 c4 e0 e1 e2 e3 e4 e5
            have y0 := hl11.at 0 rfl
            have y1 := hl11.at 1 rfl
            have y2 := hl11.at 2 rfl
            have y3 := hl11.at 3 rfl
            have r0 := hc11.at 2 rfl
            have r1 := hc11.at 3 rfl
            have r2 := hc11.at 4 rfl
            have r3 := hc11.at 5 rfl
            have f0 := hc11.fr 2 rfl
            have f1 := hc11.fr 3 rfl
            have f2 := hc11.fr 4 rfl
            have f3 := hc11.fr 5 rfl
            go_wp2_with fail
            obtain ⟨w12, hw12⟩ : ∃ w12, (((W'.setCell ⟨W.heap.size + 1 + 1, 0, none⟩ (.int .i64 p.steps)).setCell ⟨W.heap.size + 1 + 1, 1, none⟩ (.int .i64 p.time)).setCell ⟨W.heap.size + 1 + 1, 2, none⟩ (.slice pa pk pc)).setCell ⟨W.heap.size + 1 + 1, 3, none⟩ (.bool p.is) = w12 := ⟨_, rfl⟩
            rw [hw12]
            obtain ⟨q0, q1, q2, q3, _, hsz12, hoth⟩ := setCell4 r0 r1 r2 r3 _ _ _ _ w12 hw12.symm
            have hO12 : Only (fun b => b = W.heap.size + 1 + 1) W' w12 := by
              rw [← hw12]
              exact (((Only.refl (fun b => b = W.heap.size + 1 + 1) W').setCell (p := ⟨W.heap.size + 1 + 1, 0, none⟩) (.inl rfl) _).setCell (p := ⟨W.heap.size + 1 + 1, 1, none⟩) (.inl rfl) _).setCell (p := ⟨W.heap.size + 1 + 1, 2, none⟩) (.inl rfl) _ |>.setCell (p := ⟨W.heap.size + 1 + 1, 3, none⟩) (.inl rfl) _
            clear hw12
            have hdef12 := (hoth D (by have := hn.i2; have := hn.i3; have := hn.i4; omega)).trans hdef11
            have hO13 := putObj_only w12 D (.deferred none)
            exact best_out H hI hn hX hon11 hm11 hr11 hO12 hO13 hdef12 q0 q1 q2 q3
        
        all_goals first | (intro b h; have := hn.i1; have := hn.i2; have := hn.i3; have := hn.i4; omega) | (have := hn.i1; have := hn.i2; have := hn.i3; have := hn.i4; simp only at hl8; omega)
end
section
open Go.RowKit

theorem best_any (q : PP) (H : PHyp q) : ∀ (k : Nat) (X : Nat → Prop) (s : List Int) (W : World) (a : Option Addr) (c : Nat), gap s q.to ≤ k → StOk q.f s → PInv q X W → Ints W a q.n s → (∀ b, X b → b < W.heap.size) →
    Calls Try.prog 52 #[.pointer (some ⟨q.bp, 0, none⟩), .slice a q.n c] W (BPost q X W s) := by
  intro k
  induction k with
  | zero =>
    intro X s W a c hk hst hI hs hX
    by_cases he : s = q.to
    · exact best_end q H X s W a c hI hs he
    · cases hna : aboveV q.to s with
      | false => exact best_not q H X s W a c hI hs he hna
      | true => exact absurd (above_gap_zero (by rw [hs.len, hI.ito.len]) hna (by omega)) he
  | succ k ih =>
    intro X s W a c hk hst hI hs hX
    by_cases he : s = q.to
    · exact best_end q H X s W a c hI hs he
    · cases hna : aboveV q.to s with
      | false => exact best_not q H X s W a c hI hs he hna
      | true =>
        refine best_main q H X s W a c hI hs hst he hna hX (fun X x w ad cx hsb hmem hsx hIw hxw hXw => ?_)
        rw [← hs.len] at hmem
        have hb := (enum_between hmem).1
        have hlt := gap_lt (hl := by rw [hs.len, hI.ito.len]) hb (stepsB_true hsb).2.1
        exact ih X x w (some ad) cx (by omega) hsx hIw hxw hXw
end
section
theorem fold_is {T : List (List Int)} {bu : Int} {s : List Int} {rec : List Int → Rs} : ∀ (l : List (List Int)) (b : Rs) (L : List (List Int)), (∀ x ∈ l, x ∈ L) → (b.is = true → b.nxt ∈ L ∧ stepsB T s b.nxt bu = true ∧ (rec b.nxt).is = true) →
    (l.foldl (bestStep T bu s rec) b).is = true → (l.foldl (bestStep T bu s rec) b).nxt ∈ L ∧ stepsB T s (l.foldl (bestStep T bu s rec) b).nxt bu = true ∧ (rec (l.foldl (bestStep T bu s rec) b).nxt).is = true := by
  intro l
  induction l with
  | nil => intro b L _ hb h; exact hb h
  | cons x l ih =>
    intro b L hl hb h
    refine ih _ L (fun y hy => hl y (by simp [hy])) (fun hi => ?_) h
    unfold bestStep at hi ⊢
    cases hs : stepsB T s x bu with
    | false => simp only [hs] at hi ⊢; exact hb (by simpa using hi)
    | true =>
      simp only [hs, if_true] at hi ⊢
      cases hr : (rec x).is with
      | false => simp only [hr] at hi ⊢; exact hb (by simpa using hi)
      | true =>
        simp only [hr, if_true] at hi ⊢
        split
        · exact ⟨hl x (by simp), hs, hr⟩
        · rename_i hc
          rw [if_neg hc] at hi
          exact hb hi

theorem bestV_next {f : Fl} {to : List Int} {bu : Int} {s : List Int} (hl : s.length = to.length) (hne : s ≠ to) (h : (bestV f to bu s).is = true) :
    (bestV f to bu s).nxt ∈ enum f s to s.length [] ∧ stepsB f.times s (bestV f to bu s).nxt bu = true ∧ (bestV f to bu (bestV f to bu s).nxt).is = true := by
  have he := bestV_eq (f := f) (bu := bu) hl
  rw [if_neg hne] at he
  cases ha : aboveV to s with
  | false => rw [ha] at he; simp at he; rw [he] at h; simp [Rs.no] at h
  | true =>
    rw [ha, if_pos rfl] at he
    rw [he] at h ⊢
    exact fold_is (L := enum f s to s.length []) _ Rs.no (fun _ hx => hx) (fun h => by simp [Rs.no] at h) h

def pathF (f : Fl) (to : List Int) (bu : Int) : Nat → List Int → List (List Int)
  | 0, _ => []
  | k + 1, s => if s = to then [] else (bestV f to bu s).nxt :: pathF f to bu k (bestV f to bu s).nxt
/-- the states of the plan from s on -/
def pathV (f : Fl) (to : List Int) (bu : Int) (s : List Int) : List (List Int) := pathF f to bu (gap s to) s

theorem next_gap {f : Fl} {to : List Int} {bu : Int} {s : List Int} (hl : s.length = to.length) (hne : s ≠ to) (h : (bestV f to bu s).is = true) : gap (bestV f to bu s).nxt to < gap s to ∧ (bestV f to bu s).nxt.length = to.length := by
  obtain ⟨h1, h2, _⟩ := bestV_next hl hne h
  have hb := (enum_between h1).1
  exact ⟨gap_lt (hl := hl) hb (stepsB_true h2).2.1, by rw [hb.len, hl]⟩

theorem pathF_fuel {f : Fl} {to : List Int} {bu : Int} : ∀ (k k' : Nat) (s : List Int), s.length = to.length → (bestV f to bu s).is = true → gap s to ≤ k → gap s to ≤ k' → pathF f to bu k s = pathF f to bu k' s := by
  intro k
  induction k with
  | zero =>
    intro k' s hl hi h0 _
    cases k' with
    | zero => rfl
    | succ k' =>
      simp only [pathF]
      by_cases hs : s = to
      · simp [hs]
      · have := next_gap hl hs hi; omega
  | succ k ih =>
    intro k' s hl hi h0 h1
    by_cases hs : s = to
    · cases k' <;> simp [pathF, hs]
    · have hg := next_gap hl hs hi
      cases k' with
      | zero => omega
      | succ k' =>
        simp only [pathF, if_neg hs]
        rw [ih k' _ hg.2 (bestV_next hl hs hi).2.2 (by omega) (by omega)]

theorem pathV_end (f : Fl) (to : List Int) (bu : Int) : pathV f to bu to = [] := by
  unfold pathV; cases gap to to <;> simp [pathF]
theorem pathV_step {f : Fl} {to : List Int} {bu : Int} {s : List Int} (hl : s.length = to.length) (hne : s ≠ to) (h : (bestV f to bu s).is = true) : pathV f to bu s = (bestV f to bu s).nxt :: pathV f to bu (bestV f to bu s).nxt := by
  have hg := next_gap hl hne h
  unfold pathV
  cases hk : gap s to with
  | zero => omega
  | succ k =>
    rw [hk] at hg
    simp only [pathF, if_neg hne]
    rw [pathF_fuel k (gap (bestV f to bu s).nxt to) _ hg.2 (bestV_next hl hne h).2.2 (by omega) (Nat.le_refl _)]

theorem pathF_len (f : Fl) (to : List Int) (bu : Int) : ∀ k s, (pathF f to bu k s).length ≤ k := by
  intro k
  induction k with
  | zero => intro s; simp [pathF]
  | succ k ih => intro s; simp only [pathF]; split <;> simp; exact ih _

/-- what Plan returns: the plan, and the error -/
def planE (f : Fl) (a b : List Int) (bu : Int) : Int := if plannedE f a b bu = 0 then (if (bestV f b bu a).is then 0 else 112) else plannedE f a b bu
def planV (f : Fl) (a b : List Int) (bu : Int) : List (List Int) := if planE f a b bu = 0 then pathV f b bu a else []
end
section
open Go.RowKit

theorem Try.info26 : (Try.prog.info? 26).map (fun i => (i.zero, i.size, i.bytes)) = some (some (.slice none 0 0), 1, 24) := by kernel_rfl

theorem only_grown {w w' : World} {row : Option Nat} (h : w.grownBy w' row) : Only (fun b => row = some b) w w' := by
  obtain ⟨h1, h2, h3, h4, h5⟩ := h
  exact ⟨h1, h2, h3, h4, fun b hb hn => h5 b hb (fun e => hn e.symm)⟩

/-- the slice v, of the call's own, holds slices that hold the lists L -/
def OutR (w : World) (B : Nat) (v : Value) (L : List (List Int)) : Prop :=
  ∃ xs : List Value, w.ownsRow B 26 1 v L.length xs ∧ ∀ j, j < L.length → ∃ ad n c, xs[j]? = some (.slice (some ad) n c) ∧ Ints w (some ad) n (L[j]?.getD []) ∧ Is3 w ad.block

theorem OutR.nil (w : World) (B : Nat) : OutR w B (.slice none 0 0) [] := ⟨[], World.ownsRow_nil w B 26 1, fun j hj => by simp at hj⟩

theorem ownsRow_only {S : Nat → Prop} {w w' : World} {B e size n : Nat} {v : Value} {xs : List Value} (h : w.ownsRow B e size v n xs) (g : Only S w w') (hs : NoCells S w) : w'.ownsRow B e size v n xs := by
  refine ⟨h.1, ?_⟩
  rcases h.2 with h2 | ⟨b, cap, cur, h1, h2, h3, h4⟩
  · exact .inl h2
  · exact .inr ⟨b, cap, cur, h1, h2, (g.block b (Array.getElem?_eq_some_iff.1 h3).1 (fun hS => hs b _ _ _ hS h3)).trans h3, h4⟩
theorem OutR.only {S : Nat → Prop} {w w' : World} {B : Nat} {v : Value} {L : List (List Int)} (h : OutR w B v L) (g : Only S w w') (hs : NoCells S w) : OutR w' B v L := by
  obtain ⟨xs, h1, h2⟩ := h
  refine ⟨xs, ownsRow_only h1 g hs, fun j hj => ?_⟩
  obtain ⟨ad, n, c, k1, k2, k3⟩ := h2 j hj
  exact ⟨ad, n, c, k1, k2.only g hs, k3.onlyN g hs⟩
theorem noc_none (w : World) : NoCells (fun _ => False) w := fun _ _ _ _ h => h.elim
theorem OutR.gr {w w' : World} {B : Nat} {v : Value} {L : List (List Int)} (h : OutR w B v L) (g : Gr w w') : OutR w' B v L := h.only (g.only (fun _ => False)) (noc_none w)

/-- the block of the slice holds slices, no numbers -/
theorem own_block {w : World} {B n : Nat} {v : Value} {xs : List Value} (h : w.ownsRow B 26 1 v n xs) {b : Nat} (hb : v.ownBlock = some b) : B ≤ b ∧ ¬ Is3 w b := by
  rcases h.2 with ⟨rfl, _⟩ | ⟨g, cap, cur, rfl, h2, h3, _⟩
  · simp [Value.ownBlock] at hb
  · simp [Value.ownBlock] at hb
    subst hb
    refine ⟨h2, fun h => ?_⟩
    obtain ⟨c2, fr, h4⟩ := h
    rw [h3] at h4
    injection h4 with h4
    injection h4 with _ h5
    cases h5

theorem OutR.push {w w1 : World} {B : Nat} {v v' : Value} {L : List (List Int)} {xs : List Value} {ad : Addr} {n c : Nat} {x : List Int} (h1 : w.ownsRow B 26 1 v L.length xs)
    (h2 : ∀ j, j < L.length → ∃ ad n c, xs[j]? = some (.slice (some ad) n c) ∧ Ints w (some ad) n (L[j]?.getD []) ∧ Is3 w ad.block) (hx : Ints w (some ad) n x) (h3 : Is3 w ad.block)
    (hown : w1.ownsRow B 26 1 v' (L.length + 1) (xs ++ [.slice (some ad) n c])) (hgrow : w.grownBy w1 v.ownBlock) : OutR w1 B v' (L ++ [x]) := by
  have hO := only_grown hgrow
  have hb : ∀ ad' : Addr, Is3 w ad'.block → ¬ (v.ownBlock = some ad'.block) := fun ad' h e => (own_block h1 e).2 h
  refine ⟨_, by simpa using hown, fun j hj => ?_⟩
  have hxl : xs.length = L.length := by simpa using h1.1
  by_cases e : j = L.length
  · subst e
    refine ⟨ad, n, c, by rw [← hxl]; simp, ?_, h3.only hO (hb ad h3)⟩
    have hxx : (L ++ [x])[L.length]?.getD [] = x := by simp
    rw [hxx]
    exact hx.onlyAt hO (fun ad' e => by cases e; exact hb ad h3)
  · have hj' : j < L.length := by simp at hj; omega
    obtain ⟨ad', n', c', k1, k2, k3⟩ := h2 j hj'
    refine ⟨ad', n', c', by rw [List.getElem?_append_left (by omega)]; exact k1, ?_, k3.only hO (hb ad' k3)⟩
    rw [List.getElem?_append_left hj']
    exact k2.onlyAt hO (fun ad2 e => by cases e; exact hb ad' k3)

theorem OutR.rows {w : World} {B : Nat} {v : Value} {L : List (List Int)} (h : OutR w B v L) (hl : L.length < 1152921504606846976) : ∃ a c, v = .slice a L.length c ∧ RowsAt w a L.length L ∧ L.length ≤ c := by
  obtain ⟨xs, h1, h2⟩ := h
  rcases h1.2 with ⟨rfl, h0⟩ | ⟨g, cap, cur, rfl, _, h3, hnc, _⟩
  · exact ⟨none, 0, by rw [h0], ⟨rfl, hl, fun j hj => by omega⟩, by omega⟩
  · refine ⟨some ⟨g, 0, none⟩, cap, rfl, ⟨rfl, hl, fun j hj => ?_⟩, hnc⟩
    obtain ⟨ad, n, c, k1, k2, _⟩ := h2 j hj
    exact ⟨⟨g, 0, none⟩, some ad, n, c, rfl, (Array.getElem?_eq_some_iff.1 h3).1, h1.cells (g := g) rfl j _ k1, k2⟩
end
section
open Go.RowKit

def PlanPost (w : World) (L : List (List Int)) (code : Int) (e : Ending) (w' : World) : Prop := ∃ ra rn rc, e = .returned (.tuple #[.slice ra rn rc, .int .i64 code]) ∧ RowsAt w' ra rn L ∧ Gr w w' ∧ rn ≤ rc

theorem RowsAt.nil (w : World) : RowsAt w none 0 [] := ⟨rfl, by omega, fun j hj => by omega⟩

/-- the two boxes ahead of begin -/
structure PB (w w2 : World) (va vb vc vd : Value) : Prop where
  gr : Gr w w2
  c0 : w2.cell? ⟨w.heap.size, 0, none⟩ = some va
  c1 : w2.cell? ⟨w.heap.size, 1, none⟩ = some vb
  d0 : w2.cell? ⟨w.heap.size + 1, 0, none⟩ = some vc
  d1 : w2.cell? ⟨w.heap.size + 1, 1, none⟩ = some vd
  sz : w.heap.size + 1 < w2.heap.size
theorem pb (w : World) (va vb vc vd : Value) : PB w ((w.alloc (.cells #[va, vb] 25)).alloc (.cells #[vc, vd] 26)) va vb vc vd := by
  have s1 : (w.alloc (.cells #[va, vb] 25)).heap.size = w.heap.size + 1 := by simp
  have g := Gr.alloc (w.alloc (.cells #[va, vb] 25)) (.cells #[vc, vd] 26)
  refine ⟨(Gr.alloc _ _).allocR _, (g.cell (by simp)).trans (cell_new rfl), (g.cell (by simp)).trans (cell_new rfl), ?_, ?_, by simp⟩
  · rw [← s1]; exact cell_new rfl
  · rw [← s1]; exact cell_new rfl

/-- the loop of Plan: what holds at its head -/
structure PlanR (q : PP) (W1 : World) (from_ : List Int) (cur : List Int) (done : List (List Int)) (sv v : Value) (wr : World) : Prop where
  on : Only (fun b => b = q.m ∨ W1.heap.size ≤ b) W1 wr
  memo : Memo wr q.m (fun s v => s.length = q.n ∧ RestV (fun _ => False) wr v (bestV q.f q.to q.bu s))
  out : OutR wr W1.heap.size v done
  sa : ∃ a c, sv = .slice a q.n c ∧ Ints wr a q.n cur ∧ ∀ ad, a = some ad → ad.block < W1.heap.size ∨ Is3 wr ad.block
  st : StOk q.f cur
  is : (bestV q.f q.to q.bu cur).is = true
  tot : done ++ pathV q.f q.to q.bu cur = pathV q.f q.to q.bu from_

theorem PlanR.inv {q : PP} {W1 wr : World} {fr cur : List Int} {done : List (List Int)} {sv v : Value} (h : PlanR q W1 fr cur done sv v wr) (hI : PInv q (fun _ => False) W1) : PInv q (fun _ => False) wr := hI.of h.on hI.nocS h.memo

theorem PlanR.gr {q : PP} {W1 wr w' : World} {fr cur : List Int} {done : List (List Int)} {sv v : Value} (h : PlanR q W1 fr cur done sv v wr) (g : Gr wr w') : PlanR q W1 fr cur done sv v w' := by
  refine ⟨h.on.thenGr g, h.memo.mono (g.below.block _ h.memo.lt) (fun s v hv => ⟨hv.1, hv.2.gr g⟩), h.out.gr g, ?_, h.st, h.is, h.tot⟩
  obtain ⟨a, c, h1, h2, h3⟩ := h.sa
  exact ⟨a, c, h1, h2.gr g, fun ad e => by
    rcases h3 ad e with h | h
    · exact .inl h
    · exact .inr (h.gr g)⟩

theorem beginE_ok {f : Fl} {bu : Int} {a b : List Int} (h : beginE f bu [a, b] = 0) : FlOk f ∧ StOk f a ∧ StOk f b := by
  have hz : statesE f [a, b] = 0 := by
    unfold beginE at h
    by_cases hz : statesE f [a, b] = 0
    · exact hz
    · rw [if_neg hz] at h; exact absurd h hz
  obtain ⟨hchk, hsts⟩ := statesE_zero hz
  exact ⟨chkB_ok hchk, stB_ok (stsB_two hsts).1, stB_ok (stsB_two hsts).2⟩

set_option maxHeartbeats 1000000 in
theorem plan_bad (ta ca a b : Option Addr) (tn tc cn cc n c m d : Nat) (f : Fl) (xs ys : List Int) (bu : Int) (w : World) (hf : FlAt w ta tn ca cn f) (hx : Ints w a n xs) (hy : Ints w b m ys) (he : ¬ plannedE f xs ys bu = 0) :
    Calls Try.prog 17 #[.agg #[.slice ta tn tc, .slice ca cn cc], .slice a n c, .slice b m d, .int .i64 bu] w (PlanPost w [] (plannedE f xs ys bu)) := by
  have h2 := pb w (.slice ta tn tc) (.slice ca cn cc) (.slice a n c) (.slice b m d)
  obtain ⟨w2, hw2⟩ : ∃ w2, (w.alloc (.cells #[.slice ta tn tc, .slice ca cn cc] 25)).alloc (.cells #[.slice a n c, .slice b m d] 26) = w2 := ⟨_, rfl⟩
  rw [hw2] at h2
  have hcon := Lib.hid (begin_any ta ca _ tn tc cn cc 2 2 f bu [xs, ys] w2 (hf.gr h2.gr) (rows2 (c := c) (d := d) h2.sz h2.d0 h2.d1 (hx.gr h2.gr) (hy.gr h2.gr)))
  by_cases hb : beginE f bu [xs, ys] = 0
  · obtain ⟨hok, hsx, hsy⟩ := beginE_ok hb
    have hbb : (beginE f bu [xs, ys] != 0) = false := by simp [hb]
    have HP : Hid (plannedE f xs ys bu = 111) := Lib.hid (by
      unfold plannedE at he ⊢
      rw [if_pos hb] at he ⊢
      split at he
      · exact absurd rfl he
      · rename_i h; rw [if_neg h])
    have hw12 : (worksB f xs && worksB f ys) = false := by
      cases h : (worksB f xs && worksB f ys) with
      | false => rfl
      | true => exact absurd (by unfold plannedE; rw [if_pos hb, h]; rfl) he
    have HB := Lib.hid hb
    clear hb he
    have c0 := h2.c0
    have c1 := h2.c1
    go_enter Try.func17, Try.ntmps17
    go_wp2_with fail
    refine hcon.out.mono ?_
    rintro e w3 ⟨rfl, g3⟩
    clear hw2
    have G3 := h2.gr.trans g3
    have e0 := (g3.cell (lt_cell c0)).trans c0
    have e1 := (g3.cell (lt_cell c1)).trans c1
    have HW := Lib.hid (works_any ta ca a tn tc cn cc n c f xs w3 (hf.gr G3) hok (hx.gr G3) hsx)
    go_wp2_with fail
    refine HW.out.mono ?_
    rintro e w4 ⟨rfl, g4⟩
    have e0' := (g4.cell (lt_cell e0)).trans e0
    have e1' := (g4.cell (lt_cell e1)).trans e1
    cases hwx : worksB f xs with
    | false =>
      go_wp2_with fail
      go_ret2
      exact ⟨none, 0, 0, by rw [HP.out]; rfl, RowsAt.nil _, G3.trans g4, Nat.le_refl _⟩
    | true =>
      have hwy : worksB f ys = false := by rw [hwx] at hw12; simpa using hw12
      have HW2 := Lib.hid (works_any ta ca b tn tc cn cc m d f ys w4 (hf.gr (G3.trans g4)) hok (hy.gr (G3.trans g4)) hsy)
      go_wp2_with fail
      refine HW2.out.mono ?_
      rintro e w5 ⟨rfl, g5⟩
      rw [hwy]
      go_wp2_with fail
      go_ret2
      exact ⟨none, 0, 0, by rw [HP.out]; rfl, RowsAt.nil _, (G3.trans g4).trans g5, Nat.le_refl _⟩
  · have hbb : (beginE f bu [xs, ys] != 0) = true := by simp [hb]
    have HP : Hid (plannedE f xs ys bu = beginE f bu [xs, ys]) := Lib.hid (by unfold plannedE; rw [if_neg hb])
    clear hb he
    go_enter Try.func17, Try.ntmps17
    go_wp2_with fail
    refine hcon.out.mono ?_
    rintro e w3 ⟨rfl, g3⟩
    go_wp2_with fail
    go_ret2
    exact ⟨none, 0, 0, by rw [HP.out]; rfl, RowsAt.nil _, h2.gr.trans g3, Nat.le_refl _⟩
end
end Go.Proofs.Ytaidcocjcidggaa
