/- The planner: a round of the loop of best. -/
import Derived.Test.YtlilojpnhmfnaaaPlanD
import Derived.RangeFuncNested
import Derived.RangeFuncBound
import Derived.RangeFuncCalls
import Derived.RangeFuncLeaves
import Derived.OwnWalkIn
import Derived.TacticsInMore
import Derived.IntWalk
namespace Go.Proofs.Ytlilojpnhmfnaaa
open Go.RowKit
attribute [local go_sem] Oper.semAt_some

/-- the body of the first range over a function -/
def firstBody : Code → Option Code
  | .rangeFunc _ _ _ b => some b
  | .seq a b => match firstBody a with | some c => some c | none => firstBody b
  | .cond _ a b => match firstBody a with | some c => some c | none => firstBody b
  | .block _ a => firstBody a
  | .loop a => firstBody a
  | .scope a => firstBody a
  | _ => none

def xcells (b : Nat) (v0 v1 v2 v3 : Value) : List (Addr × Value) := [(⟨b, 0, none⟩, v0), (⟨b, 1, none⟩, v1), (⟨b, 2, none⟩, v2), (⟨b, 3, none⟩, v3)]
theorem xcells_of {w : World} {b : Nat} {v0 v1 v2 v3 : Value} (h0 : w.cell? ⟨b, 0, none⟩ = some v0) (h1 : w.cell? ⟨b, 1, none⟩ = some v1) (h2 : w.cell? ⟨b, 2, none⟩ = some v2) (h3 : w.cell? ⟨b, 3, none⟩ = some v3) (hf : ∀ j, w.frozen? ⟨b, j, none⟩ = false) : LCells w (xcells b v0 v1 v2 v3) := by
  intro p hp
  simp only [xcells, List.mem_cons, List.not_mem_nil, or_false] at hp
  rcases hp with rfl | rfl | rfl | rfl
  · exact ⟨h0, hf 0⟩
  · exact ⟨h1, hf 1⟩
  · exact ⟨h2, hf 2⟩
  · exact ⟨h3, hf 3⟩
theorem xcells_new (w : World) (v0 v1 v2 v3 : Value) : LCells (w.alloc (.cells #[v0, v1, v2, v3] 79)) (xcells w.heap.size v0 v1 v2 v3) :=
  xcells_of (cell_new rfl) (cell_new rfl) (cell_new rfl) (cell_new rfl) (fun _ => frozen_new)
theorem xcells_set1 {w : World} {b : Nat} {v0 v1 v2 v3 : Value} (h : LCells w (xcells b v0 v1 v2 v3)) (v : Value) : LCells (w.setCell ⟨b, 1, none⟩ v) (xcells b v0 v v2 v3) := by
  have h0 := h.at 0 rfl
  have h1 := h.at 1 rfl
  have h2 := h.at 2 rfl
  have h3 := h.at 3 rfl
  have f0 := h.fr 0 rfl
  have f1 := h.fr 1 rfl
  have f2 := h.fr 2 rfl
  have f3 := h.fr 3 rfl
  intro p hp
  simp only [xcells, List.mem_cons, List.not_mem_nil, or_false] at hp
  simp only at h0 h1 h2 h3 f0 f1 f2 f3
  rcases hp with rfl | rfl | rfl | rfl
  · exact ⟨by simp [go_sem, h0], by simpa using f0⟩
  · exact ⟨by simp [go_sem, h1], by simpa using f1⟩
  · exact ⟨by simp [go_sem, h2], by simpa using f2⟩
  · exact ⟨by simp [go_sem, h3], by simpa using f3⟩
theorem xcells_set2 {w : World} {b : Nat} {v0 v1 v2 v3 : Value} (h : LCells w (xcells b v0 v1 v2 v3)) (v : Value) : LCells (w.setCell ⟨b, 2, none⟩ v) (xcells b v0 v1 v v3) := by
  have h0 := h.at 0 rfl
  have h1 := h.at 1 rfl
  have h2 := h.at 2 rfl
  have h3 := h.at 3 rfl
  have f0 := h.fr 0 rfl
  have f1 := h.fr 1 rfl
  have f2 := h.fr 2 rfl
  have f3 := h.fr 3 rfl
  intro p hp
  simp only [xcells, List.mem_cons, List.not_mem_nil, or_false] at hp
  simp only at h0 h1 h2 h3 f0 f1 f2 f3
  rcases hp with rfl | rfl | rfl | rfl
  · exact ⟨by simp [go_sem, h0], by simpa using f0⟩
  · exact ⟨by simp [go_sem, h1], by simpa using f1⟩
  · exact ⟨by simp [go_sem, h2], by simpa using f2⟩
  · exact ⟨by simp [go_sem, h3], by simpa using f3⟩

structure R16 (w2 : World) (bx : Nat) (p0 p1 p2 p3 s0 s1 s2 s3 : Value) (done : Nat → Bool) (W : World) : Prop where
  gr : Gr w2 W
  pre : done 11 = false → LCells W (xcells bx p0 p1 p2 p3)
  post : done 11 = true → LCells W (xcells bx s0 s1 s2 s3)
theorem R16.quiet {w2 W : World} {bx : Nat} {p0 p1 p2 p3 s0 s1 s2 s3 : Value} {done : Nat → Bool} (h : R16 w2 bx p0 p1 p2 p3 s0 s1 s2 s3 done W) {i : Nat} (hi : 11 ≠ i) : R16 w2 bx p0 p1 p2 p3 s0 s1 s2 s3 (upd done i) W := by
  refine ⟨h.gr, ?_, ?_⟩ <;> simp only [upd_ne hi]
  · exact h.pre
  · exact h.post
theorem R16.call {w2 W W' : World} {bx : Nat} {p0 p1 p2 p3 s0 s1 s2 s3 : Value} {done : Nat → Bool} (h : R16 w2 bx p0 p1 p2 p3 s0 s1 s2 s3 done W) (h11 : done 11 = false) (g : Gr W W') : R16 w2 bx p0 p1 p2 p3 s0 s1 s2 s3 (upd done 8) W' :=
  ⟨h.gr.trans g, fun _ => (h.pre h11).gr g, (fun h => by rw [upd_ne (by decide), h11] at h; cases h)⟩
theorem R16.store {w2 W : World} {bx : Nat} {p0 p1 p2 p3 s1 : Value} {done : Nat → Bool} (h : R16 w2 bx p0 p1 p2 p3 p0 s1 p2 p3 done W) (hb : w2.heap.size = bx) (h11 : done 11 = false) : R16 w2 bx p0 p1 p2 p3 p0 s1 p2 p3 (upd done 11) (W.setCell ⟨bx, 1, none⟩ s1) :=
  ⟨h.gr.setCell (by rw [hb]; exact Nat.le_refl _) _, (fun h => by rw [upd_self] at h; cases h), fun _ => xcells_set1 (h.pre h11) s1⟩

/-- two numbers in a new slice -/
def Two (W : World) (v : Value) (x y : Int) : Prop := ∃ g, v = .slice (some ⟨g, 0, none⟩) 2 2 ∧ W.cell? ((⟨g, 0, none⟩ : Addr).add 0) = some (.int .i64 x) ∧ W.cell? ((⟨g, 0, none⟩ : Addr).add 1) = some (.int .i64 y)

theorem best_set {q : PP} {X : Nat → Prop} {W w w6 : World} {s x : List Int} {a : Option Addr} {c kb b8 D cx : Nat} {ad : Addr} {pre : List (List Int)} {r p : Rs} {pa : Option Addr} {pk pc : Nat} (hn : BNum q W kb b8 D) (hB : BI q X W s a c kb b8 D pre w6) (hO : Only (fun b => b = q.m ∨ b = b8) w w6)
    (hx : Ints w6 (some ad) q.n x) (hx3 : Is3 w6 ad.block) (hax : D + 4 < ad.block) (H : PHyp q) (hfv : foldV q s (pre ++ [x]) = r.via q.f.times s x) (hl : LCells w6 (restL b8 p pa pk pc)) :
    Only (fun b => b = q.m ∨ b = b8) w ((((w6.setCell ⟨b8, 0, none⟩ (.int .i64 (r.steps + 1))).setCell ⟨b8, 1, none⟩ (.int .i64 (r.time + dur q.f.times s x))).setCell ⟨b8, 2, none⟩ (.slice (some ad) q.n cx)).setCell ⟨b8, 3, none⟩ (.bool true)) ∧
    BI q X W s a c kb b8 D (pre ++ [x]) ((((w6.setCell ⟨b8, 0, none⟩ (.int .i64 (r.steps + 1))).setCell ⟨b8, 1, none⟩ (.int .i64 (r.time + dur q.f.times s x))).setCell ⟨b8, 2, none⟩ (.slice (some ad) q.n cx)).setCell ⟨b8, 3, none⟩ (.bool true)) := by
  obtain ⟨w7, hw7⟩ : ∃ w7, (((w6.setCell ⟨b8, 0, none⟩ (.int .i64 (r.steps + 1))).setCell ⟨b8, 1, none⟩ (.int .i64 (r.time + dur q.f.times s x))).setCell ⟨b8, 2, none⟩ (.slice (some ad) q.n cx)).setCell ⟨b8, 3, none⟩ (.bool true) = w7 := ⟨_, rfl⟩
  have g : Only (fun b => b = b8) w6 w7 := by
    rw [← hw7]
    exact ((((Only.refl (fun b => b = b8) w6).setCell (p := ⟨b8, 0, none⟩) (.inl rfl) _).setCell (p := ⟨b8, 1, none⟩) (.inl rfl) _).setCell (p := ⟨b8, 2, none⟩) (.inl rfl) _).setCell (p := ⟨b8, 3, none⟩) (.inl rfl) _
  have h4 := setCell4 (hl.at 0 rfl) (hl.at 1 rfl) (hl.at 2 rfl) (hl.at 3 rfl) _ _ _ _ w7 hw7.symm
  rw [hw7]
  obtain ⟨_, e, l2, _⟩ := hx.at (j := 0) (by have := H.ok.n1; have := H.nt; omega)
  cases e
  have hi4 := hn.i4
  have hx7 : Ints w7 (some ad) q.n x := hx.onlyAt g (fun ad' e h => by cases e; omega)
  refine ⟨hO.trans (g.mono' (fun i e => .inr e)), hB.set hn g (a' := some ad) (k' := q.n) (c' := cx) ?_ (by rw [hfv]; exact hx7) (fun ad' e => by cases e; exact ⟨hax, hx3.only g (by omega)⟩)⟩
  rw [hfv]
  intro p hp
  simp only [restL, List.mem_cons, List.not_mem_nil, or_false] at hp
  rcases hp with rfl | rfl | rfl | rfl
  · exact ⟨h4.1, by rw [h4.2.2.2.2.1]; exact hl.fr 0 rfl⟩
  · exact ⟨h4.2.1, by rw [h4.2.2.2.2.1]; exact hl.fr 1 rfl⟩
  · exact ⟨h4.2.2.1, by rw [h4.2.2.2.2.1]; exact hl.fr 2 rfl⟩
  · exact ⟨h4.2.2.2.1, by rw [h4.2.2.2.2.1]; exact hl.fr 3 rfl⟩

set_option maxRecDepth 100000 in
set_option maxHeartbeats 4000000 in
theorem best_round (q : PP) (H : PHyp q) (X : Nat → Prop) (s x : List Int) (W w : World) (a : Option Addr) (c kb b8 D cx L : Nat) (ad : Addr) (pre : List (List Int)) {tt0 tt1 tt4 tt5 tt6 tt7 tt10 tt11 tt12 tt13 tt14 tt15 tt16 tt17 tt18 tt19 tt20 tt21 tt22 tt23 tt24 tt25 tt26 tt27 tt28 tt29 tt30 tt31 tt32 tt33 tt34 tt35 tt36 tt37 tt38 tt39 tt40 tt41 tt42 tt43 tt44 tt45 tt46 tt47 tt48 tt49 tt50 tt51 tt52 tt53 tt54 tt55 tt56 tt57 tt58 tt59 tt60 tt61 tt62 tt63 tt64 tt65 tt66 tt67 tt68 tt69 tt70 tt71 tt72 tt73 tt74 tt75 tt76 tt77 tt78 tt79 tt80 tt81 tt82 tt83 tt84 tt85 tt86 tt87 tt88 tt89 tt90 tt91 tt92 tt93 tt94 tt95 tt96 tt97 tt98 tt99 tt100 tt101 tt102 tt103 tt104 tt105 tt106 tt107 tt108 tt109 tt110 : Value} (body : Code) (hbo : (Try.f49.body.bind firstBody) = some body)
    (hI : PInv q X W) (hs : Ints W a q.n s) (hst : StOk q.f s) (hn : BNum q W kb b8 D) (hB : BI q X W s a c kb b8 D pre w) (hx : Ints w (some ad) q.n x) (hax : D + 4 < ad.block) (hx3 : Is3 w ad.block) (hsx : StOk q.f x)
    (hX : ∀ b, X b → b < W.heap.size)
    (ih : stepsB q.f.times s x q.bu = true → ∀ (w : World), PInv q (XL X W.heap.size (D + 4)) w → Ints w (some ad) q.n x → (∀ b, XL X W.heap.size (D + 4) b → b < w.heap.size) → Calls Try.prog 49 #[.pointer (some ⟨q.bp, 0, none⟩), .slice (some ad) q.n cx] w (BPost q (XL X W.heap.size (D + 4)) w x)) :
    body.wpIn (Fence.wide.inRound L) 0 Try.prog (roundQ (fun b => b = q.m ∨ b = b8) (BI q X W s a c kb b8 D) (fun _ _ => False) (pre ++ [x]) w) { tmps := #[tt0, tt1, .pointer (some ⟨W.heap.size, 0, none⟩), .pointer (some ⟨W.heap.size + 1, 0, none⟩), tt4, tt5, tt6, tt7, .pointer (some ⟨b8, 0, none⟩), .slice (some ad) q.n cx, tt10, tt11, tt12, tt13, tt14, tt15, tt16, tt17, tt18, tt19, tt20, tt21, tt22, tt23, tt24, tt25, tt26, tt27, tt28, tt29, tt30, tt31, tt32, tt33, tt34, tt35, tt36, tt37, tt38, tt39, tt40, tt41, tt42, tt43, tt44, tt45, tt46, tt47, tt48, tt49, tt50, tt51, tt52, tt53, tt54, tt55, tt56, tt57, tt58, tt59, tt60, tt61, tt62, tt63, tt64, tt65, tt66, tt67, tt68, tt69, tt70, tt71, tt72, tt73, tt74, tt75, tt76, tt77, tt78, tt79, tt80, tt81, tt82, tt83, tt84, tt85, tt86, tt87, tt88, tt89, tt90, tt91, tt92, tt93, tt94, tt95, tt96, tt97, tt98, tt99, tt100, tt101, tt102, tt103, tt104, tt105, tt106, tt107, tt108, tt109, tt110], defers := [] } w := by
  have hIw := hB.inv hI
  have hsw := hs.only hB.on hI.nocS
  have hxw := hx
  have b2 := hB.loc.at 0 rfl
  have b3 := hB.loc.at 1 rfl
  have c0 := hIw.c0
  have c1 := hIw.c1
  have c3 := hIw.c3
  simp only [Try.f49, Option.bind, firstBody] at hbo
  injection hbo with hbo
  subst hbo
  gi_wp2_with fail
  refine region_inv (F := Fence.wide.inRound L) (by kernel_rfl) (by rfl) (by decide) (fun _ => trivial)
    (fun done' u W' => Kn [some (.pointer (some ⟨q.bp, 0, none⟩)), some (.pointer (some ⟨q.bp, 0, none⟩)), some (.pointer (some ⟨q.bp, 0, none⟩)), some (.agg #[.slice q.ta q.tn q.tc, .slice q.ca q.cn q.cc]), some (.slice a q.n c), some (.slice (some ad) q.n cx), some (.pointer (some ⟨q.bp, 0, none⟩)), some (.pointer (some ⟨q.bp, 0, none⟩)), some (.pointer (some ⟨q.bp, 3, none⟩)), some (.int .i64 q.bu), some (.bool (stepsB q.f.times s x q.bu)), some (.bool (!stepsB q.f.times s x q.bu))] done' u ∧ Gr w W')
    (fun u => ⟨Kn.start _ _, Gr.drew w⟩) ⟨?_, ?_, ?_, ?_, ?_, ?_, ?_, ?_, ?_, ?_, ?_, ?_, trivial⟩ ?_
  · rintro u done' W' hd hanc hclo ⟨hk, hg⟩
    have c_b2 := (hg.cell (lt_cell b2)).trans b2
    refine op_plain (ro := some L) rfl (fun c h => by cases h) fun K hK => ?_
    simp only [fillL, List.setIfInBounds_toArray, List.set_cons_zero, List.set_cons_succ, Nat.zero_add, Nat.reduceAdd] at hK ⊢
    go_simp
    exact hK _ _ ⟨hk.new rfl, hg⟩
  · rintro u done' W' hd hanc hclo ⟨hk, hg⟩
    have e0 := hk.get 0 rfl (hanc 0 (mem_of (by kernel_rfl)))
    refine op_plain (ro := some L) rfl (fun c h => by cases h) fun K hK => ?_
    simp only [fillL, List.setIfInBounds_toArray, List.set_cons_zero, List.set_cons_succ, Nat.zero_add, Nat.reduceAdd, e0] at hK ⊢
    go_simp
    exact hK _ _ ⟨hk.new rfl, hg⟩
  · rintro u done' W' hd hanc hclo ⟨hk, hg⟩
    have e1 := hk.get 1 rfl (hanc 1 (mem_of (by kernel_rfl)))
    refine op_plain (ro := some L) rfl (fun c h => by cases h) fun K hK => ?_
    simp only [fillL, List.setIfInBounds_toArray, List.set_cons_zero, List.set_cons_succ, Nat.zero_add, Nat.reduceAdd, e1] at hK ⊢
    go_simp
    exact hK _ _ ⟨hk.new rfl, hg⟩
  · rintro u done' W' hd hanc hclo ⟨hk, hg⟩
    have e2 := hk.get 2 rfl (hanc 2 (mem_of (by kernel_rfl)))
    have c_c0 := (hg.cell (lt_cell c0)).trans c0
    have c_c1 := (hg.cell (lt_cell c1)).trans c1
    refine op_plain (ro := some L) rfl (fun c h => by cases h) fun K hK => ?_
    simp only [fillL, List.setIfInBounds_toArray, List.set_cons_zero, List.set_cons_succ, Nat.zero_add, Nat.reduceAdd, e2] at hK ⊢
    go_simp
    exact hK _ _ ⟨hk.new rfl, hg⟩
  · rintro u done' W' hd hanc hclo ⟨hk, hg⟩
    have c_b3 := (hg.cell (lt_cell b3)).trans b3
    refine op_plain (ro := some L) rfl (fun c h => by cases h) fun K hK => ?_
    simp only [fillL, List.setIfInBounds_toArray, List.set_cons_zero, List.set_cons_succ, Nat.zero_add, Nat.reduceAdd] at hK ⊢
    go_simp
    exact hK _ _ ⟨hk.new rfl, hg⟩
  · rintro u done' W' hd hanc hclo ⟨hk, hg⟩
    refine op_plain (ro := some L) rfl (fun c h => by cases h) fun K hK => ?_
    simp only [fillL, List.setIfInBounds_toArray, List.set_cons_zero, List.set_cons_succ, Nat.zero_add, Nat.reduceAdd] at hK ⊢
    go_simp
    exact hK _ _ ⟨hk.new rfl, hg⟩
  · rintro u done' W' hd hanc hclo ⟨hk, hg⟩
    have c_b2 := (hg.cell (lt_cell b2)).trans b2
    refine op_plain (ro := some L) rfl (fun c h => by cases h) fun K hK => ?_
    simp only [fillL, List.setIfInBounds_toArray, List.set_cons_zero, List.set_cons_succ, Nat.zero_add, Nat.reduceAdd] at hK ⊢
    go_simp
    exact hK _ _ ⟨hk.new rfl, hg⟩
  · rintro u done' W' hd hanc hclo ⟨hk, hg⟩
    have e6 := hk.get 6 rfl (hanc 6 (mem_of (by kernel_rfl)))
    refine op_plain (ro := some L) rfl (fun c h => by cases h) fun K hK => ?_
    simp only [fillL, List.setIfInBounds_toArray, List.set_cons_zero, List.set_cons_succ, Nat.zero_add, Nat.reduceAdd, e6] at hK ⊢
    go_simp
    exact hK _ _ ⟨hk.new rfl, hg⟩
  · rintro u done' W' hd hanc hclo ⟨hk, hg⟩
    have e7 := hk.get 7 rfl (hanc 7 (mem_of (by kernel_rfl)))
    refine op_plain (ro := some L) rfl (fun c h => by cases h) fun K hK => ?_
    simp only [fillL, List.setIfInBounds_toArray, List.set_cons_zero, List.set_cons_succ, Nat.zero_add, Nat.reduceAdd, e7] at hK ⊢
    go_simp
    exact hK _ _ ⟨hk.new rfl, hg⟩
  · rintro u done' W' hd hanc hclo ⟨hk, hg⟩
    have e8 := hk.get 8 rfl (hanc 8 (mem_of (by kernel_rfl)))
    have c_c3 := (hg.cell (lt_cell c3)).trans c3
    refine op_plain (ro := some L) rfl (fun c h => by cases h) fun K hK => ?_
    simp only [fillL, List.setIfInBounds_toArray, List.set_cons_zero, List.set_cons_succ, Nat.zero_add, Nat.reduceAdd, e8] at hK ⊢
    go_simp
    exact hK _ _ ⟨hk.new rfl, hg⟩
  · rintro u done' W' hd hanc hclo ⟨hk, hg⟩
    have e3 := hk.get 3 rfl (hanc 3 (mem_of (by kernel_rfl)))
    have e4 := hk.get 4 rfl (hanc 4 (mem_of (by kernel_rfl)))
    have e5 := hk.get 5 rfl (hanc 5 (mem_of (by kernel_rfl)))
    have e9 := hk.get 9 rfl (hanc 9 (mem_of (by kernel_rfl)))
    have HCON := Lib.hid (steps_any q.ta q.ca a (some ad) q.tn q.tc q.cn q.cc q.n c cx q.f s x q.bu W' (hIw.fl.gr hg) H.ok (hsw.gr hg) (hxw.gr hg) hst hsx)
    refine op_plain (ro := some L) rfl (fun c h => by cases h) fun K hK => ?_
    simp only [fillL, List.setIfInBounds_toArray, List.set_cons_zero, List.set_cons_succ, Nat.zero_add, Nat.reduceAdd, e3, e4, e5, e9] at hK ⊢
    go_simp
    refine HCON.out.mono ?_
    rintro e w2 ⟨rfl, hg2⟩
    exact hK _ _ ⟨hk.new rfl, hg.trans hg2⟩
  · rintro u done' W' hd hanc hclo ⟨hk, hg⟩
    have e10 := hk.get 10 rfl (hanc 10 (mem_of (by kernel_rfl)))
    refine op_plain (ro := some L) rfl (fun c h => by cases h) fun K hK => ?_
    simp only [fillL, List.setIfInBounds_toArray, List.set_cons_zero, List.set_cons_succ, Nat.zero_add, Nat.reduceAdd, e10] at hK ⊢
    go_simp
    exact hK _ _ ⟨hk.new rfl, hg⟩
  · rintro u W' ⟨done', hdn, hk, hg⟩
    have e0 := hk.get 0 rfl (hdn 0 (by decide))
    have e1 := hk.get 1 rfl (hdn 1 (by decide))
    have e2 := hk.get 2 rfl (hdn 2 (by decide))
    have e3 := hk.get 3 rfl (hdn 3 (by decide))
    have e4 := hk.get 4 rfl (hdn 4 (by decide))
    have e5 := hk.get 5 rfl (hdn 5 (by decide))
    have e6 := hk.get 6 rfl (hdn 6 (by decide))
    have e7 := hk.get 7 rfl (hdn 7 (by decide))
    have e8 := hk.get 8 rfl (hdn 8 (by decide))
    have e9 := hk.get 9 rfl (hdn 9 (by decide))
    have e10 := hk.get 10 rfl (hdn 10 (by decide))
    have e11 := hk.get 11 rfl (hdn 11 (by decide))
    simp only [fillL, List.setIfInBounds_toArray, List.set_cons_zero, List.set_cons_succ, Nat.zero_add, Nat.reduceAdd, e0, e1, e2, e3, e4, e5, e6, e7, e8, e9, e10, e11]
    clear hk hdn e0 e1 e2 e3 e4 e5 e6 e7 e8 e9 e10 e11
    cases hsb : stepsB q.f.times s x q.bu with
    | false =>
      have hfo : Hid (foldV q s (pre ++ [x]) = foldV q s pre) := Lib.hid (by simp [foldV, bestStep, hsb])
      clear hsb
      gi_wp2
      exact ⟨hg.only _, (hB.gr hn hg).same hfo.out⟩
    | true =>
      have hB1 := hB.gr hn hg
      have hx1 := hx.gr hg
      have hx13 := hx3.gr hg
      have hXw : ∀ b, XL X W.heap.size (D + 4) b → b < W'.heap.size := fun b hb => by
        have l1 := hB1.on.size
        obtain ⟨ad', e, l2, _⟩ := hx1.at (j := 0) (by have := H.ok.n1; have := H.nt; omega)
        cases e
        rcases hb with hb | hb
        · have := hX b hb; omega
        · omega
      have HIH := Lib.hid (ih hsb W' (hB1.inv hI) hx1 hXw)
      have HSB := Lib.hid hsb
      have b2 := hB1.loc.at 0 rfl
      have hbd := bestV_bd (bu := q.bu) H.ok H.sto x hsx
      have hfo : Hid (foldV q s (pre ++ [x]) = if (bestV q.f q.to q.bu x).is then (if !(foldV q s pre).is || rsLess ((bestV q.f q.to q.bu x).via q.f.times s x) (foldV q s pre) then (bestV q.f q.to q.bu x).via q.f.times s x else foldV q s pre) else foldV q s pre) := Lib.hid (by simp [foldV, bestStep, hsb])
      clear hsb ih
      generalize hr : bestV q.f q.to q.bu x = r at *
      gi_wp2_with fail
      refine ⟨trivial, rfl, ?_⟩
      refine (CallsIn.inRound L (callsIn_wide.2 HIH.out)).mono ?_
      rintro e w2 ⟨v, rfl, ⟨ra, rk, rc, rfl, hri, hrx⟩, hI2, hO2⟩
      rw [hr]
      have HR := Lib.hid hr
      have hB2 := hB1.call hI hO2 hI2
      have hx2 := hx1.only hO2 (hB1.inv hI).noc
      have hx23 := hx13.onlyN hO2 (hB1.inv hI).noc
      have hO02 : Only (fun b => b = q.m ∨ b = b8) w w2 := (hg.only _).trans (hO2.mono' (fun i e => .inl e))
      clear hr b2 hB1 hx1 HIH hO2 hg
      have hq1 := hbd.s0
      have hq2 := hbd.s1
      have hq3 := hbd.t0
      have hq4 := hbd.t1
      cases his : r.is with
      | false =>
        gi_wp2_with fail
        exact ⟨hO02.thenGr (Gr.alloc _ _), (hB2.gr hn (Gr.alloc _ _)).same (by rw [hfo.out, if_neg (by simp [his])])⟩
      | true =>
        have hab := aboveV_le (stepsB_true HSB.out).1
        have hdd := durTo_bd H.ok (fun c hc => (hst.ver c hc).1) hsx (fun c hc => hab c (by rw [hsx.len]; exact hc)) q.f.times.length (Nat.le_refl _)
        have hd0 : 0 ≤ dur q.f.times s x := by unfold dur; rw [hsx.len]; exact hdd.1
        have hd1 : dur q.f.times s x ≤ 60000 := by have := hdd.2; have := H.ok.n6; unfold dur; rw [hsx.len]; omega
        clear hdd
        gi_wp2_with fail
        have hXc := xcells_new w2 (.int .i64 (r.steps + 1)) (.int .i64 r.time) (.slice ra rk rc) (.bool true)
        have hg3 := Gr.alloc w2 (.cells #[.int .i64 (r.steps + 1), .int .i64 r.time, .slice ra rk rc, .bool true] 79)
        obtain ⟨w3, hw3⟩ : ∃ w3, w2.alloc (.cells #[.int .i64 (r.steps + 1), .int .i64 r.time, .slice ra rk rc, .bool true] 79) = w3 := ⟨_, rfl⟩
        rw [hw3] at hXc hg3 ⊢
        clear hw3
        have hI2w := hB2.inv hI
        have hs2w := hs.only hB2.on hI.nocS
        have d2 := hB2.loc.at 0 rfl
        have d3 := hB2.loc.at 1 rfl
        have g0 := hI2w.c0
        have g1 := hI2w.c1
        obtain ⟨bx, hbx⟩ : ∃ bx, w2.heap.size = bx := ⟨_, rfl⟩
        rw [hbx] at hXc ⊢
        have HBX := Lib.hid hbx
        clear hbx
        refine region_inv (F := Fence.wide.inRound L) (by kernel_rfl) (by rfl) (by decide) (fun _ => trivial)
          (fun done' u W' => Kn [some (.pointer (some ⟨bx, 1, none⟩)), some (.int .i64 r.time), some (.pointer (some ⟨q.bp, 0, none⟩)), some (.pointer (some ⟨q.bp, 0, none⟩)), some (.pointer (some ⟨q.bp, 0, none⟩)), some (.agg #[.slice q.ta q.tn q.tc, .slice q.ca q.cn q.cc]), some (.slice a q.n c), some (.slice (some ad) q.n cx), some (.int .i64 (dur q.f.times s x)), some (.int .i64 (r.time + dur q.f.times s x)), some (.pointer (some ⟨bx, 1, none⟩)), none] done' u ∧ R16 w2 bx (.int .i64 (r.steps + 1)) (.int .i64 (r.time)) (.slice ra rk rc) (.bool true) (.int .i64 (r.steps + 1)) (.int .i64 (r.time + dur q.f.times s x)) (.slice ra rk rc) (.bool true) done' W')
          (fun u => ⟨Kn.start _ _, ⟨hg3.drewR, fun _ => hXc.gr (Gr.drew _), (fun h => by cases h)⟩⟩) ⟨?_, ?_, ?_, ?_, ?_, ?_, ?_, ?_, ?_, ?_, ?_, ?_, trivial⟩ ?_
        · rintro u done' W' hd hanc hclo ⟨hk, hR⟩
          refine op_plain (ro := some L) rfl (fun c h => by cases h) fun K hK => ?_
          simp only [fillL, List.setIfInBounds_toArray, List.set_cons_zero, List.set_cons_succ, Nat.zero_add, Nat.reduceAdd] at hK ⊢
          go_simp
          exact hK _ _ ⟨hk.new rfl, hR.quiet (by decide)⟩
        · rintro u done' W' hd hanc hclo ⟨hk, hR⟩
          have e0 := hk.get 0 rfl (hanc 0 (mem_of (by kernel_rfl)))
          have hl := hR.pre (not_done hclo hd 11 rfl (by kernel_rfl))
          have y1 := hl.at 1 rfl
          refine op_plain (ro := some L) rfl (fun c h => by cases h) fun K hK => ?_
          simp only [fillL, List.setIfInBounds_toArray, List.set_cons_zero, List.set_cons_succ, Nat.zero_add, Nat.reduceAdd, e0] at hK ⊢
          go_simp
          exact hK _ _ ⟨hk.new rfl, hR.quiet (by decide)⟩
        · rintro u done' W' hd hanc hclo ⟨hk, hR⟩
          have c_d2 := (hR.gr.cell (lt_cell d2)).trans d2
          refine op_plain (ro := some L) rfl (fun c h => by cases h) fun K hK => ?_
          simp only [fillL, List.setIfInBounds_toArray, List.set_cons_zero, List.set_cons_succ, Nat.zero_add, Nat.reduceAdd] at hK ⊢
          go_simp
          exact hK _ _ ⟨hk.new rfl, hR.quiet (by decide)⟩
        · rintro u done' W' hd hanc hclo ⟨hk, hR⟩
          have e2 := hk.get 2 rfl (hanc 2 (mem_of (by kernel_rfl)))
          refine op_plain (ro := some L) rfl (fun c h => by cases h) fun K hK => ?_
          simp only [fillL, List.setIfInBounds_toArray, List.set_cons_zero, List.set_cons_succ, Nat.zero_add, Nat.reduceAdd, e2] at hK ⊢
          go_simp
          exact hK _ _ ⟨hk.new rfl, hR.quiet (by decide)⟩
        · rintro u done' W' hd hanc hclo ⟨hk, hR⟩
          have e3 := hk.get 3 rfl (hanc 3 (mem_of (by kernel_rfl)))
          refine op_plain (ro := some L) rfl (fun c h => by cases h) fun K hK => ?_
          simp only [fillL, List.setIfInBounds_toArray, List.set_cons_zero, List.set_cons_succ, Nat.zero_add, Nat.reduceAdd, e3] at hK ⊢
          go_simp
          exact hK _ _ ⟨hk.new rfl, hR.quiet (by decide)⟩
        · rintro u done' W' hd hanc hclo ⟨hk, hR⟩
          have e4 := hk.get 4 rfl (hanc 4 (mem_of (by kernel_rfl)))
          have c_g0 := (hR.gr.cell (lt_cell g0)).trans g0
          have c_g1 := (hR.gr.cell (lt_cell g1)).trans g1
          refine op_plain (ro := some L) rfl (fun c h => by cases h) fun K hK => ?_
          simp only [fillL, List.setIfInBounds_toArray, List.set_cons_zero, List.set_cons_succ, Nat.zero_add, Nat.reduceAdd, e4] at hK ⊢
          go_simp
          exact hK _ _ ⟨hk.new rfl, hR.quiet (by decide)⟩
        · rintro u done' W' hd hanc hclo ⟨hk, hR⟩
          have c_d3 := (hR.gr.cell (lt_cell d3)).trans d3
          refine op_plain (ro := some L) rfl (fun c h => by cases h) fun K hK => ?_
          simp only [fillL, List.setIfInBounds_toArray, List.set_cons_zero, List.set_cons_succ, Nat.zero_add, Nat.reduceAdd] at hK ⊢
          go_simp
          exact hK _ _ ⟨hk.new rfl, hR.quiet (by decide)⟩
        · rintro u done' W' hd hanc hclo ⟨hk, hR⟩
          refine op_plain (ro := some L) rfl (fun c h => by cases h) fun K hK => ?_
          simp only [fillL, List.setIfInBounds_toArray, List.set_cons_zero, List.set_cons_succ, Nat.zero_add, Nat.reduceAdd] at hK ⊢
          go_simp
          exact hK _ _ ⟨hk.new rfl, hR.quiet (by decide)⟩
        · rintro u done' W' hd hanc hclo ⟨hk, hR⟩
          have e5 := hk.get 5 rfl (hanc 5 (mem_of (by kernel_rfl)))
          have e6 := hk.get 6 rfl (hanc 6 (mem_of (by kernel_rfl)))
          have e7 := hk.get 7 rfl (hanc 7 (mem_of (by kernel_rfl)))
          have h11 := not_done hclo hd 11 rfl (by kernel_rfl)
          have HCON := Lib.hid (duration_any q.ta q.ca a (some ad) q.tn q.tc q.cn q.cc q.n c cx q.f s x W' (hI2w.fl.gr hR.gr) H.ok (hs2w.gr hR.gr) (hx2.gr hR.gr) (fun c hc => (hst.ver c hc).1) hsx (fun c hc => hab c (by rw [hsx.len]; exact hc)))
          refine op_plain (ro := some L) rfl (fun c h => by cases h) fun K hK => ?_
          simp only [fillL, List.setIfInBounds_toArray, List.set_cons_zero, List.set_cons_succ, Nat.zero_add, Nat.reduceAdd, e5, e6, e7] at hK ⊢
          go_simp
          refine HCON.out.mono ?_
          rintro e w5 ⟨rfl, hg5⟩
          exact hK _ _ ⟨hk.new rfl, hR.call h11 hg5⟩
        · rintro u done' W' hd hanc hclo ⟨hk, hR⟩
          have e1 := hk.get 1 rfl (hanc 1 (mem_of (by kernel_rfl)))
          have e8 := hk.get 8 rfl (hanc 8 (mem_of (by kernel_rfl)))
          have hw : IntKind.i64.wrap (r.time + dur q.f.times s x) = r.time + dur q.f.times s x := IntWalk.i64_in _ (by omega)
          refine op_plain (ro := some L) rfl (fun c h => by cases h) fun K hK => ?_
          simp only [fillL, List.setIfInBounds_toArray, List.set_cons_zero, List.set_cons_succ, Nat.zero_add, Nat.reduceAdd, e1, e8] at hK ⊢
          go_simp
          exact hK _ _ ⟨hk.new rfl, hR.quiet (by decide)⟩
        · rintro u done' W' hd hanc hclo ⟨hk, hR⟩
          refine op_plain (ro := some L) rfl (fun c h => by cases h) fun K hK => ?_
          simp only [fillL, List.setIfInBounds_toArray, List.set_cons_zero, List.set_cons_succ, Nat.zero_add, Nat.reduceAdd] at hK ⊢
          go_simp
          exact hK _ _ ⟨hk.new rfl, hR.quiet (by decide)⟩
        · rintro u done' W' hd hanc hclo ⟨hk, hR⟩
          have e9 := hk.get 9 rfl (hanc 9 (mem_of (by kernel_rfl)))
          have e10 := hk.get 10 rfl (hanc 10 (mem_of (by kernel_rfl)))
          have hl := hR.pre hd
          have y1 := hl.at 1 rfl
          have y2 := hl.fr 1 rfl
          refine op_plain (ro := some L) rfl (fun c h => by cases h) fun K hK => ?_
          simp only [fillL, List.setIfInBounds_toArray, List.set_cons_zero, List.set_cons_succ, Nat.zero_add, Nat.reduceAdd, e9, e10] at hK ⊢
          go_simp
          exact hK undef _ ⟨hk.skip rfl, hR.store HBX.out hd⟩
        · rintro u W' ⟨done', hdn, hk, hR⟩
          have e0 := hk.get 0 rfl (hdn 0 (by decide))
          have e1 := hk.get 1 rfl (hdn 1 (by decide))
          have e2 := hk.get 2 rfl (hdn 2 (by decide))
          have e3 := hk.get 3 rfl (hdn 3 (by decide))
          have e4 := hk.get 4 rfl (hdn 4 (by decide))
          have e5 := hk.get 5 rfl (hdn 5 (by decide))
          have e6 := hk.get 6 rfl (hdn 6 (by decide))
          have e7 := hk.get 7 rfl (hdn 7 (by decide))
          have e8 := hk.get 8 rfl (hdn 8 (by decide))
          have e9 := hk.get 9 rfl (hdn 9 (by decide))
          have e10 := hk.get 10 rfl (hdn 10 (by decide))
          simp only [fillL, List.setIfInBounds_toArray, List.set_cons_zero, List.set_cons_succ, Nat.zero_add, Nat.reduceAdd, e0, e1, e2, e3, e4, e5, e6, e7, e8, e9, e10]
          have hg4 := hR.gr
          have hX4 := hR.post (hdn 11 (by decide))
          clear hk hdn hR hXc hg3 d2 d3 g0 g1 e0 e1 e2 e3 e4 e5 e6 e7 e8 e9 e10
          rename World => w4
          have hB4 := hB2.gr hn hg4
          have hx4 := hx2.gr hg4
          obtain ⟨pa, pk, pc, hl8, hi8, had8⟩ := hB4.best
          have hO04 := hO02.thenGr hg4
          generalize hpp : foldV q s pre = p at hl8 hi8 hfo
          have HPP := Lib.hid hpp
          clear hpp hI2w hs2w
          have x0 := hX4.at 0 rfl
          have x1 := hX4.at 1 rfl
          have y0 := hl8.at 0 rfl
          have y1 := hl8.at 1 rfl
          have y3 := hl8.at 3 rfl
          cases hpi : p.is with
          | false =>
            rw [hpi] at y3
            gi_wp2_with fail
            refine region_inv (F := Fence.wide.inRound L) (by kernel_rfl) (by rfl) (by decide) (fun _ => trivial)
              (fun done' u W' => Kn [some (.pointer (some ⟨b8, 3, none⟩)), some (.bool false), some (.bool true), some (.bool true), none, none, none, none, none, none, none, none, none, none, none, none, none, some (.bool true)] done' u ∧ Gr w4 W' ∧ True)
              (fun u => ⟨Kn.start _ _, ⟨Gr.drew w4, trivial⟩⟩) ⟨?_, ?_, ?_, ?_, ?_, ?_, ?_, ?_, ?_, ?_, ?_, ?_, ?_, ?_, ?_, ?_, ?_, ?_, trivial⟩ ?_
            · rintro u done' W' hd hanc hclo ⟨hk, hg⟩
              refine op_plain (ro := some L) rfl (fun c h => by cases h) fun K hK => ?_
              simp only [fillL, List.setIfInBounds_toArray, List.set_cons_zero, List.set_cons_succ, Nat.zero_add, Nat.reduceAdd] at hK ⊢
              go_simp
              exact hK _ _ ⟨hk.new rfl, hg⟩
            · rintro u done' W' hd hanc hclo ⟨hk, hg⟩
              have e0 := hk.get 0 rfl (hanc 0 (mem_of (by kernel_rfl)))
              have c_y3 := (hg.1.cell (lt_cell y3)).trans y3
              refine op_plain (ro := some L) rfl (fun c h => by cases h) fun K hK => ?_
              simp only [fillL, List.setIfInBounds_toArray, List.set_cons_zero, List.set_cons_succ, Nat.zero_add, Nat.reduceAdd, e0] at hK ⊢
              go_simp
              exact hK _ _ ⟨hk.new rfl, hg⟩
            · rintro u done' W' hd hanc hclo ⟨hk, hg⟩
              have e1 := hk.get 1 rfl (hanc 1 (mem_of (by kernel_rfl)))
              refine op_plain (ro := some L) rfl (fun c h => by cases h) fun K hK => ?_
              simp only [fillL, List.setIfInBounds_toArray, List.set_cons_zero, List.set_cons_succ, Nat.zero_add, Nat.reduceAdd, e1] at hK ⊢
              go_simp
              exact hK _ _ ⟨hk.new rfl, hg⟩
            · rintro u done' W' hd hanc hclo ⟨hk, hg⟩
              have e2 := hk.get 2 rfl (hanc 2 (mem_of (by kernel_rfl)))
              refine op_plain (ro := some L) rfl (fun c h => by cases h) fun K hK => ?_
              simp only [fillL, List.setIfInBounds_toArray, List.set_cons_zero, List.set_cons_succ, Nat.zero_add, Nat.reduceAdd, e2] at hK ⊢
              go_simp
              exact hK _ _ ⟨hk.new rfl, hg⟩
            · intro u done' W' hd hanc hclo hR
              have e3 := hR.1.get 3 rfl (hanc 3 (mem_of (by kernel_rfl)))
              with_reducible refine op_skip 3 false e3 rfl ?_ ?_ rfl ?_
              · decide
              · rfl
              · obtain ⟨hk, hg⟩ := hR
                exact ⟨hk.skip rfl, hg⟩
            · intro u done' W' hd hanc hclo hR
              have e3 := hR.1.get 3 rfl (hanc 3 (mem_of (by kernel_rfl)))
              with_reducible refine op_skip 3 false e3 rfl ?_ ?_ rfl ?_
              · decide
              · rfl
              · obtain ⟨hk, hg⟩ := hR
                exact ⟨hk.skip rfl, hg⟩
            · intro u done' W' hd hanc hclo hR
              have e3 := hR.1.get 3 rfl (hanc 3 (mem_of (by kernel_rfl)))
              with_reducible refine op_skip 3 false e3 rfl ?_ ?_ rfl ?_
              · decide
              · rfl
              · obtain ⟨hk, hg⟩ := hR
                exact ⟨hk.skip rfl, hg⟩
            · intro u done' W' hd hanc hclo hR
              have e3 := hR.1.get 3 rfl (hanc 3 (mem_of (by kernel_rfl)))
              with_reducible refine op_skip 3 false e3 rfl ?_ ?_ rfl ?_
              · decide
              · rfl
              · obtain ⟨hk, hg⟩ := hR
                exact ⟨hk.skip rfl, hg⟩
            · intro u done' W' hd hanc hclo hR
              have e3 := hR.1.get 3 rfl (hanc 3 (mem_of (by kernel_rfl)))
              with_reducible refine op_skip 3 false e3 rfl ?_ ?_ rfl ?_
              · decide
              · rfl
              · obtain ⟨hk, hg⟩ := hR
                exact ⟨hk.skip rfl, hg⟩
            · intro u done' W' hd hanc hclo hR
              have e3 := hR.1.get 3 rfl (hanc 3 (mem_of (by kernel_rfl)))
              with_reducible refine op_skip 3 false e3 rfl ?_ ?_ rfl ?_
              · decide
              · rfl
              · obtain ⟨hk, hg⟩ := hR
                exact ⟨hk.skip rfl, hg⟩
            · intro u done' W' hd hanc hclo hR
              have e3 := hR.1.get 3 rfl (hanc 3 (mem_of (by kernel_rfl)))
              with_reducible refine op_skip 3 false e3 rfl ?_ ?_ rfl ?_
              · decide
              · rfl
              · obtain ⟨hk, hg⟩ := hR
                exact ⟨hk.skip rfl, hg⟩
            · intro u done' W' hd hanc hclo hR
              have e3 := hR.1.get 3 rfl (hanc 3 (mem_of (by kernel_rfl)))
              with_reducible refine op_skip 3 false e3 rfl ?_ ?_ rfl ?_
              · decide
              · rfl
              · obtain ⟨hk, hg⟩ := hR
                exact ⟨hk.skip rfl, hg⟩
            · intro u done' W' hd hanc hclo hR
              have e3 := hR.1.get 3 rfl (hanc 3 (mem_of (by kernel_rfl)))
              with_reducible refine op_skip 3 false e3 rfl ?_ ?_ rfl ?_
              · decide
              · rfl
              · obtain ⟨hk, hg⟩ := hR
                exact ⟨hk.skip rfl, hg⟩
            · intro u done' W' hd hanc hclo hR
              have e3 := hR.1.get 3 rfl (hanc 3 (mem_of (by kernel_rfl)))
              with_reducible refine op_skip 3 false e3 rfl ?_ ?_ rfl ?_
              · decide
              · rfl
              · obtain ⟨hk, hg⟩ := hR
                exact ⟨hk.skip rfl, hg⟩
            · intro u done' W' hd hanc hclo hR
              have e3 := hR.1.get 3 rfl (hanc 3 (mem_of (by kernel_rfl)))
              with_reducible refine op_skip 3 false e3 rfl ?_ ?_ rfl ?_
              · decide
              · rfl
              · obtain ⟨hk, hg⟩ := hR
                exact ⟨hk.skip rfl, hg⟩
            · intro u done' W' hd hanc hclo hR
              have e3 := hR.1.get 3 rfl (hanc 3 (mem_of (by kernel_rfl)))
              with_reducible refine op_skip 3 false e3 rfl ?_ ?_ rfl ?_
              · decide
              · rfl
              · obtain ⟨hk, hg⟩ := hR
                exact ⟨hk.skip rfl, hg⟩
            · intro u done' W' hd hanc hclo hR
              have e3 := hR.1.get 3 rfl (hanc 3 (mem_of (by kernel_rfl)))
              with_reducible refine op_skip 3 false e3 rfl ?_ ?_ rfl ?_
              · decide
              · rfl
              · obtain ⟨hk, hg⟩ := hR
                exact ⟨hk.skip rfl, hg⟩
            · rintro u done' W' hd hanc hclo ⟨hk, hg⟩
              have e3 := hk.get 3 rfl (hanc 3 (mem_of (by kernel_rfl)))
              refine op_plain (ro := some L) rfl (fun c h => by cases h) fun K hK => ?_
              simp only [fillL, List.setIfInBounds_toArray, List.set_cons_zero, List.set_cons_succ, Nat.zero_add, Nat.reduceAdd, e3] at hK ⊢
              go_simp
              exact hK _ _ ⟨hk.new rfl, hg⟩
            · rintro u W' ⟨done', hdn, hk, hg⟩
              have e0 := hk.get 0 rfl (hdn 0 (by decide))
              have e1 := hk.get 1 rfl (hdn 1 (by decide))
              have e2 := hk.get 2 rfl (hdn 2 (by decide))
              have e3 := hk.get 3 rfl (hdn 3 (by decide))
              have e17 := hk.get 17 rfl (hdn 17 (by decide))
              simp only [fillL, List.setIfInBounds_toArray, List.set_cons_zero, List.set_cons_succ, Nat.zero_add, Nat.reduceAdd, e0, e1, e2, e3, e17]
              have hX5 := hX4.gr hg.1
              have hl5 := hl8.gr hg.1
              have hB5 := hB4.gr hn hg.1
              have hx5 := hx4.gr hg.1
              have hO05 := hO04.thenGr hg.1
              have HFV : Hid (foldV q s (pre ++ [x]) = r.via q.f.times s x) := Lib.hid (by rw [hfo.out, if_pos his, if_pos (by simp [hpi])])
              clear hX4 hl8 hB4 hx4 hO04 hfo x0 x1 y0 y1 y3
              have x0 := hX5.at 0 rfl
              have x1 := hX5.at 1 rfl
              have x2 := hX5.at 2 rfl
              have x3 := hX5.at 3 rfl
              have xf := hX5.fr 2 rfl
              have y0 := hl5.at 0 rfl
              have y1 := hl5.at 1 rfl
              have y2 := hl5.at 2 rfl
              have y3 := hl5.at 3 rfl
              have z0 := hl5.fr 0 rfl
              have z1 := hl5.fr 1 rfl
              have z2 := hl5.fr 2 rfl
              have z3 := hl5.fr 3 rfl
              have hnb : b8 < bx := by
                have l1 := hn.i4
                obtain ⟨_, e, l2, _⟩ := hx2.at (j := 0) (by have := H.ok.n1; have := H.nt; omega)
                cases e
                have := HBX.out
                omega
              have hne : bx ≠ b8 := by omega
              have hne2 : b8 ≠ bx := by omega
              gi_wp2_with fail
              have hG6 : Gr w2 (W'.setCell ⟨bx, 2, none⟩ (.slice (some ad) q.n cx)) := (hg4.trans hg.1).setCell (by rw [HBX.out]; exact Nat.le_refl _) _
              exact best_set hn (hB2.gr hn hG6) (hO02.thenGr hG6) (hx2.gr hG6) (hx23.gr hG6) hax H HFV.out (hl5.only (S := fun b => b = bx) (Only.setCell (S := fun b => b = bx) (Only.refl _ _) (p := ⟨bx, 2, none⟩) (.inl rfl) _) (fun p hp => by rw [restL_blocks p hp]; exact hne2))
          | true =>
            rw [hpi] at y3
            gi_wp2_with fail
            refine region_inv (F := Fence.wide.inRound L) (by kernel_rfl) (by rfl) (by decide) (fun _ => trivial)
              (fun done' u W' => Kn [some (.pointer (some ⟨b8, 3, none⟩)), some (.bool true), some (.bool false), some (.bool false), some (.pointer (some ⟨bx, 0, none⟩)), some (.int .i64 (r.steps + 1)), some (.pointer (some ⟨b8, 0, none⟩)), some (.int .i64 p.steps), some (.int .i64 (cmpI (r.steps + 1) p.steps)), some (.pointer (some ⟨bx, 1, none⟩)), some (.int .i64 (r.time + dur q.f.times s x)), some (.pointer (some ⟨b8, 1, none⟩)), some (.int .i64 p.time), some (.int .i64 (cmpI (r.time + dur q.f.times s x) p.time)), none, some (.int .i64 (orI (cmpI (r.steps + 1) p.steps) (cmpI (r.time + dur q.f.times s x) p.time))), some (.bool (decide (orI (cmpI (r.steps + 1) p.steps) (cmpI (r.time + dur q.f.times s x) p.time) < 0))), some (.bool (decide (orI (cmpI (r.steps + 1) p.steps) (cmpI (r.time + dur q.f.times s x) p.time) < 0)))] done' u ∧ Gr w4 W' ∧ (done' 14 = true → Two W' (u 14) (cmpI (r.steps + 1) p.steps) (cmpI (r.time + dur q.f.times s x) p.time)))
              (fun u => ⟨Kn.start _ _, ⟨Gr.drew w4, fun h => by cases h⟩⟩) ⟨?_, ?_, ?_, ?_, ?_, ?_, ?_, ?_, ?_, ?_, ?_, ?_, ?_, ?_, ?_, ?_, ?_, ?_, trivial⟩ ?_
            · rintro u done' W' hd hanc hclo ⟨hk, hg⟩
              refine op_plain (ro := some L) rfl (fun c h => by cases h) fun K hK => ?_
              simp only [fillL, List.setIfInBounds_toArray, List.set_cons_zero, List.set_cons_succ, Nat.zero_add, Nat.reduceAdd] at hK ⊢
              go_simp
              exact hK _ _ ⟨hk.new rfl, ⟨hg.1, fun h => by rw [upd_ne (by decide)] at h; simpa using hg.2 h⟩⟩
            · rintro u done' W' hd hanc hclo ⟨hk, hg⟩
              have e0 := hk.get 0 rfl (hanc 0 (mem_of (by kernel_rfl)))
              have c_y3 := (hg.1.cell (lt_cell y3)).trans y3
              refine op_plain (ro := some L) rfl (fun c h => by cases h) fun K hK => ?_
              simp only [fillL, List.setIfInBounds_toArray, List.set_cons_zero, List.set_cons_succ, Nat.zero_add, Nat.reduceAdd, e0] at hK ⊢
              go_simp
              exact hK _ _ ⟨hk.new rfl, ⟨hg.1, fun h => by rw [upd_ne (by decide)] at h; simpa using hg.2 h⟩⟩
            · rintro u done' W' hd hanc hclo ⟨hk, hg⟩
              have e1 := hk.get 1 rfl (hanc 1 (mem_of (by kernel_rfl)))
              refine op_plain (ro := some L) rfl (fun c h => by cases h) fun K hK => ?_
              simp only [fillL, List.setIfInBounds_toArray, List.set_cons_zero, List.set_cons_succ, Nat.zero_add, Nat.reduceAdd, e1] at hK ⊢
              go_simp
              exact hK _ _ ⟨hk.new rfl, ⟨hg.1, fun h => by rw [upd_ne (by decide)] at h; simpa using hg.2 h⟩⟩
            · rintro u done' W' hd hanc hclo ⟨hk, hg⟩
              have e2 := hk.get 2 rfl (hanc 2 (mem_of (by kernel_rfl)))
              refine op_plain (ro := some L) rfl (fun c h => by cases h) fun K hK => ?_
              simp only [fillL, List.setIfInBounds_toArray, List.set_cons_zero, List.set_cons_succ, Nat.zero_add, Nat.reduceAdd, e2] at hK ⊢
              go_simp
              exact hK _ _ ⟨hk.new rfl, ⟨hg.1, fun h => by rw [upd_ne (by decide)] at h; simpa using hg.2 h⟩⟩
            · intro u done' W' hd hanc hclo hR
              have hk := hR.1
              have e3 := hk.get 3 rfl (hanc 3 (mem_of (by kernel_rfl)))
              with_reducible refine op_meetIn 3 false e3 ?_ ?_ ?_ ?_
              · decide
              · rfl
              · rfl
              refine op_in (ro := some L) ?_ ?_
              · intro c h; cases h
              intro K hK
              have hg := hR.2
              simp only [fillL, List.setIfInBounds_toArray, List.set_cons_zero, List.set_cons_succ, Nat.zero_add, Nat.reduceAdd, e3] at hK ⊢
              go_simp
              exact hK _ _ ⟨hk.new rfl, ⟨hg.1, fun h => by rw [upd_ne (by decide)] at h; simpa using hg.2 h⟩⟩
            · intro u done' W' hd hanc hclo hR
              have hk := hR.1
              have e3 := hk.get 3 rfl (hanc 3 (mem_of (by kernel_rfl)))
              have e4 := hk.get 4 rfl (hanc 4 (mem_of (by kernel_rfl)))
              with_reducible refine op_meetIn 3 false e3 ?_ ?_ ?_ ?_
              · decide
              · rfl
              · rfl
              refine op_in (ro := some L) ?_ ?_
              · intro c h; cases h
              intro K hK
              have hg := hR.2
              have c_x0 := (hg.1.cell (lt_cell x0)).trans x0
              simp only [fillL, List.setIfInBounds_toArray, List.set_cons_zero, List.set_cons_succ, Nat.zero_add, Nat.reduceAdd, e3, e4] at hK ⊢
              go_simp
              exact hK _ _ ⟨hk.new rfl, ⟨hg.1, fun h => by rw [upd_ne (by decide)] at h; simpa using hg.2 h⟩⟩
            · intro u done' W' hd hanc hclo hR
              have hk := hR.1
              have e3 := hk.get 3 rfl (hanc 3 (mem_of (by kernel_rfl)))
              with_reducible refine op_meetIn 3 false e3 ?_ ?_ ?_ ?_
              · decide
              · rfl
              · rfl
              refine op_in (ro := some L) ?_ ?_
              · intro c h; cases h
              intro K hK
              have hg := hR.2
              simp only [fillL, List.setIfInBounds_toArray, List.set_cons_zero, List.set_cons_succ, Nat.zero_add, Nat.reduceAdd, e3] at hK ⊢
              go_simp
              exact hK _ _ ⟨hk.new rfl, ⟨hg.1, fun h => by rw [upd_ne (by decide)] at h; simpa using hg.2 h⟩⟩
            · intro u done' W' hd hanc hclo hR
              have hk := hR.1
              have e3 := hk.get 3 rfl (hanc 3 (mem_of (by kernel_rfl)))
              have e6 := hk.get 6 rfl (hanc 6 (mem_of (by kernel_rfl)))
              with_reducible refine op_meetIn 3 false e3 ?_ ?_ ?_ ?_
              · decide
              · rfl
              · rfl
              refine op_in (ro := some L) ?_ ?_
              · intro c h; cases h
              intro K hK
              have hg := hR.2
              have c_y0 := (hg.1.cell (lt_cell y0)).trans y0
              simp only [fillL, List.setIfInBounds_toArray, List.set_cons_zero, List.set_cons_succ, Nat.zero_add, Nat.reduceAdd, e3, e6] at hK ⊢
              go_simp
              exact hK _ _ ⟨hk.new rfl, ⟨hg.1, fun h => by rw [upd_ne (by decide)] at h; simpa using hg.2 h⟩⟩
            · intro u done' W' hd hanc hclo hR
              have hk := hR.1
              have e3 := hk.get 3 rfl (hanc 3 (mem_of (by kernel_rfl)))
              have e5 := hk.get 5 rfl (hanc 5 (mem_of (by kernel_rfl)))
              have e7 := hk.get 7 rfl (hanc 7 (mem_of (by kernel_rfl)))
              with_reducible refine op_meetIn 3 false e3 ?_ ?_ ?_ ?_
              · decide
              · rfl
              · rfl
              refine op_in (ro := some L) ?_ ?_
              · intro c h; cases h
              intro K hK
              have hg := hR.2
              have HCON := Lib.hid (compare_any (r.steps + 1) p.steps W')
              simp only [fillL, List.setIfInBounds_toArray, List.set_cons_zero, List.set_cons_succ, Nat.zero_add, Nat.reduceAdd, e3, e5, e7] at hK ⊢
              go_simp
              refine HCON.out.mono ?_
              rintro e w5 ⟨rfl, rfl⟩
              exact hK _ _ ⟨hk.new rfl, ⟨hg.1, fun h => by rw [upd_ne (by decide)] at h; simpa using hg.2 h⟩⟩
            · intro u done' W' hd hanc hclo hR
              have hk := hR.1
              have e3 := hk.get 3 rfl (hanc 3 (mem_of (by kernel_rfl)))
              with_reducible refine op_meetIn 3 false e3 ?_ ?_ ?_ ?_
              · decide
              · rfl
              · rfl
              refine op_in (ro := some L) ?_ ?_
              · intro c h; cases h
              intro K hK
              have hg := hR.2
              simp only [fillL, List.setIfInBounds_toArray, List.set_cons_zero, List.set_cons_succ, Nat.zero_add, Nat.reduceAdd, e3] at hK ⊢
              go_simp
              exact hK _ _ ⟨hk.new rfl, ⟨hg.1, fun h => by rw [upd_ne (by decide)] at h; simpa using hg.2 h⟩⟩
            · intro u done' W' hd hanc hclo hR
              have hk := hR.1
              have e3 := hk.get 3 rfl (hanc 3 (mem_of (by kernel_rfl)))
              have e9 := hk.get 9 rfl (hanc 9 (mem_of (by kernel_rfl)))
              with_reducible refine op_meetIn 3 false e3 ?_ ?_ ?_ ?_
              · decide
              · rfl
              · rfl
              refine op_in (ro := some L) ?_ ?_
              · intro c h; cases h
              intro K hK
              have hg := hR.2
              have c_x1 := (hg.1.cell (lt_cell x1)).trans x1
              simp only [fillL, List.setIfInBounds_toArray, List.set_cons_zero, List.set_cons_succ, Nat.zero_add, Nat.reduceAdd, e3, e9] at hK ⊢
              go_simp
              exact hK _ _ ⟨hk.new rfl, ⟨hg.1, fun h => by rw [upd_ne (by decide)] at h; simpa using hg.2 h⟩⟩
            · intro u done' W' hd hanc hclo hR
              have hk := hR.1
              have e3 := hk.get 3 rfl (hanc 3 (mem_of (by kernel_rfl)))
              with_reducible refine op_meetIn 3 false e3 ?_ ?_ ?_ ?_
              · decide
              · rfl
              · rfl
              refine op_in (ro := some L) ?_ ?_
              · intro c h; cases h
              intro K hK
              have hg := hR.2
              simp only [fillL, List.setIfInBounds_toArray, List.set_cons_zero, List.set_cons_succ, Nat.zero_add, Nat.reduceAdd, e3] at hK ⊢
              go_simp
              exact hK _ _ ⟨hk.new rfl, ⟨hg.1, fun h => by rw [upd_ne (by decide)] at h; simpa using hg.2 h⟩⟩
            · intro u done' W' hd hanc hclo hR
              have hk := hR.1
              have e3 := hk.get 3 rfl (hanc 3 (mem_of (by kernel_rfl)))
              have e11 := hk.get 11 rfl (hanc 11 (mem_of (by kernel_rfl)))
              with_reducible refine op_meetIn 3 false e3 ?_ ?_ ?_ ?_
              · decide
              · rfl
              · rfl
              refine op_in (ro := some L) ?_ ?_
              · intro c h; cases h
              intro K hK
              have hg := hR.2
              have c_y1 := (hg.1.cell (lt_cell y1)).trans y1
              simp only [fillL, List.setIfInBounds_toArray, List.set_cons_zero, List.set_cons_succ, Nat.zero_add, Nat.reduceAdd, e3, e11] at hK ⊢
              go_simp
              exact hK _ _ ⟨hk.new rfl, ⟨hg.1, fun h => by rw [upd_ne (by decide)] at h; simpa using hg.2 h⟩⟩
            · intro u done' W' hd hanc hclo hR
              have hk := hR.1
              have e3 := hk.get 3 rfl (hanc 3 (mem_of (by kernel_rfl)))
              have e10 := hk.get 10 rfl (hanc 10 (mem_of (by kernel_rfl)))
              have e12 := hk.get 12 rfl (hanc 12 (mem_of (by kernel_rfl)))
              with_reducible refine op_meetIn 3 false e3 ?_ ?_ ?_ ?_
              · decide
              · rfl
              · rfl
              refine op_in (ro := some L) ?_ ?_
              · intro c h; cases h
              intro K hK
              have hg := hR.2
              have HCON := Lib.hid (compare_any (r.time + dur q.f.times s x) p.time W')
              simp only [fillL, List.setIfInBounds_toArray, List.set_cons_zero, List.set_cons_succ, Nat.zero_add, Nat.reduceAdd, e3, e10, e12] at hK ⊢
              go_simp
              refine HCON.out.mono ?_
              rintro e w5 ⟨rfl, rfl⟩
              exact hK _ _ ⟨hk.new rfl, ⟨hg.1, fun h => by rw [upd_ne (by decide)] at h; simpa using hg.2 h⟩⟩
            · intro u done' W' hd hanc hclo hR
              have hk := hR.1
              have e3 := hk.get 3 rfl (hanc 3 (mem_of (by kernel_rfl)))
              have e8 := hk.get 8 rfl (hanc 8 (mem_of (by kernel_rfl)))
              have e13 := hk.get 13 rfl (hanc 13 (mem_of (by kernel_rfl)))
              with_reducible refine op_meetIn 3 false e3 ?_ ?_ ?_ ?_
              · decide
              · rfl
              · rfl
              refine op_in (ro := some L) ?_ ?_
              · intro c h; cases h
              intro K hK
              have hg := hR.2
              simp only [fillL, List.setIfInBounds_toArray, List.set_cons_zero, List.set_cons_succ, Nat.zero_add, Nat.reduceAdd, e3, e8, e13] at hK ⊢
              go_simp
              exact hK _ _ ⟨hk.skip rfl, ⟨hg.1.allocR _, fun _ => ⟨_, by simp, cell_new rfl, cell_new rfl⟩⟩⟩
            · intro u done' W' hd hanc hclo hR
              have hk := hR.1
              have e3 := hk.get 3 rfl (hanc 3 (mem_of (by kernel_rfl)))
              with_reducible refine op_meetIn 3 false e3 ?_ ?_ ?_ ?_
              · decide
              · rfl
              · rfl
              refine op_in (ro := some L) ?_ ?_
              · intro c h; cases h
              intro K hK
              have hg := hR.2
              obtain ⟨gg, e14, t0, t1⟩ := hg.2 (hanc 14 (mem_of (by kernel_rfl)))
              have HCON := Lib.hid (or_any ⟨gg, 0, none⟩ 2 (cmpI (r.steps + 1) p.steps) (cmpI (r.time + dur q.f.times s x) p.time) W' t0 t1)
              simp only [fillL, List.setIfInBounds_toArray, List.set_cons_zero, List.set_cons_succ, Nat.zero_add, Nat.reduceAdd, e3, e14] at hK ⊢
              go_simp
              refine HCON.out.mono ?_
              rintro e w5 ⟨rfl, rfl⟩
              exact hK _ _ ⟨hk.new rfl, ⟨hg.1, fun _ => ⟨gg, by simp, t0, t1⟩⟩⟩
            · intro u done' W' hd hanc hclo hR
              have hk := hR.1
              have e3 := hk.get 3 rfl (hanc 3 (mem_of (by kernel_rfl)))
              have e15 := hk.get 15 rfl (hanc 15 (mem_of (by kernel_rfl)))
              with_reducible refine op_meetIn 3 false e3 ?_ ?_ ?_ ?_
              · decide
              · rfl
              · rfl
              refine op_in (ro := some L) ?_ ?_
              · intro c h; cases h
              intro K hK
              have hg := hR.2
              simp only [fillL, List.setIfInBounds_toArray, List.set_cons_zero, List.set_cons_succ, Nat.zero_add, Nat.reduceAdd, e3, e15] at hK ⊢
              go_simp
              exact hK _ _ ⟨hk.new rfl, ⟨hg.1, fun h => by rw [upd_ne (by decide)] at h; simpa using hg.2 h⟩⟩
            · rintro u done' W' hd hanc hclo ⟨hk, hg⟩
              have e3 := hk.get 3 rfl (hanc 3 (mem_of (by kernel_rfl)))
              have e16 := hk.get 16 rfl (hanc 16 (mem_of (by kernel_rfl)))
              refine op_plain (ro := some L) rfl (fun c h => by cases h) fun K hK => ?_
              simp only [fillL, List.setIfInBounds_toArray, List.set_cons_zero, List.set_cons_succ, Nat.zero_add, Nat.reduceAdd, e3, e16] at hK ⊢
              go_simp
              exact hK _ _ ⟨hk.new rfl, ⟨hg.1, fun h => by rw [upd_ne (by decide)] at h; simpa using hg.2 h⟩⟩
            · rintro u W' ⟨done', hdn, hk, hg⟩
              have e0 := hk.get 0 rfl (hdn 0 (by decide))
              have e1 := hk.get 1 rfl (hdn 1 (by decide))
              have e2 := hk.get 2 rfl (hdn 2 (by decide))
              have e3 := hk.get 3 rfl (hdn 3 (by decide))
              have e17 := hk.get 17 rfl (hdn 17 (by decide))
              simp only [fillL, List.setIfInBounds_toArray, List.set_cons_zero, List.set_cons_succ, Nat.zero_add, Nat.reduceAdd, e0, e1, e2, e3, e17]
              cases hless : decide (orI (cmpI (r.steps + 1) p.steps) (cmpI (r.time + dur q.f.times s x) p.time) < 0) with
              | true =>
                have hX5 := hX4.gr hg.1
                have hl5 := hl8.gr hg.1
                have hB5 := hB4.gr hn hg.1
                have hx5 := hx4.gr hg.1
                have hO05 := hO04.thenGr hg.1
                have HFV : Hid (foldV q s (pre ++ [x]) = r.via q.f.times s x) := Lib.hid (by rw [hfo.out, if_pos his, if_pos (by rw [hpi]; exact hless)])
                clear hX4 hl8 hB4 hx4 hO04 hfo x0 x1 y0 y1 y3
                have x0 := hX5.at 0 rfl
                have x1 := hX5.at 1 rfl
                have x2 := hX5.at 2 rfl
                have x3 := hX5.at 3 rfl
                have xf := hX5.fr 2 rfl
                have y0 := hl5.at 0 rfl
                have y1 := hl5.at 1 rfl
                have y2 := hl5.at 2 rfl
                have y3 := hl5.at 3 rfl
                have z0 := hl5.fr 0 rfl
                have z1 := hl5.fr 1 rfl
                have z2 := hl5.fr 2 rfl
                have z3 := hl5.fr 3 rfl
                have hnb : b8 < bx := by
                  have l1 := hn.i4
                  obtain ⟨_, e, l2, _⟩ := hx2.at (j := 0) (by have := H.ok.n1; have := H.nt; omega)
                  cases e
                  have := HBX.out
                  omega
                have hne : bx ≠ b8 := by omega
                have hne2 : b8 ≠ bx := by omega
                gi_wp2_with fail
                have hG6 : Gr w2 (W'.setCell ⟨bx, 2, none⟩ (.slice (some ad) q.n cx)) := (hg4.trans hg.1).setCell (by rw [HBX.out]; exact Nat.le_refl _) _
                exact best_set hn (hB2.gr hn hG6) (hO02.thenGr hG6) (hx2.gr hG6) (hx23.gr hG6) hax H HFV.out (hl5.only (S := fun b => b = bx) (Only.setCell (S := fun b => b = bx) (Only.refl _ _) (p := ⟨bx, 2, none⟩) (.inl rfl) _) (fun p hp => by rw [restL_blocks p hp]; exact hne2))
              | false =>
                gi_wp2_with fail
                have hX5 := hX4.gr hg.1
                have hl5 := hl8.gr hg.1
                have hB5 := hB4.gr hn hg.1
                have hx5 := hx4.gr hg.1
                have hO05 := hO04.thenGr hg.1
                exact ⟨hO05, hB5.same (by rw [hfo.out, if_pos his, HPP.out, if_neg (fun h => by rw [hpi] at h; have h2 : decide (orI (cmpI (r.steps + 1) p.steps) (cmpI (r.time + dur q.f.times s x) p.time) < 0) = true := h; rw [hless] at h2; cases h2)])⟩
end Go.Proofs.Ytlilojpnhmfnaaa
