/- Several texts of this claim in one file. (1) Regions that draw their order and store into small variables. Nothing of the program is proved here. (2) What noise can do to a node that is parked, in plain words. Nothing of the program is proved here. (3) Contracts: cmp.Compare, cmp.Or. (4) Contracts: refilled, start, and. (5) Contract: wake. (6) Contract: better. -/
import Derived.Test.YtoalamakhjbedaaBd6
import Derived.Test.YtoalamakhjbedaaBd2
import Derived.Outline
import Derived.Test.YtoalamakhjbedaaBd3
namespace Go.Proofs.Ytoalamakhjbedaa
section
set_option linter.unusedVariables false
open Go.RowKit
namespace X
variable {P : Program} {W W' : World} {o : Oper} {ρ : Operand → Value}
theorem lk {t : TypeId} {x y : Operand} {b : Bool} {p q v : Value} (ho : o.op = .lookup t x y b) (hx : ρ x = p) (hy : ρ y = q) (hr : (Instr.lookup t p q b).run P W = .ok v W) : (execOp ρ o).run P W = .ok (.value v) W := by
  unfold execOp; rw [ho]; simp only [hx, hy]; exact run_v hr
theorem mu {t : TypeId} {x y z : Operand} {p q v : Value} (ho : o.op = .mapUpdate t x y z) (hx : ρ x = p) (hy : ρ y = q) (hz : ρ z = v) (hr : (Instr.mapUpdate t p q v).run P W = .ok () W') : (execOp ρ o).run P W = .ok .skip W' := by
  unfold execOp; rw [ho]; simp only [hx, hy, hz]; exact run_u hr
theorem mm {t : TypeId} (ho : o.op = .makeMap t none) : (execOp ρ o).run P W = .ok (.value (.map (some W.heap.size))) (W.alloc (.map #[] 0)) := by
  unfold execOp; rw [ho]; exact run_v (run_makeMap t W)
end X
/-- a lookup in some worlds that hold the same map -/
theorem memo_look {W : World} {m t e : Nat} {gf : Int → Int → Value} {z : Value} {a x : Int} (ht : Try.prog.underlying t = some (.map 72 e)) (hz : ∀ W, (zeroValue e).run Try.prog W = .ok z W) (h : Memo W m (fun t x v => v = gf t x)) (hs : SmallS a x) :
    ∃ b : Bool, ∀ W', W'.heap[m]? = W.heap[m]? → (Instr.lookup t (.map (some m)) (keyS a x) true).run Try.prog W' = .ok (.tuple #[if b then gf a x else z, .bool b]) W' := by
  obtain ⟨es, clk, hb, hall⟩ := h
  obtain ⟨l, hl⟩ := keyOf_keyS hs
  have K := Try.klaw72
  have hk : ∀ e ∈ es.toList, ∃ l, keyOf Try.prog 72 e.key = some l := fun e he => by
    obtain ⟨t', x', h1, h2, _⟩ := hall e he
    rw [h1]; exact keyOf_keyS h2
  have hv : ∀ e ∈ es.toList, e.key = keyS a x → e.val = gf a x := fun e he hek => by
    obtain ⟨t', x', k1, k2, k3⟩ := hall e he
    obtain ⟨rfl, rfl⟩ := keyS_inj (k1.symm.trans hek)
    exact k3
  rcases K.find W hl es.toList hk with ⟨h1, h2⟩ | ⟨j, e0, h1, h2, h3⟩
  · refine ⟨false, fun W' hW => ?_⟩
    have hb' := hW.trans hb
    rcases K.find W' hl es.toList hk with ⟨g1, g2⟩ | ⟨j, e0, g1, g2, g3⟩
    · simp [Instr.lookup, run_underlying ht, MapKept.run_getObj_map hb', K.check W' _ hl, g1, hz, Result.andThen]
    · exact absurd g3 (h2 e0 (List.mem_of_getElem? g2))
  · have hm0 : e0 ∈ es.toList := List.mem_of_getElem? h2
    refine ⟨true, fun W' hW => ?_⟩
    have hb' := hW.trans hb
    rcases K.find W' hl es.toList hk with ⟨g1, g2⟩ | ⟨j', e1, g1, g2, g3⟩
    · exact absurd h3 (g2 e0 hm0)
    · have := hv e1 (List.mem_of_getElem? g2) g3
      simp [Instr.lookup, run_underlying ht, MapKept.run_getObj_map hb', K.check W' _ hl, g1, this, Result.andThen]
theorem Try.zero69 (W : World) : (zeroValue 69).run Try.prog W = .ok (.agg #[.int .i64 0, .int .i64 0]) W := by kernel_rfl
theorem Try.bd72 (a b : Int) (W : World) : (Instr.build 72 #[(0, .int .i64 a), (1, .int .i64 b)]).run Try.prog W = .ok (.agg #[.int .i64 a, .int .i64 b]) W := by kernel_rfl
theorem Try.bd69 (a b : Int) (W : World) : (Instr.build 69 #[(0, .int .i64 a), (1, .int .i64 b)]).run Try.prog W = .ok (.agg #[.int .i64 a, .int .i64 b]) W := by kernel_rfl
theorem Try.bd69a (a : Int) (W : World) : (Instr.build 69 #[(0, .int .i64 a)]).run Try.prog W = .ok (.agg #[.int .i64 a, .int .i64 0]) W := by kernel_rfl
theorem Try.bd69b (W : World) : (Instr.build 69 #[]).run Try.prog W = .ok (.agg #[.int .i64 0, .int .i64 0]) W := by kernel_rfl
theorem Try.bd110 (a b c d e f g : Int) (m : Nat) (W : World) : (Instr.build 110 #[(0, .agg #[.int .i64 a, .int .i64 b, .int .i64 c, .int .i64 d, .int .i64 e]), (1, .int .i64 f), (2, .int .i64 g), (3, .map (some m))]).run Try.prog W = .ok (.agg #[.int .i64 a, .int .i64 b, .int .i64 c, .int .i64 d, .int .i64 e, .int .i64 f, .int .i64 g, .map (some m)]) W := by kernel_rfl
theorem Y.bd0 {ρ : Operand → Value} : ([] : List (Nat × Operand)).map (fun p : Nat × Operand => (p.1, ρ p.2)) = [] := rfl
theorem Y.bd1 {ρ : Operand → Value} {x : Operand} {v : Value} (h : ρ x = v) : [(0, x)].map (fun p : Nat × Operand => (p.1, ρ p.2)) = [(0, v)] := by simp [h]
theorem Y.bd2 {ρ : Operand → Value} {x y : Operand} {v z : Value} (h : ρ x = v) (k : ρ y = z) : [(0, x), (1, y)].map (fun p : Nat × Operand => (p.1, ρ p.2)) = [(0, v), (1, z)] := by simp [h, k]
theorem Y.bd4 {ρ : Operand → Value} {x y a b : Operand} {v z c d : Value} (h : ρ x = v) (k : ρ y = z) (ha : ρ a = c) (hb : ρ b = d) : [(0, x), (1, y), (2, a), (3, b)].map (fun p : Nat × Operand => (p.1, ρ p.2)) = [(0, v), (1, z), (2, c), (3, d)] := by simp [h, k, ha, hb]
/-- a new slice of two numbers -/
def Y.MP.two (x y : Int) : Y.MP := ⟨fun v W => ∃ b, v = .slice (some ⟨b, 0, none⟩) 2 2 ∧ W.cell? ⟨b, 0, none⟩ = some (.int .i64 x) ∧ W.cell? ⟨b, 1, none⟩ = some (.int .i64 y),
  fun _ _ _ ⟨b, h1, h2, h3⟩ g => ⟨b, h1, (g.cell (lt_cell h2)).trans h2, (g.cell (lt_cell h3)).trans h3⟩⟩
/-- a variable's cells -/
def VL (l : List Value) : Nat → Value := fun k => l.getD k undef
theorem VL_set0 (x y z : Value) : ∀ k, k < 2 → (fun j => if j = 0 then z else VL [x, y] j) k = VL [z, y] k := by
  intro k hk
  match k, hk with
  | 0, _ | 1, _ => rfl
theorem ownP_box {W : World} {b : Nat} {vs : List Value} {t : TypeId} (h : W.heap[b]? = some (.cells vs.toArray t)) : OwnP W b vs.length (VL vs) :=
  ⟨_, _, h, by simp, fun k hk => by simp [VL, hk]⟩
theorem ownP_2 {W : World} {b : Nat} {x y : Value} {t : TypeId} (h : W.heap[b]? = some (.cells #[x, y] t)) : OwnP W b 2 (VL [x, y]) := ownP_box (vs := [x, y]) h
/-- a struct of two that is written -/
theorem OwnP.st2 {P : Program} {W : World} {b : Nat} {val : Nat → Value} {t : TypeId} {x y : Value} (h : OwnP W b 2 val) (hS : ∀ W, (sizeOf t).run P W = .ok 2 W) (h1 : x.oneCell' = true) (h2 : y.oneCell' = true) :
    ∃ W', (Instr.storeAt t (.pointer (some ⟨b, 0, none⟩)) (.agg #[x, y])).run P W = .ok () W' ∧ OwnP W' b 2 (VL [x, y]) ∧ Only (fun z => z = b) W W' := by
  have hs1 := run_store P W ⟨b, 0, none⟩ x .plain h1
  rw [h.cell (k := 0) (by decide), h.fz] at hs1
  simp only [Bool.false_eq_true, if_false] at hs1
  have hA := h.set (k := 0) x
  have hs2 := run_store P (W.setCell ⟨b, 0, none⟩ x) ⟨b, 1, none⟩ y .plain h2
  rw [hA.cell (k := 1) (by decide), hA.fz] at hs2
  simp only [Bool.false_eq_true, if_false] at hs2
  have hB := hA.set (k := 1) y
  refine ⟨(W.setCell ⟨b, 0, none⟩ x).setCell ⟨b, 1, none⟩ y, ?_, hB.congr (fun k hk => ?_), (Y.set_only _ _ _ _).trans (Y.set_only _ _ _ _)⟩
  · have e0 : (⟨b, 0, none⟩ : Addr).add 0 = ⟨b, 0, none⟩ := rfl
    have e1 : (⟨b, 0, none⟩ : Addr).add 1 = ⟨b, 1, none⟩ := rfl
    simp [Instr.storeAt, storeVar, Instr.sureAddr, hS, Value.cells, storeCells, e0, e1, hs1, hs2, go_sem]
  · match k, hk with
    | 0, _ | 1, _ => rfl
/-- two variables of two cells that a region writes -/
structure RT2 (w : World) (b1 s1 b2 s2 : Nat) (o1 n1 o2 n2 : Nat → Value) (done : Nat → Bool) (u : Nat → Value) (W : World) : Prop where
  o : Only (fun b => b = b1 ∨ b = b2) w W
  p1 : done s1 = false → OwnP W b1 2 o1
  q1 : done s1 = true → OwnP W b1 2 n1
  p2 : done s2 = false → OwnP W b2 2 o2
  q2 : done s2 = true → OwnP W b2 2 n2
section
variable {w W W' : World} {b1 s1 b2 s2 i : Nat} {o1 n1 o2 n2 : Nat → Value} {done : Nat → Bool} {u : Nat → Value} {v : Value}
theorem RT2.start {u : Nat → Value} (g : Gr w W) (h1 : OwnP w b1 2 o1) (h2 : OwnP w b2 2 o2) : RT2 w b1 s1 b2 s2 o1 n1 o2 n2 (fun _ => false) u W :=
  ⟨g.only _, fun _ => h1.gr g, fun h => by simp at h, fun _ => h2.gr g, fun h => by simp at h⟩
theorem RT2.grow (h : RT2 w b1 s1 b2 s2 o1 n1 o2 n2 done u W) (hi : (i == s1 || i == s2) = false) (g : Gr W W') : RT2 w b1 s1 b2 s2 o1 n1 o2 n2 (upd done i) (fun j => if j = i then v else u j) W' := by
  simp only [Bool.or_eq_false_iff, beq_eq_false_iff_ne] at hi
  have e1 := upd_ne (done := done) (Ne.symm hi.1)
  have e2 := upd_ne (done := done) (Ne.symm hi.2)
  exact ⟨h.o.thenGr g, fun k => (h.p1 (e1 ▸ k)).gr g, fun k => (h.q1 (e1 ▸ k)).gr g, fun k => (h.p2 (e2 ▸ k)).gr g, fun k => (h.q2 (e2 ▸ k)).gr g⟩
theorem RT2.quiet (h : RT2 w b1 s1 b2 s2 o1 n1 o2 n2 done u W) (hi : (i == s1 || i == s2) = false) : RT2 w b1 s1 b2 s2 o1 n1 o2 n2 (upd done i) (fun j => if j = i then v else u j) W := h.grow hi (Gr.refl _)
theorem RT2.st1 (h : RT2 w b1 s1 b2 s2 o1 n1 o2 n2 done u W) (hs : (s1 == s2) = false) (hb : ¬ b2 = b1) (hn : OwnP W' b1 2 n1) (g : Only (fun b => b = b1) W W') : RT2 w b1 s1 b2 s2 o1 n1 o2 n2 (upd done s1) (fun j => if j = s1 then v else u j) W' := by
  have e2 := upd_ne (done := done) (i := s1) (j := s2) (by intro e; simp [e] at hs)
  exact ⟨h.o.trans (g.mono' (fun i e => .inl e)), fun k => (by rw [upd_self] at k; cases k), fun _ => hn, fun k => (h.p2 (e2 ▸ k)).only g hb, fun k => (h.q2 (e2 ▸ k)).only g hb⟩
theorem RT2.st2 (h : RT2 w b1 s1 b2 s2 o1 n1 o2 n2 done u W) (hs : (s1 == s2) = false) (hb : ¬ b1 = b2) (hn : OwnP W' b2 2 n2) (g : Only (fun b => b = b2) W W') : RT2 w b1 s1 b2 s2 o1 n1 o2 n2 (upd done s2) (fun j => if j = s2 then v else u j) W' := by
  have e2 := upd_ne (done := done) (i := s2) (j := s1) (by intro e; simp [e] at hs)
  exact ⟨h.o.trans (g.mono' (fun i e => .inr e)), fun k => (h.p1 (e2 ▸ k)).only g hb, fun k => (h.q1 (e2 ▸ k)).only g hb, fun k => (by rw [upd_self] at k; cases k), fun _ => hn⟩
end
/-- a variable of two cells that a region makes (a) and writes (s), while blocks S turn and M is kept -/
structure RTk (w : World) (S : Nat → Prop) (M : World → Prop) (a s : Nat) (old new : Nat → Value) (done : Nat → Bool) (u : Nat → Value) (W : World) : Prop where
  o : Only S w W
  m : M W
  q : done a = true → ∃ b, u a = .pointer (some ⟨b, 0, none⟩) ∧ w.heap.size ≤ b ∧ (done s = false → OwnP W b 2 old) ∧ (done s = true → OwnP W b 2 new)
section
variable {w W W' : World} {S : Nat → Prop} {M : World → Prop} {a s i : Nat} {old new : Nat → Value} {done : Nat → Bool} {u : Nat → Value} {v : Value}
theorem RTk.start {u : Nat → Value} (g : Gr w W) (h : M W) : RTk w S M a s old new (fun _ => false) u W := ⟨g.only _, h, fun h => by simp at h⟩
theorem RTk.call (h : RTk w S M a s old new done u W) (hi : (i == a || i == s) = false) (hS : ∀ b, S b → b < w.heap.size) (g : Only S W W') (hm : M W') : RTk w S M a s old new (upd done i) (fun j => if j = i then v else u j) W' := by
  simp only [Bool.or_eq_false_iff, beq_eq_false_iff_ne] at hi
  have e1 := upd_ne (done := done) (Ne.symm hi.1)
  have e2 := upd_ne (done := done) (Ne.symm hi.2)
  refine ⟨h.o.trans g, hm, fun k => ?_⟩
  obtain ⟨b, h1, h2, h3, h4⟩ := h.q (e1 ▸ k)
  have hb : ¬ S b := fun e => by have := hS b e; omega
  exact ⟨b, by simpa [Ne.symm hi.1] using h1, h2, fun k => (h3 (e2 ▸ k)).only g hb, fun k => (h4 (e2 ▸ k)).only g hb⟩
theorem RTk.quiet (h : RTk w S M a s old new done u W) (hi : (i == a || i == s) = false) : RTk w S M a s old new (upd done i) (fun j => if j = i then v else u j) W := by
  simp only [Bool.or_eq_false_iff, beq_eq_false_iff_ne] at hi
  have e1 := upd_ne (done := done) (Ne.symm hi.1)
  have e2 := upd_ne (done := done) (Ne.symm hi.2)
  refine ⟨h.o, h.m, fun k => ?_⟩
  obtain ⟨b, h1, h2, h3, h4⟩ := h.q (e1 ▸ k)
  exact ⟨b, by simpa [Ne.symm hi.1] using h1, h2, fun k => h3 (e2 ▸ k), fun k => h4 (e2 ▸ k)⟩
theorem RTk.alloc (h : RTk w S M a s old new done u W) (has : (a == s) = false) (hs : done s = false) {b : Nat} (hb : w.heap.size ≤ b) (g : Gr W W') (hm : M W') (hn : OwnP W' b 2 old) : RTk w S M a s old new (upd done a) (fun j => if j = a then .pointer (some ⟨b, 0, none⟩) else u j) W' := by
  have e2 := upd_ne (done := done) (i := a) (j := s) (by intro e; simp [e] at has)
  exact ⟨h.o.thenGr g, hm, fun _ => ⟨b, by simp, hb, fun _ => hn, fun k => (by rw [e2, hs] at k; cases k)⟩⟩
theorem RTk.st (h : RTk w S M a s old new done u W) (has : (a == s) = false) {b : Nat} (hu : u a = .pointer (some ⟨b, 0, none⟩)) (hb : w.heap.size ≤ b) (hm : M W') (g : Only (fun x => x = b) W W') (hn : OwnP W' b 2 new) : RTk w S M a s old new (upd done s) (fun j => if j = s then v else u j) W' := by
  have hne : ¬ a = s := by intro e; simp [e] at has
  exact ⟨h.o.step g (.inr hb), hm, fun _ => ⟨b, by simpa [hne] using hu, hb, fun k => (by rw [upd_self] at k; cases k), fun _ => hn⟩⟩
end
/-- the cells of a node that is parked -/
def PqC (bq : Nat) (gq aw za bu re hold T : Int) (bm : Nat) : List (Addr × Value) :=
  [(⟨bq, 0, none⟩, .int .i64 gq), (⟨bq, 1, none⟩, .int .i64 aw), (⟨bq, 2, none⟩, .int .i64 za), (⟨bq, 3, none⟩, .int .i64 bu), (⟨bq, 4, none⟩, .int .i64 re), (⟨bq, 5, none⟩, .int .i64 hold), (⟨bq, 6, none⟩, .int .i64 T), (⟨bq, 7, none⟩, .map (some bm))]
def Pq (W : World) (bq : Nat) (gq aw za bu re hold T : Int) (bm : Nat) : Prop := RCells W (PqC bq gq aw za bu re hold T bm)
section
variable {W W' : World} {bq : Nat} {gq aw za bu re hold T : Int} {bm : Nat}
theorem Pq.lt (h : Pq W bq gq aw za bu re hold T bm) : bq < W.heap.size := lt_cell (RCells.at h 0 rfl)
theorem Pq.gr (h : Pq W bq gq aw za bu re hold T bm) (g : Gr W W') : Pq W' bq gq aw za bu re hold T bm := RCells.gr h g
theorem Pq.only {S : Nat → Prop} (h : Pq W bq gq aw za bu re hold T bm) (g : Only S W W') (hn : ¬ S bq) : Pq W' bq gq aw za bu re hold T bm := RCells.only h g (fun p hp e => hn (by
  have : p.1.block = bq := by simp only [PqC, List.mem_cons, List.not_mem_nil, or_false] at hp; rcases hp with rfl | rfl | rfl | rfl | rfl | rfl | rfl | rfl <;> rfl
  rw [← this]; exact e))
end
section
variable {P : Program} {A : Act} {W : World} {n : Nat} {L : List (Nat × Value)} {D : List Deferred} {fn : Func} {s s2 s3 b b2 : Nat} {t t2 : TypeId} {x y x2 y2 v3 : Value}
theorem Y.rc1 (F : Fr A n L D) (hr : fn.results = #[.cell s t]) (hA : (isAgg t).run P W = .ok true W) (hS : (sizeOf t).run P W = .ok 2 W) (hp : lookS L s = some (.pointer (some ⟨b, 0, none⟩))) (h : OwnP W b 2 (VL [x, y])) : (results fn A.tmps).run P W = .ok (.agg #[x, y]) W := by
  have e := F.look hp
  have hl : W.cell? ⟨b, 0, none⟩ = some x := h.cell (k := 0) (by decide)
  have hl' : W.cell? ⟨b, 1, none⟩ = some y := h.cell (k := 1) (by decide)
  simp [results, hr, e, asAddr, hl, hl', hA, hS, go_sem]
theorem Y.rcc2 (F : Fr A n L D) (hr : fn.results = #[.cell s t, .cell s2 t2]) (hA : (isAgg t).run P W = .ok true W) (hS : (sizeOf t).run P W = .ok 2 W) (hA2 : (isAgg t2).run P W = .ok true W) (hS2 : (sizeOf t2).run P W = .ok 2 W) (hp : lookS L s = some (.pointer (some ⟨b, 0, none⟩))) (hp2 : lookS L s2 = some (.pointer (some ⟨b2, 0, none⟩))) (h : OwnP W b 2 (VL [x, y])) (h2 : OwnP W b2 2 (VL [x2, y2])) :
    (results fn A.tmps).run P W = .ok (.tuple #[.agg #[x, y], .agg #[x2, y2]]) W := by
  have e := F.look hp
  have e2 := F.look hp2
  have hl : W.cell? ⟨b, 0, none⟩ = some x := h.cell (k := 0) (by decide)
  have hl' : W.cell? ⟨b, 1, none⟩ = some y := h.cell (k := 1) (by decide)
  have hl2 : W.cell? ⟨b2, 0, none⟩ = some x2 := h2.cell (k := 0) (by decide)
  have hl2' : W.cell? ⟨b2, 1, none⟩ = some y2 := h2.cell (k := 1) (by decide)
  simp [results, hr, e, e2, asAddr, hl, hl', hl2, hl2', hA, hS, hA2, hS2, go_sem]
theorem Y.rcc3 (F : Fr A n L D) (hr : fn.results = #[.cell s t, .cell s2 t2, .tmp s3]) (hA : (isAgg t).run P W = .ok true W) (hS : (sizeOf t).run P W = .ok 2 W) (hA2 : (isAgg t2).run P W = .ok true W) (hS2 : (sizeOf t2).run P W = .ok 2 W) (hp : lookS L s = some (.pointer (some ⟨b, 0, none⟩))) (hp2 : lookS L s2 = some (.pointer (some ⟨b2, 0, none⟩))) (h3 : lookS L s3 = some v3) (h : OwnP W b 2 (VL [x, y])) (h2 : OwnP W b2 2 (VL [x2, y2])) :
    (results fn A.tmps).run P W = .ok (.tuple #[.agg #[x, y], .agg #[x2, y2], v3]) W := by
  have e := F.look hp
  have e2 := F.look hp2
  have e3 := F.look h3
  have hl : W.cell? ⟨b, 0, none⟩ = some x := h.cell (k := 0) (by decide)
  have hl' : W.cell? ⟨b, 1, none⟩ = some y := h.cell (k := 1) (by decide)
  have hl2 : W.cell? ⟨b2, 0, none⟩ = some x2 := h2.cell (k := 0) (by decide)
  have hl2' : W.cell? ⟨b2, 1, none⟩ = some y2 := h2.cell (k := 1) (by decide)
  simp [results, hr, e, e2, e3, asAddr, hl, hl', hl2, hl2', hA, hS, hA2, hS2, go_sem]
end
end
section
set_option linter.unusedVariables false
open Go.RowKit
/-- -1, 0, 1 -/
def cmpI (x y : Int) : Int := if x < y then -1 else if y < x then 1 else 0
/-- the first of two that is not 0 -/
def orI (x y : Int) : Int := if x = 0 then y else x
/-- the numbers of a node: awake, asleep, budget, refill, hold, ticks -/
structure Nd where
  aw : Int
  za : Int
  bu : Int
  re : Int
  hold : Int
  T : Int
structure NdOk (p : Nd) : Prop where
  a0 : 0 ≤ p.za
  a1 : p.za ≤ p.aw
  a2 : p.aw ≤ 10000
  b0 : 0 ≤ p.bu
  b1 : p.bu ≤ 20
  r0 : 1 ≤ p.re
  r1 : p.re ≤ 1000
  h0 : 1 ≤ p.hold
  h1 : p.hold ≤ 103
  t0 : 0 ≤ p.T
  t1 : p.T ≤ 1001
def refV (p : Nd) (t x : Int) : Int := if 0 < t ∧ t % p.re = 0 then min (x + 1) p.bu else x
/-- tokens and energy, k ticks behind the tick in which noise wakes it -/
def wkV (p : Nd) (t a : Int) : Nat → Int × Int
  | 0 => (a - 1, p.aw)
  | k + 1 => (refV p (t + 1 + k) (wkV p t a k).1, (wkV p t a k).2 + (if t + 1 + k < t + p.hold then p.aw else p.za))
def wkN (p : Nd) (t : Int) : Nat := (min p.hold (p.T - 1 - t)).toNat
def add2 (a b : Int × Int) : Int × Int := (a.1 + b.1, a.2 + b.2)
def betB (x y : Int × Int) : Bool := decide (0 < orI (cmpI x.1 y.1) (cmpI y.2 x.2))
def pick2 (x y : Int × Int) : Int × Int := if betB x y then x else y
def bestF (p : Nd) : Nat → Int → Int → Int × Int
  | 0, _, _ => (0, 0)
  | f + 1, t, x =>
    if p.T ≤ t then (0, 0)
    else if refV p t x = 0 then add2 (bestF p f (t + 1) (refV p t x)) (p.za, 0)
    else pick2 (add2 (bestF p f (t + 1 + wkN p t) (wkV p t (refV p t x) (wkN p t)).1) ((wkV p t (refV p t x) (wkN p t)).2, 1)) (add2 (bestF p f (t + 1) (refV p t x)) (p.za, 0))
def bestV (p : Nd) (t x : Int) : Int × Int := bestF p (p.T - t).toNat t x
theorem bestF_eq (p : Nd) : ∀ (f f' : Nat) (t x : Int), (p.T - t).toNat ≤ f → (p.T - t).toNat ≤ f' → bestF p f t x = bestF p f' t x := by
  intro f
  induction f with
  | zero =>
    intro f' t x h h'
    cases f' with
    | zero => rfl
    | succ f' =>
      unfold bestF
      rw [if_pos (by omega)]
  | succ f ih =>
    intro f' t x h h'
    cases f' with
    | zero =>
      unfold bestF
      rw [if_pos (by omega)]
    | succ f' =>
      unfold bestF
      by_cases ht : p.T ≤ t
      · rw [if_pos ht, if_pos ht]
      · rw [if_neg ht, if_neg ht, ih f' (t + 1) _ (by omega) (by omega), ih f' (t + 1 + wkN p t) _ (by omega) (by omega)]
theorem bestV_done {p : Nd} {t : Int} (x : Int) (h : p.T ≤ t) : bestV p t x = (0, 0) := by
  unfold bestV
  rw [show (p.T - t).toNat = 0 by omega]
  rfl
theorem bestV_stay {p : Nd} {t x : Int} (h : t < p.T) (ha : refV p t x = 0) : bestV p t x = add2 (bestV p (t + 1) (refV p t x)) (p.za, 0) := by
  obtain ⟨f, hf⟩ : ∃ f, (p.T - t).toNat = f + 1 := ⟨(p.T - t).toNat - 1, by omega⟩
  unfold bestV
  rw [hf]
  conv => lhs; unfold bestF
  rw [if_neg (by omega), if_pos ha, bestF_eq p f (p.T - (t + 1)).toNat (t + 1) _ (by omega) (by omega)]
theorem bestV_wake {p : Nd} {t x : Int} (h : t < p.T) (ha : ¬ refV p t x = 0) : bestV p t x = pick2 (add2 (bestV p (t + 1 + wkN p t) (wkV p t (refV p t x) (wkN p t)).1) ((wkV p t (refV p t x) (wkN p t)).2, 1)) (add2 (bestV p (t + 1) (refV p t x)) (p.za, 0)) := by
  obtain ⟨f, hf⟩ : ∃ f, (p.T - t).toNat = f + 1 := ⟨(p.T - t).toNat - 1, by omega⟩
  unfold bestV
  rw [hf]
  conv => lhs; unfold bestF
  rw [if_neg (by omega), if_neg ha, bestF_eq p f (p.T - (t + 1)).toNat (t + 1) _ (by omega) (by omega), bestF_eq p f (p.T - (t + 1 + wkN p t)).toNat (t + 1 + wkN p t) _ (by omega) (by omega)]
theorem refV_bd {p : Nd} (h : NdOk p) {t x : Int} (h0 : 0 ≤ x) (h1 : x ≤ p.bu) : 0 ≤ refV p t x ∧ refV p t x ≤ p.bu := by
  have := h.b0
  unfold refV
  split
  · simp only [Int.min_def]; split <;> omega
  · omega
theorem wkV_bd {p : Nd} (h : NdOk p) {t a : Int} (h0 : 1 ≤ a) (h1 : a ≤ p.bu) : ∀ k, (0 ≤ (wkV p t a k).1 ∧ (wkV p t a k).1 ≤ p.bu) ∧ 0 ≤ (wkV p t a k).2 ∧ (wkV p t a k).2 ≤ (k + 1) * 10000 := by
  have := h.a0
  have := h.a1
  have := h.a2
  intro k
  induction k with
  | zero => simp only [wkV]; omega
  | succ k ih =>
    simp only [wkV]
    have hr := refV_bd h (t := t + 1 + k) ih.1.1 ih.1.2
    refine ⟨hr, ?_⟩
    split <;> omega
theorem refV_nn {p : Nd} (h : NdOk p) {t x : Int} (h0 : 0 ≤ x) (h1 : x ≤ 100000) : 0 ≤ refV p t x ∧ refV p t x ≤ 100000 := by
  have := h.b0
  have := h.b1
  unfold refV
  split
  · simp only [Int.min_def]; split <;> omega
  · omega
theorem wkV_bd2 {p : Nd} (h : NdOk p) {t a : Int} (h0 : 1 ≤ a) (h1 : a ≤ 100000) : ∀ k, (0 ≤ (wkV p t a k).1 ∧ (wkV p t a k).1 ≤ 100000) ∧ 0 ≤ (wkV p t a k).2 ∧ (wkV p t a k).2 ≤ (k + 1) * 10000 := by
  have := h.a0
  have := h.a1
  have := h.a2
  intro k
  induction k with
  | zero => simp only [wkV]; omega
  | succ k ih =>
    simp only [wkV]
    have hr := refV_nn h (t := t + 1 + k) ih.1.1 ih.1.2
    refine ⟨hr, ?_⟩
    split <;> omega
theorem wkN_eq {p : Nd} {t : Int} {q : Nat} (h0 : 1 ≤ p.hold) (h : (q : Int) ≤ wkN p t) (k : ¬ (t + 1 + q ≤ t + p.hold) ∨ ¬ (t + 1 + q < p.T)) : wkN p t = q := by
  unfold wkN at *
  simp only [Int.min_def] at *
  split at h <;> split <;> omega
theorem wkN_lt {p : Nd} {t : Int} {q : Nat} (h : t + 1 + q ≤ t + p.hold) (k : t + 1 + q < p.T) : ((q + 1 : Nat) : Int) ≤ wkN p t := by
  unfold wkN
  simp only [Int.min_def]
  split <;> omega
theorem wkN_hold {p : Nd} (h0 : 1 ≤ p.hold) (t : Int) : (wkN p t : Int) ≤ p.hold := by
  unfold wkN
  simp only [Int.min_def]
  split <;> omega
theorem wkN_bd {p : Nd} (h : NdOk p) {t : Int} (h0 : 0 ≤ t) (h1 : t < p.T) : t + 1 + wkN p t ≤ p.T ∧ (wkN p t : Int) ≤ p.hold := by
  have := h.h0
  unfold wkN
  simp only [Int.min_def]
  split <;> omega
theorem bestF_bd {p : Nd} (h : NdOk p) : ∀ (f : Nat) (t x : Int), 0 ≤ t → t ≤ p.T → 0 ≤ x → x ≤ p.bu → (0 ≤ (bestF p f t x).1 ∧ (bestF p f t x).1 ≤ (p.T - t) * 10000) ∧ 0 ≤ (bestF p f t x).2 ∧ (bestF p f t x).2 ≤ p.T - t := by
  have := h.a0
  have := h.a1
  have := h.a2
  intro f
  induction f with
  | zero => intro t x h0 h1 _ _; simp only [bestF]; omega
  | succ f ih =>
    intro t x h0 h1 hx0 hx1
    simp only [bestF]
    by_cases ht : p.T ≤ t
    · rw [if_pos ht]; simp only; omega
    · rw [if_neg ht]
      have hr := refV_bd h (t := t) hx0 hx1
      have hs := ih (t + 1) (refV p t x) (by omega) (by omega) hr.1 hr.2
      by_cases ha : refV p t x = 0
      · rw [if_pos ha]; simp only [add2]; omega
      · rw [if_neg ha]
        have hw := wkV_bd h (t := t) (a := refV p t x) (by omega) hr.2 (wkN p t)
        have hn := wkN_bd h h0 (by omega)
        have hy := ih (t + 1 + wkN p t) _ (by omega) hn.1 hw.1.1 hw.1.2
        unfold pick2
        split <;> simp only [add2] <;> omega
theorem bestV_bd {p : Nd} (h : NdOk p) {t x : Int} (h0 : 0 ≤ t) (hx0 : 0 ≤ x) (hx1 : x ≤ p.bu) : (0 ≤ (bestV p t x).1 ∧ (bestV p t x).1 ≤ 11000000) ∧ 0 ≤ (bestV p t x).2 ∧ (bestV p t x).2 ≤ 1001 := by
  have := h.t1
  by_cases ht : p.T ≤ t
  · rw [bestV_done _ ht]; simp
  · have := bestF_bd h (p.T - t).toNat t x h0 (by omega) hx0 hx1
    unfold bestV
    omega
end
section
set_option linter.unusedVariables false
open Go.RowKit
theorem isNaN_any (x : Int) (w : World) : Calls Try.prog 98 #[.int .i64 x] w fun e w' => e = .returned (.bool false) ∧ w = w' := by
  go_enter Try.func98, Try.ntmps98
  go_wp2
  go_ret
  exact ⟨by simp, rfl⟩

theorem compare_any (x y : Int) (w : World) : Calls Try.prog 86 #[.int .i64 x, .int .i64 y] w fun e w' => e = .returned (.int .i64 (cmpI x y)) ∧ w = w' := by
  by_cases h1 : x < y
  · have hc := Lib.hid (show cmpI x y = -1 by simp [cmpI, h1])
    go_enter Try.func86, Try.ntmps86
    go_wp2_with (go_at_call 98; refine (isNaN_any _ _).mono ?_; rintro e w' ⟨rfl, rfl⟩)
    go_ret
    exact ⟨by rw [hc.out]; rfl, rfl⟩
  · by_cases h2 : y < x
    · have hc := Lib.hid (show cmpI x y = 1 by simp [cmpI, h1, h2])
      go_enter Try.func86, Try.ntmps86
      go_wp2_with (go_at_call 98; refine (isNaN_any _ _).mono ?_; rintro e w' ⟨rfl, rfl⟩)
      go_ret
      exact ⟨by rw [hc.out]; rfl, rfl⟩
    · have hc := Lib.hid (show cmpI x y = 0 by simp [cmpI, h1, h2])
      go_enter Try.func86, Try.ntmps86
      go_wp2_with (go_at_call 98; refine (isNaN_any _ _).mono ?_; rintro e w' ⟨rfl, rfl⟩)
      go_ret
      exact ⟨by rw [hc.out]; rfl, rfl⟩

theorem or_any (ad : Addr) (c : Nat) (x y : Int) (w : World) (h0 : w.cell? (ad.add 0) = some (.int .i64 x)) (h1 : w.cell? (ad.add 1) = some (.int .i64 y)) : Calls Try.prog 85 #[.slice (some ad) 2 c] w fun e w' => e = .returned (.int .i64 (orI x y)) ∧ w = w' := by
  have hc : ∀ k : Nat, k < 2 → w.cell? (ad.add k) = some (.int .i64 (if k = 0 then x else y)) := fun k hk => by
    have : k = 0 ∨ k = 1 := by omega
    rcases this with rfl | rfl
    · simpa using h0
    · simpa using h1
  have HC := Lib.hid hc
  clear hc h0 h1
  go_enter Try.func85, Try.ntmps85
  go_wp2
  go_loop [8] (fun i => ∃ k : Nat, k ≤ 2 ∧ i = .int .i64 k ∧ (1 ≤ k → Hid (x = 0)) ∧ (2 ≤ k → Hid (y = 0))) (fun i => 2 - (intOf i).toNat)
  case atStart => exact ⟨0, by omega, rfl, by omega, by omega⟩
  case round =>
    obtain ⟨k, hk, rfl, hx, hy⟩ := hrel
    by_cases hlt : k < 2
    · have hcell := HC.out k hlt
      generalize hz : (if k = 0 then x else y) = z at hcell
      have HZ := Lib.hid hz
      clear hz
      cases hb : (z != 0) with
      | true =>
        go_wp2
        go_ret
        refine ⟨ret_int ?_, rfl⟩
        have hz0 : z ≠ 0 := by simpa using hb
        have := HZ.out
        have hk01 : k = 0 ∨ k = 1 := by omega
        rcases hk01 with rfl | rfl
        · simp at this; subst this; unfold orI; rw [if_neg hz0]
        · simp at this; subst this; unfold orI; rw [if_pos (hx (by omega)).out]
      | false =>
        go_wp2
        go_round
        case rel =>
          have hz0 : z = 0 := by simpa using hb
          have := HZ.out
          refine ⟨k + 1, by omega, by go_num, fun _ => Lib.hid ?_, fun h2 => Lib.hid ?_⟩
          · by_cases e : k = 0
            · simp [e] at this; omega
            · exact (hx (by omega)).out
          · have e : k = 1 := by omega
            simp [e] at this; omega
        case measure => simp [intOf]; omega
    · obtain rfl : k = 2 := by omega
      go_wp2
      go_ret
      have hx0 := (hx (by omega)).out
      have hy0 := (hy (by omega)).out
      exact ⟨ret_int (by simp [orI, hx0, hy0]), rfl⟩
end
section
open Go.RowKit

set_option maxRecDepth 100000 in
set_option maxHeartbeats 1000000 in
theorem refilled_any (bq bm : Nat) (gq : Int) (p : Nd) (t x : Int) (w : World) (hq : Pq w bq gq p.aw p.za p.bu p.re p.hold p.T bm) (h : NdOk p) (ht : 0 ≤ t ∧ t ≤ 100000) (hx : 0 ≤ x ∧ x ≤ 100000) :
  Calls Try.prog 77 #[Vp bq, .agg #[Vi t, Vi x]] w fun e w' => e = .returned (Vi (refV p t x)) ∧ Gr w w' := by
 have G := Gr.refl w
 have hC : RCells w (PqC bq gq p.aw p.za p.bu p.re p.hold p.T bm) := hq
 have hbq := hq.lt
 have ha0 := h.a0
 have ha1 := h.a1
 have ha2 := h.a2
 have hb0 := h.b0
 have hb1 := h.b1
 have hr0 := h.r0
 have hr1 := h.r1
 have hh0 := h.h0
 have hh1 := h.h1
 have ht0_ := h.t0
 have ht1_ := h.t1
 refine Y.calls 30 Try.func77 rfl rfl ?_
 intro ac F0
 have F : Fr ac 30 [(0, Vp bq), (1, .agg #[Vi t, Vi x])] := F0.sub _
 clear F0
 refine Y.seq ?_
 refine Y.lit (by kernel_rfl) ?_
 refine Y.pv F (X.box rfl (F.e 1 rfl) X.bx) ?_;clear F ac;intro ac F
 have hq3 : bq < w.heap.size := lt_cell (hC.at 0 rfl)
 have g := Gr.alloc w (.cells #[Vi t, Vi x] 72)
 have hb := heap_alloc_new w (.cells #[Vi t, Vi x] 72)
 have hbl : w.heap.size < (w.alloc (.cells #[Vi t, Vi x] 72)).heap.size := by simp
 have hC2 : RCells (w.alloc (.cells #[Vi t, Vi x] 72)) [(Ad bq 0, Vi gq), (Ad bq 1, Vi p.aw), (Ad bq 2, Vi p.za), (Ad bq 3, Vi p.bu), (Ad bq 4, Vi p.re), (Ad bq 5, Vi p.hold), (Ad bq 6, Vi p.T), (Ad bq 7, .map (some bm)), (Ad w.heap.size 0, Vi t), (Ad w.heap.size 1, Vi x)] := hC.box (b := w.heap.size) #[Vi t, Vi x] 72 rfl
 generalize w.alloc (.cells #[Vi t, Vi x] 72) = w4 at *
 replace G := G.trans g
 replace hC := hC2
 clear hC2
 replace hq := hq.gr g
 clear g hb hbl
 refine Y.pv F (X.assign rfl (X.kc (Vi 0) rfl)) ?_;clear F ac;intro ac F
 refine Y.nil ?_
 replace F : Fr ac 30 [(0, Vp bq), (1, .agg #[Vi t, Vi x]), (3, Vp w.heap.size), (4, Vi 0)] := F.sub _
 refine X.thenN ?_
 refine Y.seq ?_
 refine Y.seq ?_
 cases h5 : decide ((0 : Int) < t) with
 | false =>
  try rw [h5] at F
  have h5p : ¬ ((0 : Int) < t) := of_decide_eq_false h5
  refine Y.region F [some (Vp w.heap.size), some (Vi t), some (.bool false), some (.bool false), none, none, none, none, none, none, none, none, none, some (.bool false)] [] rfl ⟨by kernel_rfl, of_decide_eq_true (by kernel_rfl), by kernel_rfl, by kernel_rfl, by kernel_rfl⟩ ⟨?_, ?_, ?_, ?_, ?_, ?_, ?_, ?_, ?_, ?_, ?_, ?_, ?_, ?_, trivial⟩ ?_
  ·intro ac done u W Sx hR
   exact X.vl (X.field rfl (Sx.ev 3 (Vp w.heap.size)) (X.fld Try.underlying72 rfl (Try.siz3 _) rfl rfl)) hR.st0
  ·intro ac done u W Sx hR
   have g : Gr w4 W := hR.1
   exact X.vl (X.load rfl (Sx.ev 5 (Vp w.heap.size)) (X.ld1 (Try.agg3 _) ((hC.gr g).at 8 rfl))) hR.st0
  ·intro ac done u W Sx hR
   exact X.vl (X.binop rfl (Sx.ev 6 (Vi t)) (X.kc (Vi 0) rfl) (X.gtrI Try.underlying3 h5)) hR.st0
  ·intro ac done u W Sx hR
   exact X.vl (X.move rfl (Sx.ev 7 (.bool false))) hR.st0
  ·intro ac done u W Sx hR
   exact X.skip (X.w2 rfl (Sx.yl 3 8 false (by kernel_rfl) rfl rfl) rfl) rfl (hR.skip rfl)
  ·intro ac done u W Sx hR
   exact X.skip (X.w2 rfl (Sx.yl 3 8 false (by kernel_rfl) rfl rfl) rfl) rfl (hR.skip rfl)
  ·intro ac done u W Sx hR
   exact X.skip (X.w2 rfl (Sx.yl 3 8 false (by kernel_rfl) rfl rfl) rfl) rfl (hR.skip rfl)
  ·intro ac done u W Sx hR
   exact X.skip (X.w2 rfl (Sx.yl 3 8 false (by kernel_rfl) rfl rfl) rfl) rfl (hR.skip rfl)
  ·intro ac done u W Sx hR
   exact X.skip (X.w2 rfl (Sx.yl 3 8 false (by kernel_rfl) rfl rfl) rfl) rfl (hR.skip rfl)
  ·intro ac done u W Sx hR
   exact X.skip (X.w2 rfl (Sx.yl 3 8 false (by kernel_rfl) rfl rfl) rfl) rfl (hR.skip rfl)
  ·intro ac done u W Sx hR
   exact X.skip (X.w2 rfl (Sx.yl 3 8 false (by kernel_rfl) rfl rfl) rfl) rfl (hR.skip rfl)
  ·intro ac done u W Sx hR
   exact X.skip (X.w2 rfl (Sx.yl 3 8 false (by kernel_rfl) rfl rfl) rfl) rfl (hR.skip rfl)
  ·intro ac done u W Sx hR
   exact X.skip (X.w2 rfl (Sx.yl 3 8 false (by kernel_rfl) rfl rfl) rfl) rfl (hR.skip rfl)
  ·intro ac done u W Sx hR
   exact X.vl (X.pickF rfl (Sx.ev 8 (.bool false)) (X.kc (.bool false) rfl)) hR.st0
  intro ac u w6 hs hd hl ho hR
  have g : Gr w4 w6 := hR.1
  replace F : Fr ac 30 [(0, Vp bq), (1, .agg #[Vi t, Vi x]), (3, Vp w.heap.size), (4, Vi 0), (18, .bool false)] := X.fr hs hd hl _ (by kernel_rfl)
  clear hs hd hl ho hR
  replace G := G.trans g
  replace hC := hC.gr g
  replace hq := hq.gr g
  clear g
  refine X.thenN ?_
  refine Y.condF (F.e 18 rfl) ?_
  refine Y.skip ?_
  refine X.thenN ?_
  refine Y.seq ?_
  refine Y.lit (by kernel_rfl) ?_
  refine Y.pv F (X.field rfl (F.e 3 rfl) (X.fld Try.underlying72 rfl (Try.siz3 _) rfl rfl)) ?_;clear F ac;intro ac F
  refine Y.pv F (X.load rfl (F.e 28 rfl) (X.ld1 (Try.agg3 _) (hC.at 9 rfl))) ?_;clear F ac;intro ac F
  refine Y.pv F (X.assign rfl (F.e 29 rfl)) ?_;clear F ac;intro ac F
  refine Y.nil ?_
  replace F : Fr ac 30 [(0, Vp bq), (1, .agg #[Vi t, Vi x]), (3, Vp w.heap.size), (4, Vi x), (18, .bool false)] := F.sub _
  refine X.thenN ?_
  refine Y.ret ?_
  exact Y.ret0 (v := Vi x) F (Y.rs1 F rfl (by kernel_rfl)) ⟨by unfold refV; simp [h5p], G⟩
 | true =>
  try rw [h5] at F
  have h5p : ((0 : Int) < t) := of_decide_eq_true h5
  refine Y.region F [some (Vp w.heap.size), some (Vi t), some (.bool true), some (.bool true), some (Vp w.heap.size), some (Vi t), some (Vp bq), some (Vp bq), some (Vp bq), some (.pointer (some ⟨bq, 4, none⟩)), some (Vi p.re), some (Vi ((t : Int) % (p.re : Int))), some (.bool (((t : Int) % (p.re : Int) : Int) == 0)), some (.bool (((t : Int) % (p.re : Int) : Int) == 0))] [] rfl ⟨by kernel_rfl, of_decide_eq_true (by kernel_rfl), by kernel_rfl, by kernel_rfl, by kernel_rfl⟩ ⟨?_, ?_, ?_, ?_, ?_, ?_, ?_, ?_, ?_, ?_, ?_, ?_, ?_, ?_, trivial⟩ ?_
  ·intro ac done u W Sx hR
   exact X.vl (X.field rfl (Sx.ev 3 (Vp w.heap.size)) (X.fld Try.underlying72 rfl (Try.siz3 _) rfl rfl)) hR.st0
  ·intro ac done u W Sx hR
   have g : Gr w4 W := hR.1
   exact X.vl (X.load rfl (Sx.ev 5 (Vp w.heap.size)) (X.ld1 (Try.agg3 _) ((hC.gr g).at 8 rfl))) hR.st0
  ·intro ac done u W Sx hR
   exact X.vl (X.binop rfl (Sx.ev 6 (Vi t)) (X.kc (Vi 0) rfl) (X.gtrI Try.underlying3 h5)) hR.st0
  ·intro ac done u W Sx hR
   exact X.vl (X.move rfl (Sx.ev 7 (.bool true))) hR.st0
  ·intro ac done u W Sx hR
   exact X.val (X.w1 rfl (Sx.yl 3 8 true (by kernel_rfl) rfl rfl)) rfl (X.field rfl (Sx.ev 3 (Vp w.heap.size)) (X.fld Try.underlying72 rfl (Try.siz3 _) rfl rfl)) hR.st0
  ·intro ac done u W Sx hR
   have g : Gr w4 W := hR.1
   exact X.val (X.w1 rfl (Sx.yl 3 8 true (by kernel_rfl) rfl rfl)) rfl (X.load rfl (Sx.ev 9 (Vp w.heap.size)) (X.ld1 (Try.agg3 _) ((hC.gr g).at 8 rfl))) hR.st0
  ·intro ac done u W Sx hR
   exact X.val (X.w1 rfl (Sx.yl 3 8 true (by kernel_rfl) rfl rfl)) rfl (X.move rfl (Sx.ev 0 (Vp bq))) hR.st0
  ·intro ac done u W Sx hR
   exact X.val (X.w1 rfl (Sx.yl 3 8 true (by kernel_rfl) rfl rfl)) rfl (Y.nilC rfl (Sx.ev 11 (Vp bq))) hR.st0
  ·intro ac done u W Sx hR
   exact X.val (X.w1 rfl (Sx.yl 3 8 true (by kernel_rfl) rfl rfl)) rfl (X.field rfl (Sx.ev 12 (Vp bq)) (X.fld Try.underlying110 rfl (Try.siz31 _) rfl rfl)) hR.st0
  ·intro ac done u W Sx hR
   exact X.val (X.w1 rfl (Sx.yl 3 8 true (by kernel_rfl) rfl rfl)) rfl (X.field rfl (Sx.ev 13 (Vp bq)) (X.fld Try.underlying31 rfl (Try.siz3 _) rfl rfl)) hR.st0
  ·intro ac done u W Sx hR
   have g : Gr w4 W := hR.1
   exact X.val (X.w1 rfl (Sx.yl 3 8 true (by kernel_rfl) rfl rfl)) rfl (X.load rfl (Sx.ev 14 (.pointer (some ⟨bq, 4, none⟩))) (X.ld1 (Try.agg3 _) ((hC.gr g).at 4 rfl))) hR.st0
  ·intro ac done u W Sx hR
   exact X.val (X.w1 rfl (Sx.yl 3 8 true (by kernel_rfl) rfl rfl)) rfl (X.binop rfl (Sx.ev 10 (Vi t)) (Sx.ev 15 (Vi p.re)) (X.remI Try.underlying3 rfl (by omega) (by omega))) hR.st0
  ·intro ac done u W Sx hR
   exact X.val (X.w1 rfl (Sx.yl 3 8 true (by kernel_rfl) rfl rfl)) rfl (X.binop rfl (Sx.ev 16 (Vi ((t : Int) % (p.re : Int)))) (X.kc (Vi 0) rfl) (X.eqlI Try.underlying3 rfl)) hR.st0
  ·intro ac done u W Sx hR
   exact X.vl (X.pickT rfl (Sx.ev 8 (.bool true)) (Sx.ev 17 (.bool (((t : Int) % (p.re : Int) : Int) == 0)))) hR.st0
  intro ac u w7 hs hd hl ho hR
  have g : Gr w4 w7 := hR.1
  replace F : Fr ac 30 [(0, Vp bq), (1, .agg #[Vi t, Vi x]), (3, Vp w.heap.size), (4, Vi 0), (18, .bool (((t : Int) % (p.re : Int) : Int) == 0))] := X.fr hs hd hl _ (by kernel_rfl)
  clear hs hd hl ho hR
  replace G := G.trans g
  replace hC := hC.gr g
  replace hq := hq.gr g
  clear g
  refine X.thenN ?_
  cases h8 : (((t : Int) % (p.re : Int) : Int) == 0) with
  | false =>
   try rw [h8] at F
   have h8p : ¬ ((t : Int) % (p.re : Int) : Int) = 0 := by simpa using h8
   refine Y.condF (F.e 18 rfl) ?_
   refine Y.skip ?_
   refine X.thenN ?_
   refine Y.seq ?_
   refine Y.lit (by kernel_rfl) ?_
   refine Y.pv F (X.field rfl (F.e 3 rfl) (X.fld Try.underlying72 rfl (Try.siz3 _) rfl rfl)) ?_;clear F ac;intro ac F
   refine Y.pv F (X.load rfl (F.e 28 rfl) (X.ld1 (Try.agg3 _) (hC.at 9 rfl))) ?_;clear F ac;intro ac F
   refine Y.pv F (X.assign rfl (F.e 29 rfl)) ?_;clear F ac;intro ac F
   refine Y.nil ?_
   replace F : Fr ac 30 [(0, Vp bq), (1, .agg #[Vi t, Vi x]), (3, Vp w.heap.size), (4, Vi x), (18, .bool false)] := F.sub _
   refine X.thenN ?_
   refine Y.ret ?_
   exact Y.ret0 (v := Vi x) F (Y.rs1 F rfl (by kernel_rfl)) ⟨by unfold refV; simp [h5p, h8p], G⟩
  | true =>
   try rw [h8] at F
   have h8p : ((t : Int) % (p.re : Int) : Int) = 0 := by simpa using h8
   refine Y.condT (F.e 18 rfl) ?_
   refine Y.seq ?_
   refine Y.region F [some (.pointer (some ⟨w.heap.size, 1, none⟩)), some (Vi x), some (Vi ((x : Int) + 1)), some (Vp bq), some (Vp bq), some (Vp bq), some (.pointer (some ⟨bq, 3, none⟩)), some (Vi p.bu), some (Vi (min ((x : Int) + 1 : Int) (p.bu : Int))), some (Vi (min ((x : Int) + 1 : Int) (p.bu : Int)))] [] rfl ⟨by kernel_rfl, of_decide_eq_true (by kernel_rfl), by kernel_rfl, by kernel_rfl, by kernel_rfl⟩ ⟨?_, ?_, ?_, ?_, ?_, ?_, ?_, ?_, ?_, ?_, trivial⟩ ?_
   ·intro ac done u W Sx hR
    exact X.vl (X.field rfl (Sx.ev 3 (Vp w.heap.size)) (X.fld Try.underlying72 rfl (Try.siz3 _) rfl rfl)) hR.st0
   ·intro ac done u W Sx hR
    have g : Gr w7 W := hR.1
    exact X.vl (X.load rfl (Sx.ev 19 (.pointer (some ⟨w.heap.size, 1, none⟩))) (X.ld1 (Try.agg3 _) ((hC.gr g).at 9 rfl))) hR.st0
   ·intro ac done u W Sx hR
    exact X.vl (X.binop rfl (Sx.ev 20 (Vi x)) (X.kc (Vi 1) rfl) (X.addI Try.underlying3 rfl (by omega) (by omega))) hR.st0
   ·intro ac done u W Sx hR
    exact X.vl (X.move rfl (Sx.ev 0 (Vp bq))) hR.st0
   ·intro ac done u W Sx hR
    exact X.vl (Y.nilC rfl (Sx.ev 22 (Vp bq))) hR.st0
   ·intro ac done u W Sx hR
    exact X.vl (X.field rfl (Sx.ev 23 (Vp bq)) (X.fld Try.underlying110 rfl (Try.siz31 _) rfl rfl)) hR.st0
   ·intro ac done u W Sx hR
    exact X.vl (X.field rfl (Sx.ev 24 (Vp bq)) (X.fld Try.underlying31 rfl (Try.siz3 _) rfl rfl)) hR.st0
   ·intro ac done u W Sx hR
    have g : Gr w7 W := hR.1
    exact X.vl (X.load rfl (Sx.ev 25 (.pointer (some ⟨bq, 3, none⟩))) (X.ld1 (Try.agg3 _) ((hC.gr g).at 3 rfl))) hR.st0
   ·intro ac done u W Sx hR
    exact X.vl (Y.min2 rfl (Sx.ev 21 (Vi ((x : Int) + 1))) (Sx.ev 26 (Vi p.bu))) hR.st0
   ·intro ac done u W Sx hR
    exact X.vl (X.assign rfl (Sx.ev 27 (Vi (min ((x : Int) + 1 : Int) (p.bu : Int))))) hR.st0
   intro ac u w9 hs hd hl ho hR
   have g : Gr w7 w9 := hR.1
   replace F : Fr ac 30 [(0, Vp bq), (1, .agg #[Vi t, Vi x]), (3, Vp w.heap.size), (4, Vi (min ((x : Int) + 1 : Int) (p.bu : Int))), (18, .bool true)] := X.fr hs hd hl _ (by kernel_rfl)
   clear hs hd hl ho hR
   replace G := G.trans g
   replace hC := hC.gr g
   replace hq := hq.gr g
   clear g
   refine X.thenN ?_
   refine Y.ret ?_
   refine X.thenR ?_
   exact Y.ret0 (v := Vi (min ((x : Int) + 1 : Int) (p.bu : Int))) F (Y.rs1 F rfl (by kernel_rfl)) ⟨by unfold refV; simp [h5p, h8p], G⟩

set_option maxRecDepth 100000 in
set_option maxHeartbeats 400000 in
theorem start_any (bq bm : Nat) (gq : Int) (p : Nd) (w : World) (hq : Pq w bq gq p.aw p.za p.bu p.re p.hold p.T bm) :
  Calls Try.prog 49 #[Vp bq] w fun e w' => e = .returned (.agg #[Vi 0, Vi p.bu]) ∧ Gr w w' := by
 have G := Gr.refl w
 have hC : RCells w (PqC bq gq p.aw p.za p.bu p.re p.hold p.T bm) := hq
 have hbq := hq.lt
 refine Y.calls 9 Try.func49 rfl rfl ?_
 intro ac F0
 have F : Fr ac 9 [(0, Vp bq)] := F0.sub _
 clear F0
 refine Y.seq ?_
 refine Y.lit (by kernel_rfl) ?_
 refine Y.pv F (Y.al rfl (Try.new72 _)) ?_;clear F ac;intro ac F
 have hgshV3 := G.size
 have hq4 : bq < w.heap.size := lt_cell (hC.at 0 rfl)
 have g := Gr.alloc w (.cells #[Vi 0, Vi 0] 72)
 have hb := heap_alloc_new w (.cells #[Vi 0, Vi 0] 72)
 have hbl : w.heap.size < (w.alloc (.cells #[Vi 0, Vi 0] 72)).heap.size := by simp
 generalize w.alloc (.cells #[Vi 0, Vi 0] 72) = w5 at *
 replace G := G.trans g
 replace hC := hC.gr g
 replace hq := hq.gr g
 have hV3 := ownP_2 hb
 clear g hb hbl
 refine Y.nil ?_
 replace F : Fr ac 9 [(0, Vp bq), (2, Vp w.heap.size)] := F.sub _
 refine X.thenN ?_
 refine Y.seq ?_
 refine Y.lit (by kernel_rfl) ?_
 refine Y.pv F (X.move rfl (F.e 0 rfl)) ?_;clear F ac;intro ac F
 refine Y.pv F (Y.nilC rfl (F.e 3 rfl)) ?_;clear F ac;intro ac F
 refine Y.pv F (X.field rfl (F.e 4 rfl) (X.fld Try.underlying110 rfl (Try.siz31 _) rfl rfl)) ?_;clear F ac;intro ac F
 refine Y.pv F (X.field rfl (F.e 5 rfl) (X.fld Try.underlying31 rfl (Try.siz3 _) rfl rfl)) ?_;clear F ac;intro ac F
 refine Y.pv F (X.load rfl (F.e 6 rfl) (X.ld1 (Try.agg3 _) (hC.at 3 rfl))) ?_;clear F ac;intro ac F
 refine Y.pv F (Y.bd rfl (Y.bd2 (X.kc (Vi 0) rfl) (F.e 7 rfl)) (Try.bd72 _ _ _)) ?_;clear F ac;intro ac F
 obtain ⟨w6, hrun, hS2, hon⟩ := hV3.st2 (P := Try.prog) (t := 72) (x := Vi 0) (y := Vi p.bu) (fun W => Try.siz72 W) rfl rfl
 refine Y.punit F (X.w0 rfl) rfl (X.store rfl (F.e 2 rfl) (F.e 8 rfl) hrun) ?_
 clear F ac hrun
 intro ac F
 replace G := Y.Only.up G hon (by omega)
 replace hq := hq.only hon (by show ¬ _ = _; omega)
 replace hC := (hC.kc hon 0 rfl (hC.kc hon 1 rfl (hC.kc hon 2 rfl (hC.kc hon 3 rfl (hC.kc hon 4 rfl (hC.kc hon 5 rfl (hC.kc hon 6 rfl (hC.kc hon 7 rfl (RCells.nil _)))))))))
 replace hV3 := hS2
 clear hS2 hon
 refine Y.nil ?_
 replace F : Fr ac 9 [(0, Vp bq), (2, Vp w.heap.size)] := F.sub _
 refine X.thenN ?_
 refine Y.ret ?_
 exact Y.ret0 (v := .agg #[Vi 0, Vi p.bu]) F (Y.rc1 F rfl (Try.agg72 _) (Try.siz72 _) (by kernel_rfl) hV3) ⟨rfl, G⟩

set_option maxRecDepth 100000 in
set_option maxHeartbeats 400000 in
theorem and_any (x y z u : Int) (w : World) (h1 : -100000000 ≤ x + z ∧ x + z ≤ 100000000) (h2 : -100000000 ≤ y + u ∧ y + u ≤ 100000000) :
  Calls Try.prog 62 #[.agg #[Vi x, Vi y], .agg #[Vi z, Vi u]] w fun e w' => e = .returned (.agg #[Vi (x + z), Vi (y + u)]) ∧ Gr w w' := by
 have G := Gr.refl w
 refine Y.calls 16 Try.func62 rfl rfl ?_
 intro ac F0
 have F : Fr ac 16 [(0, .agg #[Vi x, Vi y]), (1, .agg #[Vi z, Vi u])] := F0.sub _
 clear F0
 refine Y.seq ?_
 refine Y.lit (by kernel_rfl) ?_
 refine Y.pv F (X.box rfl (F.e 0 rfl) X.bx) ?_;clear F ac;intro ac F
 have g := Gr.alloc w (.cells #[Vi x, Vi y] 69)
 have hb := heap_alloc_new w (.cells #[Vi x, Vi y] 69)
 have hbl : w.heap.size < (w.alloc (.cells #[Vi x, Vi y] 69)).heap.size := by simp
 have hC2 : RCells (w.alloc (.cells #[Vi x, Vi y] 69)) [(Ad w.heap.size 0, Vi x), (Ad w.heap.size 1, Vi y)] := (RCells.nil w).box (b := w.heap.size) #[Vi x, Vi y] 69 rfl
 generalize w.alloc (.cells #[Vi x, Vi y] 69) = w3 at *
 replace G := G.trans g
 have hC := hC2
 clear hC2
 clear g hb hbl
 refine Y.pv F (X.box rfl (F.e 1 rfl) X.bx) ?_;clear F ac;intro ac F
 have hq4 : w.heap.size < w3.heap.size := lt_cell (hC.at 0 rfl)
 have g := Gr.alloc w3 (.cells #[Vi z, Vi u] 69)
 have hb := heap_alloc_new w3 (.cells #[Vi z, Vi u] 69)
 have hbl : w3.heap.size < (w3.alloc (.cells #[Vi z, Vi u] 69)).heap.size := by simp
 have hC2 : RCells (w3.alloc (.cells #[Vi z, Vi u] 69)) [(Ad w.heap.size 0, Vi x), (Ad w.heap.size 1, Vi y), (Ad w3.heap.size 0, Vi z), (Ad w3.heap.size 1, Vi u)] := hC.box (b := w3.heap.size) #[Vi z, Vi u] 69 rfl
 generalize w3.alloc (.cells #[Vi z, Vi u] 69) = w5 at *
 replace G := G.trans g
 replace hC := hC2
 clear hC2
 clear g hb hbl
 refine Y.pv F (Y.al rfl (Try.new69 _)) ?_;clear F ac;intro ac F
 have hgshV6 := G.size
 have hq7 : w.heap.size < w5.heap.size := lt_cell (hC.at 0 rfl)
 have hq8 : w3.heap.size < w5.heap.size := lt_cell (hC.at 2 rfl)
 have g := Gr.alloc w5 (.cells #[Vi 0, Vi 0] 69)
 have hb := heap_alloc_new w5 (.cells #[Vi 0, Vi 0] 69)
 have hbl : w5.heap.size < (w5.alloc (.cells #[Vi 0, Vi 0] 69)).heap.size := by simp
 generalize w5.alloc (.cells #[Vi 0, Vi 0] 69) = w9 at *
 replace G := G.trans g
 replace hC := hC.gr g
 have hV6 := ownP_2 hb
 clear g hb hbl
 refine Y.nil ?_
 replace F : Fr ac 16 [(0, .agg #[Vi x, Vi y]), (1, .agg #[Vi z, Vi u]), (2, Vp w.heap.size), (3, Vp w3.heap.size), (4, Vp w5.heap.size)] := F.sub _
 refine X.thenN ?_
 refine Y.seq ?_
 refine Y.lit (by kernel_rfl) ?_
 refine Y.pv F (X.field rfl (F.e 2 rfl) (X.fld Try.underlying69 rfl (Try.siz3 _) rfl rfl)) ?_;clear F ac;intro ac F
 refine Y.pv F (X.load rfl (F.e 5 rfl) (X.ld1 (Try.agg3 _) (hC.at 0 rfl))) ?_;clear F ac;intro ac F
 refine Y.pv F (X.field rfl (F.e 3 rfl) (X.fld Try.underlying69 rfl (Try.siz3 _) rfl rfl)) ?_;clear F ac;intro ac F
 refine Y.pv F (X.load rfl (F.e 7 rfl) (X.ld1 (Try.agg3 _) (hC.at 2 rfl))) ?_;clear F ac;intro ac F
 refine Y.pv F (X.binop rfl (F.e 6 rfl) (F.e 8 rfl) (X.addI Try.underlying3 rfl (by omega) (by omega))) ?_;clear F ac;intro ac F
 refine Y.pv F (X.field rfl (F.e 2 rfl) (X.fld Try.underlying69 rfl (Try.siz3 _) rfl rfl)) ?_;clear F ac;intro ac F
 refine Y.pv F (X.load rfl (F.e 10 rfl) (X.ld1 (Try.agg3 _) (hC.at 1 rfl))) ?_;clear F ac;intro ac F
 refine Y.pv F (X.field rfl (F.e 3 rfl) (X.fld Try.underlying69 rfl (Try.siz3 _) rfl rfl)) ?_;clear F ac;intro ac F
 refine Y.pv F (X.load rfl (F.e 12 rfl) (X.ld1 (Try.agg3 _) (hC.at 3 rfl))) ?_;clear F ac;intro ac F
 refine Y.pv F (X.binop rfl (F.e 11 rfl) (F.e 13 rfl) (X.addI Try.underlying3 rfl (by omega) (by omega))) ?_;clear F ac;intro ac F
 refine Y.pv F (Y.bd rfl (Y.bd2 (F.e 9 rfl) (F.e 14 rfl)) (Try.bd69 _ _ _)) ?_;clear F ac;intro ac F
 obtain ⟨w10, hrun, hS2, hon⟩ := hV6.st2 (P := Try.prog) (t := 69) (x := Vi ((x : Int) + z)) (y := Vi ((y : Int) + u)) (fun W => Try.siz69 W) rfl rfl
 refine Y.punit F (X.w0 rfl) rfl (X.store rfl (F.e 4 rfl) (F.e 15 rfl) hrun) ?_
 clear F ac hrun
 intro ac F
 replace G := Y.Only.up G hon (by omega)
 replace hC := (hC.kc hon 0 rfl (hC.kc hon 1 rfl (hC.kc hon 2 rfl (hC.kc hon 3 rfl (RCells.nil _)))))
 replace hV6 := hS2
 clear hS2 hon
 refine Y.nil ?_
 replace F : Fr ac 16 [(0, .agg #[Vi x, Vi y]), (1, .agg #[Vi z, Vi u]), (2, Vp w.heap.size), (3, Vp w3.heap.size), (4, Vp w5.heap.size)] := F.sub _
 refine X.thenN ?_
 refine Y.ret ?_
 exact Y.ret0 (v := .agg #[Vi ((x : Int) + z), Vi ((y : Int) + u)]) F (Y.rc1 F rfl (Try.agg69 _) (Try.siz69 _) (by kernel_rfl) hV6) ⟨rfl, G⟩
end
section
open Go.RowKit

set_option maxRecDepth 100000 in
set_option maxHeartbeats 1000000 in
theorem wake_any (bq bm : Nat) (gq : Int) (p : Nd) (t x : Int) (w : World) (hq : Pq w bq gq p.aw p.za p.bu p.re p.hold p.T bm) (h : NdOk p) (ht : 0 ≤ t ∧ t ≤ 100000) (hx : 0 ≤ x ∧ x ≤ 100000) :
  Calls Try.prog 61 #[Vp bq, .agg #[Vi t, Vi x]] w fun e w' => e = .returned (if refV p t x = 0 then .tuple #[.agg #[Vi t, Vi x], .agg #[Vi 0, Vi 0], .bool false] else .tuple #[.agg #[Vi (t + 1 + ((wkN p t : Nat) : Int)), Vi (wkV p t (refV p t x) (wkN p t)).1], .agg #[Vi (wkV p t (refV p t x) (wkN p t)).2, Vi 1], .bool true]) ∧ Gr w w' := by
 have G := Gr.refl w
 have hC : RCells w (PqC bq gq p.aw p.za p.bu p.re p.hold p.T bm) := hq
 have hbq := hq.lt
 have ha0 := h.a0
 have ha1 := h.a1
 have ha2 := h.a2
 have hb0 := h.b0
 have hb1 := h.b1
 have hr0 := h.r0
 have hr1 := h.r1
 have hh0 := h.h0
 have hh1 := h.h1
 have ht0_ := h.t0
 have ht1_ := h.t1
 refine Y.calls 88 Try.func61 rfl rfl ?_
 intro ac F0
 have F : Fr ac 88 [(0, Vp bq), (1, .agg #[Vi t, Vi x])] := F0.sub _
 clear F0
 refine Y.seq ?_
 refine Y.lit (by kernel_rfl) ?_
 refine Y.pv F (X.box rfl (F.e 1 rfl) X.bx) ?_;clear F ac;intro ac F
 have hq3 : bq < w.heap.size := lt_cell (hC.at 0 rfl)
 have g := Gr.alloc w (.cells #[Vi t, Vi x] 72)
 have hb := heap_alloc_new w (.cells #[Vi t, Vi x] 72)
 have hbl : w.heap.size < (w.alloc (.cells #[Vi t, Vi x] 72)).heap.size := by simp
 have hC2 : RCells (w.alloc (.cells #[Vi t, Vi x] 72)) [(Ad bq 0, Vi gq), (Ad bq 1, Vi p.aw), (Ad bq 2, Vi p.za), (Ad bq 3, Vi p.bu), (Ad bq 4, Vi p.re), (Ad bq 5, Vi p.hold), (Ad bq 6, Vi p.T), (Ad bq 7, .map (some bm)), (Ad w.heap.size 0, Vi t), (Ad w.heap.size 1, Vi x)] := hC.box (b := w.heap.size) #[Vi t, Vi x] 72 rfl
 generalize w.alloc (.cells #[Vi t, Vi x] 72) = w4 at *
 replace G := G.trans g
 replace hC := hC2
 clear hC2
 replace hq := hq.gr g
 clear g hb hbl
 refine Y.pv F (Y.al rfl (Try.new72 _)) ?_;clear F ac;intro ac F
 have hgshV5 := G.size
 have hq6 : bq < w4.heap.size := lt_cell (hC.at 0 rfl)
 have hq7 : w.heap.size < w4.heap.size := lt_cell (hC.at 8 rfl)
 have g := Gr.alloc w4 (.cells #[Vi 0, Vi 0] 72)
 have hb := heap_alloc_new w4 (.cells #[Vi 0, Vi 0] 72)
 have hbl : w4.heap.size < (w4.alloc (.cells #[Vi 0, Vi 0] 72)).heap.size := by simp
 generalize w4.alloc (.cells #[Vi 0, Vi 0] 72) = w8 at *
 replace G := G.trans g
 replace hC := hC.gr g
 replace hq := hq.gr g
 have hV5 := ownP_2 hb
 clear g hb hbl
 refine Y.pv F (Y.al rfl (Try.new69 _)) ?_;clear F ac;intro ac F
 have hgshV9 := G.size
 have hq10 : w4.heap.size < w8.heap.size := hV5.lt
 have hq11 : bq < w8.heap.size := lt_cell (hC.at 0 rfl)
 have hq12 : w.heap.size < w8.heap.size := lt_cell (hC.at 8 rfl)
 have g := Gr.alloc w8 (.cells #[Vi 0, Vi 0] 69)
 have hb := heap_alloc_new w8 (.cells #[Vi 0, Vi 0] 69)
 have hbl : w8.heap.size < (w8.alloc (.cells #[Vi 0, Vi 0] 69)).heap.size := by simp
 generalize w8.alloc (.cells #[Vi 0, Vi 0] 69) = w13 at *
 replace G := G.trans g
 replace hC := hC.gr g
 replace hq := hq.gr g
 replace hV5 := hV5.gr g
 have hV9 := ownP_2 hb
 clear g hb hbl
 refine Y.pv F (X.assign rfl (X.kc (.bool false) rfl)) ?_;clear F ac;intro ac F
 refine Y.nil ?_
 replace F : Fr ac 88 [(0, Vp bq), (1, .agg #[Vi t, Vi x]), (3, Vp w.heap.size), (4, Vp w4.heap.size), (5, Vp w8.heap.size), (6, .bool false)] := F.sub _
 refine X.thenN ?_
 refine Y.seq ?_
 refine Y.lit (by kernel_rfl) ?_
 refine Y.pv F (X.move rfl (F.e 0 rfl)) ?_;clear F ac;intro ac F
 refine Y.pv F (X.load rfl (F.e 3 rfl) (X.ldN (Try.agg72 _) (Try.siz72 _) (Y.atz (⟨w.heap.size, 0, none⟩) (Y.AtFrom.cons (hC.at 8 rfl) (Y.AtFrom.cons (hC.at 9 rfl) (Y.AtFrom.nil _ _ _)))))) ?_;clear F ac;intro ac F
 refine Y.pcall F (X.w0 rfl) rfl (X.enter (F := 77) rfl (X.kc (.func (.func 77) #[] #[]) rfl) (X.a2 (F.e 9 rfl) (F.e 10 rfl)) (enters_of Try.func77 (by kernel_rfl) rfl _)) (refilled_any bq bm gq p t x w13 hq h (by omega) (by omega)) ?_
 clear F ac
 rintro e w14 ⟨rfl, g⟩
 refine ⟨_, rfl, ?_⟩
 intro ac F
 replace G := G.trans g
 replace hC := hC.gr g
 replace hq := hq.gr g
 replace hV5 := hV5.gr g
 replace hV9 := hV9.gr g
 clear g
 refine Y.pv F (X.assign rfl (F.e 11 rfl)) ?_;clear F ac;intro ac F
 refine Y.nil ?_
 replace F : Fr ac 88 [(0, Vp bq), (1, .agg #[Vi t, Vi x]), (3, Vp w.heap.size), (4, Vp w4.heap.size), (5, Vp w8.heap.size), (6, .bool false), (7, Vi (refV p t x))] := F.sub _
 refine X.thenN ?_
 refine Y.seq ?_
 refine Y.seq ?_
 refine Y.lit (by kernel_rfl) ?_
 refine Y.pv F (X.move rfl (F.e 7 rfl)) ?_;clear F ac;intro ac F
 refine Y.pv F (X.binop rfl (F.e 12 rfl) (X.kc (Vi 0) rfl) (X.eqlI Try.underlying3 rfl)) ?_;clear F ac;intro ac F
 refine Y.nil ?_
 replace F : Fr ac 88 [(0, Vp bq), (1, .agg #[Vi t, Vi x]), (3, Vp w.heap.size), (4, Vp w4.heap.size), (5, Vp w8.heap.size), (6, .bool false), (7, Vi (refV p t x)), (13, .bool ((refV p t x : Int) == 0))] := F.sub _
 refine X.thenN ?_
 cases h15 : ((refV p t x : Int) == 0) with
 | false =>
  try rw [h15] at F
  have h15p : ¬ (refV p t x : Int) = 0 := by simpa using h15
  have hwk : ¬ refV p t x = 0 := h15p
  have hrb := refV_nn h (t := t) hx.1 hx.2
  refine Y.condF (F.e 13 rfl) ?_
  refine Y.skip ?_
  refine X.thenN ?_
  refine Y.seq ?_
  refine Y.lit (by kernel_rfl) ?_
  refine Y.pv F (X.field rfl (F.e 3 rfl) (X.fld Try.underlying72 rfl (Try.siz3 _) rfl rfl)) ?_;clear F ac;intro ac F
  refine Y.pv F (X.load rfl (F.e 16 rfl) (X.ld1 (Try.agg3 _) (hC.at 8 rfl))) ?_;clear F ac;intro ac F
  refine Y.pv F (X.binop rfl (F.e 17 rfl) (X.kc (Vi 1) rfl) (X.addI Try.underlying3 rfl (by omega) (by omega))) ?_;clear F ac;intro ac F
  refine Y.pv F (X.move rfl (F.e 7 rfl)) ?_;clear F ac;intro ac F
  refine Y.pv F (X.binop rfl (F.e 19 rfl) (X.kc (Vi 1) rfl) (X.subI Try.underlying3 rfl (by omega) (by omega))) ?_;clear F ac;intro ac F
  refine Y.pv F (Y.bd rfl (Y.bd2 (F.e 18 rfl) (F.e 20 rfl)) (Try.bd72 _ _ _)) ?_;clear F ac;intro ac F
  obtain ⟨w16, hrun, hS2, hon⟩ := hV5.st2 (P := Try.prog) (t := 72) (x := Vi ((t : Int) + 1)) (y := Vi ((refV p t x : Int) - 1)) (fun W => Try.siz72 W) rfl rfl
  refine Y.punit F (X.w0 rfl) rfl (X.store rfl (F.e 4 rfl) (F.e 21 rfl) hrun) ?_
  clear F ac hrun
  intro ac F
  replace G := Y.Only.up G hon (by omega)
  replace hq := hq.only hon (by show ¬ _ = _; omega)
  replace hV9 := hV9.only hon (by show ¬ _ = _; omega)
  replace hC := (hC.kc hon 0 rfl (hC.kc hon 1 rfl (hC.kc hon 2 rfl (hC.kc hon 3 rfl (hC.kc hon 4 rfl (hC.kc hon 5 rfl (hC.kc hon 6 rfl (hC.kc hon 7 rfl (hC.kc hon 8 rfl (hC.kc hon 9 rfl (RCells.nil _)))))))))))
  replace hV5 := hS2
  clear hS2 hon
  refine Y.nil ?_
  replace F : Fr ac 88 [(0, Vp bq), (1, .agg #[Vi t, Vi x]), (3, Vp w.heap.size), (4, Vp w4.heap.size), (5, Vp w8.heap.size), (6, .bool false), (7, Vi (refV p t x)), (13, .bool false)] := F.sub _
  refine X.thenN ?_
  refine Y.seq ?_
  refine Y.lit (by kernel_rfl) ?_
  refine Y.pv F (X.move rfl (F.e 0 rfl)) ?_;clear F ac;intro ac F
  refine Y.pv F (Y.nilC rfl (F.e 22 rfl)) ?_;clear F ac;intro ac F
  refine Y.pv F (X.field rfl (F.e 23 rfl) (X.fld Try.underlying110 rfl (Try.siz31 _) rfl rfl)) ?_;clear F ac;intro ac F
  refine Y.pv F (X.field rfl (F.e 24 rfl) (X.fld Try.underlying31 rfl (Try.siz3 _) rfl rfl)) ?_;clear F ac;intro ac F
  refine Y.pv F (X.load rfl (F.e 25 rfl) (X.ld1 (Try.agg3 _) (hC.at 1 rfl))) ?_;clear F ac;intro ac F
  refine Y.pv F (Y.bd rfl (Y.bd2 (F.e 26 rfl) (X.kc (Vi 1) rfl)) (Try.bd69 _ _ _)) ?_;clear F ac;intro ac F
  obtain ⟨w17, hrun, hS2, hon⟩ := hV9.st2 (P := Try.prog) (t := 69) (x := Vi p.aw) (y := Vi 1) (fun W => Try.siz69 W) rfl rfl
  refine Y.punit F (X.w0 rfl) rfl (X.store rfl (F.e 5 rfl) (F.e 27 rfl) hrun) ?_
  clear F ac hrun
  intro ac F
  replace G := Y.Only.up G hon (by omega)
  replace hq := hq.only hon (by show ¬ _ = _; omega)
  replace hV5 := hV5.only hon (by show ¬ _ = _; omega)
  replace hC := (hC.kc hon 0 rfl (hC.kc hon 1 rfl (hC.kc hon 2 rfl (hC.kc hon 3 rfl (hC.kc hon 4 rfl (hC.kc hon 5 rfl (hC.kc hon 6 rfl (hC.kc hon 7 rfl (hC.kc hon 8 rfl (hC.kc hon 9 rfl (RCells.nil _)))))))))))
  replace hV9 := hS2
  clear hS2 hon
  refine Y.nil ?_
  replace F : Fr ac 88 [(0, Vp bq), (1, .agg #[Vi t, Vi x]), (3, Vp w.heap.size), (4, Vp w4.heap.size), (5, Vp w8.heap.size), (6, .bool false), (7, Vi (refV p t x)), (13, .bool false)] := F.sub _
  refine X.thenN ?_
  refine Y.seq ?_
  refine Y.seq ?_
  refine Y.lit (by kernel_rfl) ?_
  refine Y.pv F (X.field rfl (F.e 3 rfl) (X.fld Try.underlying72 rfl (Try.siz3 _) rfl rfl)) ?_;clear F ac;intro ac F
  refine Y.pv F (X.load rfl (F.e 28 rfl) (X.ld1 (Try.agg3 _) (hC.at 8 rfl))) ?_;clear F ac;intro ac F
  refine Y.pv F (X.binop rfl (F.e 29 rfl) (X.kc (Vi 1) rfl) (X.addI Try.underlying3 rfl (by omega) (by omega))) ?_;clear F ac;intro ac F
  refine Y.pv F (X.assign rfl (F.e 30 rfl)) ?_;clear F ac;intro ac F
  refine Y.nil ?_
  replace F : Fr ac 88 [(0, Vp bq), (1, .agg #[Vi t, Vi x]), (3, Vp w.heap.size), (4, Vp w4.heap.size), (5, Vp w8.heap.size), (6, .bool false), (7, Vi (refV p t x)), (8, Vi ((t : Int) + 1)), (13, .bool false)] := F.sub _
  refine X.thenN ?_
  refine Y.block ?_
  have e0_ : (t : Int) + 1 + ((0 : Nat) : Int) = t + 1 := by omega
  refine Y.loop (fun me_ ac wr => ∃ (q : Nat), me_ = p.hold.toNat + 1 - q ∧ (q : Int) ≤ wkN p t ∧ Only (fun b => b = w4.heap.size ∨ b = w8.heap.size) w17 wr ∧ OwnP wr (w4.heap.size) 2 (VL [Vi (t + 1 + (q : Nat)), Vi (wkV p t (refV p t x) q).1]) ∧ OwnP wr (w8.heap.size) 2 (VL [Vi (wkV p t (refV p t x) q).2, Vi 1]) ∧ Fr ac 88 [(0, Vp bq), (1, .agg #[Vi t, Vi x]), (3, Vp w.heap.size), (4, Vp w4.heap.size), (5, Vp w8.heap.size), (6, .bool false), (7, Vi (refV p t x)), (8, Vi ((t : Int) + 1 + (q : Nat))), (13, .bool false)]) _ ⟨0, rfl, by omega, Only.refl _ _, by rw [e0_]; exact hV5, hV9, by rw [e0_]; exact F.sub _⟩ ?_
  have hqs := hq
  have hCs := hC
  have Gs := G
  clear F hq hC G hV5 hV9 ac e0_
  intro me_ ac w18 hI_
  obtain ⟨q, rfl, hqn, hon, hV4, hV5, F⟩ := hI_
  have G : Gr w w18 := ((Gs.only (fun b => w.heap.size ≤ b)).trans (hon.mono' (fun i e => by omega))).gr (fun i hi e => by omega)
  have hq := hqs.only hon (by show ¬ (bq = w4.heap.size ∨ bq = w8.heap.size); omega)
  have hC := (RCells.cons (hon.cell (hCs.at 0 rfl) (by show ¬ (bq = w4.heap.size ∨ bq = w8.heap.size); omega)) (RCells.cons (hon.cell (hCs.at 1 rfl) (by show ¬ (bq = w4.heap.size ∨ bq = w8.heap.size); omega)) (RCells.cons (hon.cell (hCs.at 2 rfl) (by show ¬ (bq = w4.heap.size ∨ bq = w8.heap.size); omega)) (RCells.cons (hon.cell (hCs.at 3 rfl) (by show ¬ (bq = w4.heap.size ∨ bq = w8.heap.size); omega)) (RCells.cons (hon.cell (hCs.at 4 rfl) (by show ¬ (bq = w4.heap.size ∨ bq = w8.heap.size); omega)) (RCells.cons (hon.cell (hCs.at 5 rfl) (by show ¬ (bq = w4.heap.size ∨ bq = w8.heap.size); omega)) (RCells.cons (hon.cell (hCs.at 6 rfl) (by show ¬ (bq = w4.heap.size ∨ bq = w8.heap.size); omega)) (RCells.cons (hon.cell (hCs.at 7 rfl) (by show ¬ (bq = w4.heap.size ∨ bq = w8.heap.size); omega)) (RCells.cons (hon.cell (hCs.at 8 rfl) (by show ¬ (w.heap.size = w4.heap.size ∨ w.heap.size = w8.heap.size); omega)) (RCells.cons (hon.cell (hCs.at 9 rfl) (by show ¬ (w.heap.size = w4.heap.size ∨ w.heap.size = w8.heap.size); omega)) (RCells.nil _)))))))))))
  have hb4 : w4.heap.size < w18.heap.size := hV4.lt
  have hb5 : w8.heap.size < w18.heap.size := hV5.lt
  have hwb := wkV_bd2 h (t := t) (a := refV p t x) (by omega) hrb.2 q
  have hnb := wkN_hold hh0 t
  have hI := hon
  clear hon
  refine Y.seq ?_
  refine Y.seq ?_
  cases h19 : decide (((t : Int) + 1 + (q : Nat) : Int) ≤ ((t : Int) + p.hold)) with
  | false =>
   try rw [h19] at F
   have h19p : ¬ (((t : Int) + 1 + (q : Nat) : Int) ≤ ((t : Int) + p.hold)) := of_decide_eq_false h19
   have hkN := wkN_eq hh0 hqn (.inl h19p)
   refine Y.region F [some (Vi ((t : Int) + 1 + (q : Nat))), some (Vp w.heap.size), some (Vi t), some (Vp bq), some (Vp bq), some (.pointer (some ⟨bq, 5, none⟩)), some (Vi p.hold), some (Vi ((t : Int) + p.hold)), some (.bool false), some (.bool false), none, none, none, none, none, none, some (.bool false)] [] rfl ⟨by kernel_rfl, of_decide_eq_true (by kernel_rfl), by kernel_rfl, by kernel_rfl, by kernel_rfl⟩ ⟨?_, ?_, ?_, ?_, ?_, ?_, ?_, ?_, ?_, ?_, ?_, ?_, ?_, ?_, ?_, ?_, ?_, trivial⟩ ?_
   ·intro ac done u W Sx hR
    exact X.vl (X.move rfl (Sx.ev 8 (Vi ((t : Int) + 1 + (q : Nat))))) hR.st0
   ·intro ac done u W Sx hR
    exact X.vl (X.field rfl (Sx.ev 3 (Vp w.heap.size)) (X.fld Try.underlying72 rfl (Try.siz3 _) rfl rfl)) hR.st0
   ·intro ac done u W Sx hR
    have g : Gr w18 W := hR.1
    exact X.vl (X.load rfl (Sx.ev 32 (Vp w.heap.size)) (X.ld1 (Try.agg3 _) ((hC.gr g).at 8 rfl))) hR.st0
   ·intro ac done u W Sx hR
    exact X.vl (X.move rfl (Sx.ev 0 (Vp bq))) hR.st0
   ·intro ac done u W Sx hR
    exact X.vl (Y.nilC rfl (Sx.ev 34 (Vp bq))) hR.st0
   ·intro ac done u W Sx hR
    exact X.vl (X.field rfl (Sx.ev 35 (Vp bq)) (X.fld Try.underlying110 rfl (Try.siz3 _) rfl rfl)) hR.st0
   ·intro ac done u W Sx hR
    have g : Gr w18 W := hR.1
    exact X.vl (X.load rfl (Sx.ev 36 (.pointer (some ⟨bq, 5, none⟩))) (X.ld1 (Try.agg3 _) ((hC.gr g).at 5 rfl))) hR.st0
   ·intro ac done u W Sx hR
    exact X.vl (X.binop rfl (Sx.ev 33 (Vi t)) (Sx.ev 37 (Vi p.hold)) (X.addI Try.underlying3 rfl (by omega) (by omega))) hR.st0
   ·intro ac done u W Sx hR
    exact X.vl (X.binop rfl (Sx.ev 31 (Vi ((t : Int) + 1 + (q : Nat)))) (Sx.ev 38 (Vi ((t : Int) + p.hold))) (X.leqI Try.underlying3 h19)) hR.st0
   ·intro ac done u W Sx hR
    exact X.vl (X.move rfl (Sx.ev 39 (.bool false))) hR.st0
   ·intro ac done u W Sx hR
    exact X.skip (X.w2 rfl (Sx.yl 9 40 false (by kernel_rfl) rfl rfl) rfl) rfl (hR.skip rfl)
   ·intro ac done u W Sx hR
    exact X.skip (X.w2 rfl (Sx.yl 9 40 false (by kernel_rfl) rfl rfl) rfl) rfl (hR.skip rfl)
   ·intro ac done u W Sx hR
    exact X.skip (X.w2 rfl (Sx.yl 9 40 false (by kernel_rfl) rfl rfl) rfl) rfl (hR.skip rfl)
   ·intro ac done u W Sx hR
    exact X.skip (X.w2 rfl (Sx.yl 9 40 false (by kernel_rfl) rfl rfl) rfl) rfl (hR.skip rfl)
   ·intro ac done u W Sx hR
    exact X.skip (X.w2 rfl (Sx.yl 9 40 false (by kernel_rfl) rfl rfl) rfl) rfl (hR.skip rfl)
   ·intro ac done u W Sx hR
    exact X.skip (X.w2 rfl (Sx.yl 9 40 false (by kernel_rfl) rfl rfl) rfl) rfl (hR.skip rfl)
   ·intro ac done u W Sx hR
    exact X.vl (X.pickF rfl (Sx.ev 40 (.bool false)) (X.kc (.bool false) rfl)) hR.st0
   intro ac u w20 hs hd hl ho hR
   have g : Gr w18 w20 := hR.1
   replace F : Fr ac 88 [(0, Vp bq), (1, .agg #[Vi t, Vi x]), (3, Vp w.heap.size), (4, Vp w4.heap.size), (5, Vp w8.heap.size), (6, .bool false), (7, Vi (refV p t x)), (8, Vi ((t : Int) + 1 + (q : Nat))), (13, .bool false), (47, .bool false)] := X.fr hs hd hl _ (by kernel_rfl)
   clear hs hd hl ho hR
   replace G := G.trans g
   replace hC := hC.gr g
   replace hI := hI.thenGr g
   replace hq := hq.gr g
   replace hV4 := hV4.gr g
   replace hV5 := hV5.gr g
   clear g
   refine X.thenN ?_
   refine Y.condF (F.e 47 rfl) ?_
   refine Y.exit ?_
   refine X.thenX ?_
   refine X.thenX ?_
   refine X.blockX ?_
   refine X.thenN ?_
   refine Y.seq ?_
   replace hC : RCells w20 [(Ad bq 0, Vi gq), (Ad bq 1, Vi p.aw), (Ad bq 2, Vi p.za), (Ad bq 3, Vi p.bu), (Ad bq 4, Vi p.re), (Ad bq 5, Vi p.hold), (Ad bq 6, Vi p.T), (Ad bq 7, .map (some bm)), (Ad w.heap.size 0, Vi t), (Ad w.heap.size 1, Vi x), (Ad w4.heap.size 0, Vi (t + 1 + (q : Nat)))] := hC.append ((RCells.cons (hV4.cell (k := 0) (by decide)) (RCells.nil _)))
   replace hC : RCells w20 [(Ad bq 0, Vi gq), (Ad bq 1, Vi p.aw), (Ad bq 2, Vi p.za), (Ad bq 3, Vi p.bu), (Ad bq 4, Vi p.re), (Ad bq 5, Vi p.hold), (Ad bq 6, Vi p.T), (Ad bq 7, .map (some bm)), (Ad w.heap.size 0, Vi t), (Ad w.heap.size 1, Vi x), (Ad w4.heap.size 0, Vi (t + 1 + (q : Nat))), (Ad w4.heap.size 1, Vi ((wkV p t (refV p t x) q).1))] := hC.append ((RCells.cons (hV4.cell (k := 1) (by decide)) (RCells.nil _)))
   replace hC : RCells w20 [(Ad bq 0, Vi gq), (Ad bq 1, Vi p.aw), (Ad bq 2, Vi p.za), (Ad bq 3, Vi p.bu), (Ad bq 4, Vi p.re), (Ad bq 5, Vi p.hold), (Ad bq 6, Vi p.T), (Ad bq 7, .map (some bm)), (Ad w.heap.size 0, Vi t), (Ad w.heap.size 1, Vi x), (Ad w4.heap.size 0, Vi (t + 1 + (q : Nat))), (Ad w4.heap.size 1, Vi ((wkV p t (refV p t x) q).1)), (Ad w8.heap.size 0, Vi ((wkV p t (refV p t x) q).2))] := hC.append ((RCells.cons (hV5.cell (k := 0) (by decide)) (RCells.nil _)))
   replace hC : RCells w20 [(Ad bq 0, Vi gq), (Ad bq 1, Vi p.aw), (Ad bq 2, Vi p.za), (Ad bq 3, Vi p.bu), (Ad bq 4, Vi p.re), (Ad bq 5, Vi p.hold), (Ad bq 6, Vi p.T), (Ad bq 7, .map (some bm)), (Ad w.heap.size 0, Vi t), (Ad w.heap.size 1, Vi x), (Ad w4.heap.size 0, Vi (t + 1 + (q : Nat))), (Ad w4.heap.size 1, Vi ((wkV p t (refV p t x) q).1)), (Ad w8.heap.size 0, Vi ((wkV p t (refV p t x) q).2)), (Ad w8.heap.size 1, Vi 1)] := hC.append ((RCells.cons (hV5.cell (k := 1) (by decide)) (RCells.nil _)))
   refine region_xi F [some (.agg #[Vi (t + 1 + (q : Nat)), Vi ((wkV p t (refV p t x) q).1)]), some (.agg #[Vi ((wkV p t (refV p t x) q).2), Vi 1]), none, none, some (.bool true)] (RT2 w20 (w4.heap.size) 2 (w8.heap.size) 3 (VL [Vi (t + 1 + (q : Nat)), Vi ((wkV p t (refV p t x) q).1)]) (VL [Vi (t + 1 + (q : Nat)), Vi ((wkV p t (refV p t x) q).1)]) (VL [Vi ((wkV p t (refV p t x) q).2), Vi 1]) (VL [Vi ((wkV p t (refV p t x) q).2), Vi 1])) rfl ⟨by kernel_rfl, of_decide_eq_true (by kernel_rfl), by kernel_rfl, by kernel_rfl, by kernel_rfl⟩ (fun _ => ⟨RT2.start (Gr.refl _) hV4 hV5, RT2.start (Gr.drew _) hV4 hV5⟩) ⟨?_, ?_, ?_, ?_, ?_, trivial⟩ ?_
   ·intro ac done u W Sx hR
    exact X.vl (X.load rfl (Sx.ev 4 (Vp w4.heap.size)) (X.ldN (Try.agg72 _) (Try.siz72 _) (Y.atz (⟨w4.heap.size, 0, none⟩) (Y.AtFrom.cons ((hR.p1 (Sx.no 2 (by kernel_rfl))).cell (k := 0) (by decide)) (Y.AtFrom.cons ((hR.p1 (Sx.no 2 (by kernel_rfl))).cell (k := 1) (by decide)) (Y.AtFrom.nil _ _ _)))))) (hR.quiet (by decide))
   ·intro ac done u W Sx hR
    exact X.vl (X.load rfl (Sx.ev 5 (Vp w8.heap.size)) (X.ldN (Try.agg69 _) (Try.siz69 _) (Y.atz (⟨w8.heap.size, 0, none⟩) (Y.AtFrom.cons ((hR.p2 (Sx.no 3 (by kernel_rfl))).cell (k := 0) (by decide)) (Y.AtFrom.cons ((hR.p2 (Sx.no 3 (by kernel_rfl))).cell (k := 1) (by decide)) (Y.AtFrom.nil _ _ _)))))) (hR.quiet (by decide))
   ·intro ac done u W Sx hR
    obtain ⟨W2, hrun, hS2, hon⟩ := (hR.p1 Sx.nd).st2 (P := Try.prog) (t := 72) (x := Vi (t + 1 + (q : Nat))) (y := Vi ((wkV p t (refV p t x) q).1)) (fun W => Try.siz72 W) rfl rfl
    exact X.unit (X.w0 rfl) rfl (X.store rfl (Sx.ev 4 (Vp w4.heap.size)) (Sx.ev 86 (.agg #[Vi (t + 1 + (q : Nat)), Vi ((wkV p t (refV p t x) q).1)])) hrun) (hR.st1 (by decide) (by omega) hS2 hon)
   ·intro ac done u W Sx hR
    obtain ⟨W2, hrun, hS2, hon⟩ := (hR.p2 Sx.nd).st2 (P := Try.prog) (t := 69) (x := Vi ((wkV p t (refV p t x) q).2)) (y := Vi 1) (fun W => Try.siz69 W) rfl rfl
    exact X.unit (X.w0 rfl) rfl (X.store rfl (Sx.ev 5 (Vp w8.heap.size)) (Sx.ev 87 (.agg #[Vi ((wkV p t (refV p t x) q).2), Vi 1])) hrun) (hR.st2 (by decide) (by omega) hS2 hon)
   ·intro ac done u W Sx hR
    exact X.vl (X.assign rfl (X.kc (.bool true) rfl)) (hR.quiet (by decide))
   rintro ac u w21 hs hd hl_ ho hR
   replace F : Fr ac 88 [(0, Vp bq), (1, .agg #[Vi t, Vi x]), (3, Vp w.heap.size), (4, Vp w4.heap.size), (5, Vp w8.heap.size), (6, .bool true), (7, Vi (refV p t x)), (8, Vi ((t : Int) + 1 + (q : Nat))), (13, .bool false), (47, .bool false)] := X.fr hs hd hl_ _ (by kernel_rfl)
   have hon := hR.o
   replace hV4 := hR.q1 rfl
   replace hV5 := hR.q2 rfl
   replace G := ((G.only (fun b => w.heap.size ≤ b)).trans (hon.mono' (fun i e => by omega))).gr (fun i hi e => by omega)
   replace hq := hq.only hon (by show ¬ (bq = w4.heap.size ∨ bq = w8.heap.size); omega)
   replace hC := (RCells.cons (hon.cell (hC.at 0 rfl) (by show ¬ (bq = w4.heap.size ∨ bq = w8.heap.size); omega)) (RCells.cons (hon.cell (hC.at 1 rfl) (by show ¬ (bq = w4.heap.size ∨ bq = w8.heap.size); omega)) (RCells.cons (hon.cell (hC.at 2 rfl) (by show ¬ (bq = w4.heap.size ∨ bq = w8.heap.size); omega)) (RCells.cons (hon.cell (hC.at 3 rfl) (by show ¬ (bq = w4.heap.size ∨ bq = w8.heap.size); omega)) (RCells.cons (hon.cell (hC.at 4 rfl) (by show ¬ (bq = w4.heap.size ∨ bq = w8.heap.size); omega)) (RCells.cons (hon.cell (hC.at 5 rfl) (by show ¬ (bq = w4.heap.size ∨ bq = w8.heap.size); omega)) (RCells.cons (hon.cell (hC.at 6 rfl) (by show ¬ (bq = w4.heap.size ∨ bq = w8.heap.size); omega)) (RCells.cons (hon.cell (hC.at 7 rfl) (by show ¬ (bq = w4.heap.size ∨ bq = w8.heap.size); omega)) (RCells.cons (hon.cell (hC.at 8 rfl) (by show ¬ (w.heap.size = w4.heap.size ∨ w.heap.size = w8.heap.size); omega)) (RCells.cons (hon.cell (hC.at 9 rfl) (by show ¬ (w.heap.size = w4.heap.size ∨ w.heap.size = w8.heap.size); omega)) (RCells.nil _)))))))))))
   replace hI := hI.trans hon
   clear hs hd hl_ ho hR hon
   refine X.thenN ?_
   refine Y.ret ?_
   exact Y.ret0 (v := .tuple #[.agg #[Vi (t + 1 + (q : Nat)), Vi ((wkV p t (refV p t x) q).1)], .agg #[Vi ((wkV p t (refV p t x) q).2), Vi 1], .bool true]) F (Y.rcc3 F rfl (Try.agg72 _) (Try.siz72 _) (Try.agg69 _) (Try.siz69 _) (by kernel_rfl) (by kernel_rfl) (by kernel_rfl) hV4 hV5) ⟨by rw [if_neg hwk, hkN], G⟩
  | true =>
   try rw [h19] at F
   have h19p : (((t : Int) + 1 + (q : Nat) : Int) ≤ ((t : Int) + p.hold)) := of_decide_eq_true h19
   refine Y.region F [some (Vi ((t : Int) + 1 + (q : Nat))), some (Vp w.heap.size), some (Vi t), some (Vp bq), some (Vp bq), some (.pointer (some ⟨bq, 5, none⟩)), some (Vi p.hold), some (Vi ((t : Int) + p.hold)), some (.bool true), some (.bool true), some (Vi ((t : Int) + 1 + (q : Nat))), some (Vp bq), some (Vp bq), some (.pointer (some ⟨bq, 6, none⟩)), some (Vi p.T), some (.bool (decide (((t : Int) + 1 + (q : Nat) : Int) < p.T))), some (.bool (decide (((t : Int) + 1 + (q : Nat) : Int) < p.T)))] [] rfl ⟨by kernel_rfl, of_decide_eq_true (by kernel_rfl), by kernel_rfl, by kernel_rfl, by kernel_rfl⟩ ⟨?_, ?_, ?_, ?_, ?_, ?_, ?_, ?_, ?_, ?_, ?_, ?_, ?_, ?_, ?_, ?_, ?_, trivial⟩ ?_
   ·intro ac done u W Sx hR
    exact X.vl (X.move rfl (Sx.ev 8 (Vi ((t : Int) + 1 + (q : Nat))))) hR.st0
   ·intro ac done u W Sx hR
    exact X.vl (X.field rfl (Sx.ev 3 (Vp w.heap.size)) (X.fld Try.underlying72 rfl (Try.siz3 _) rfl rfl)) hR.st0
   ·intro ac done u W Sx hR
    have g : Gr w18 W := hR.1
    exact X.vl (X.load rfl (Sx.ev 32 (Vp w.heap.size)) (X.ld1 (Try.agg3 _) ((hC.gr g).at 8 rfl))) hR.st0
   ·intro ac done u W Sx hR
    exact X.vl (X.move rfl (Sx.ev 0 (Vp bq))) hR.st0
   ·intro ac done u W Sx hR
    exact X.vl (Y.nilC rfl (Sx.ev 34 (Vp bq))) hR.st0
   ·intro ac done u W Sx hR
    exact X.vl (X.field rfl (Sx.ev 35 (Vp bq)) (X.fld Try.underlying110 rfl (Try.siz3 _) rfl rfl)) hR.st0
   ·intro ac done u W Sx hR
    have g : Gr w18 W := hR.1
    exact X.vl (X.load rfl (Sx.ev 36 (.pointer (some ⟨bq, 5, none⟩))) (X.ld1 (Try.agg3 _) ((hC.gr g).at 5 rfl))) hR.st0
   ·intro ac done u W Sx hR
    exact X.vl (X.binop rfl (Sx.ev 33 (Vi t)) (Sx.ev 37 (Vi p.hold)) (X.addI Try.underlying3 rfl (by omega) (by omega))) hR.st0
   ·intro ac done u W Sx hR
    exact X.vl (X.binop rfl (Sx.ev 31 (Vi ((t : Int) + 1 + (q : Nat)))) (Sx.ev 38 (Vi ((t : Int) + p.hold))) (X.leqI Try.underlying3 h19)) hR.st0
   ·intro ac done u W Sx hR
    exact X.vl (X.move rfl (Sx.ev 39 (.bool true))) hR.st0
   ·intro ac done u W Sx hR
    exact X.val (X.w1 rfl (Sx.yl 9 40 true (by kernel_rfl) rfl rfl)) rfl (X.move rfl (Sx.ev 8 (Vi ((t : Int) + 1 + (q : Nat))))) hR.st0
   ·intro ac done u W Sx hR
    exact X.val (X.w1 rfl (Sx.yl 9 40 true (by kernel_rfl) rfl rfl)) rfl (X.move rfl (Sx.ev 0 (Vp bq))) hR.st0
   ·intro ac done u W Sx hR
    exact X.val (X.w1 rfl (Sx.yl 9 40 true (by kernel_rfl) rfl rfl)) rfl (Y.nilC rfl (Sx.ev 42 (Vp bq))) hR.st0
   ·intro ac done u W Sx hR
    exact X.val (X.w1 rfl (Sx.yl 9 40 true (by kernel_rfl) rfl rfl)) rfl (X.field rfl (Sx.ev 43 (Vp bq)) (X.fld Try.underlying110 rfl (Try.siz3 _) rfl rfl)) hR.st0
   ·intro ac done u W Sx hR
    have g : Gr w18 W := hR.1
    exact X.val (X.w1 rfl (Sx.yl 9 40 true (by kernel_rfl) rfl rfl)) rfl (X.load rfl (Sx.ev 44 (.pointer (some ⟨bq, 6, none⟩))) (X.ld1 (Try.agg3 _) ((hC.gr g).at 6 rfl))) hR.st0
   ·intro ac done u W Sx hR
    exact X.val (X.w1 rfl (Sx.yl 9 40 true (by kernel_rfl) rfl rfl)) rfl (X.binop rfl (Sx.ev 41 (Vi ((t : Int) + 1 + (q : Nat)))) (Sx.ev 45 (Vi p.T)) (X.lssI Try.underlying3 rfl)) hR.st0
   ·intro ac done u W Sx hR
    exact X.vl (X.pickT rfl (Sx.ev 40 (.bool true)) (Sx.ev 46 (.bool (decide (((t : Int) + 1 + (q : Nat) : Int) < p.T))))) hR.st0
   intro ac u w22 hs hd hl ho hR
   have g : Gr w18 w22 := hR.1
   replace F : Fr ac 88 [(0, Vp bq), (1, .agg #[Vi t, Vi x]), (3, Vp w.heap.size), (4, Vp w4.heap.size), (5, Vp w8.heap.size), (6, .bool false), (7, Vi (refV p t x)), (8, Vi ((t : Int) + 1 + (q : Nat))), (13, .bool false), (47, .bool (decide (((t : Int) + 1 + (q : Nat) : Int) < p.T)))] := X.fr hs hd hl _ (by kernel_rfl)
   clear hs hd hl ho hR
   replace G := G.trans g
   replace hC := hC.gr g
   replace hI := hI.thenGr g
   replace hq := hq.gr g
   replace hV4 := hV4.gr g
   replace hV5 := hV5.gr g
   clear g
   refine X.thenN ?_
   cases h23 : decide (((t : Int) + 1 + (q : Nat) : Int) < p.T) with
   | false =>
    try rw [h23] at F
    have h23p : ¬ (((t : Int) + 1 + (q : Nat) : Int) < p.T) := of_decide_eq_false h23
    have hkN := wkN_eq hh0 hqn (.inr h23p)
    refine Y.condF (F.e 47 rfl) ?_
    refine Y.exit ?_
    refine X.thenX ?_
    refine X.thenX ?_
    refine X.blockX ?_
    refine X.thenN ?_
    refine Y.seq ?_
    replace hC : RCells w22 [(Ad bq 0, Vi gq), (Ad bq 1, Vi p.aw), (Ad bq 2, Vi p.za), (Ad bq 3, Vi p.bu), (Ad bq 4, Vi p.re), (Ad bq 5, Vi p.hold), (Ad bq 6, Vi p.T), (Ad bq 7, .map (some bm)), (Ad w.heap.size 0, Vi t), (Ad w.heap.size 1, Vi x), (Ad w4.heap.size 0, Vi (t + 1 + (q : Nat)))] := hC.append ((RCells.cons (hV4.cell (k := 0) (by decide)) (RCells.nil _)))
    replace hC : RCells w22 [(Ad bq 0, Vi gq), (Ad bq 1, Vi p.aw), (Ad bq 2, Vi p.za), (Ad bq 3, Vi p.bu), (Ad bq 4, Vi p.re), (Ad bq 5, Vi p.hold), (Ad bq 6, Vi p.T), (Ad bq 7, .map (some bm)), (Ad w.heap.size 0, Vi t), (Ad w.heap.size 1, Vi x), (Ad w4.heap.size 0, Vi (t + 1 + (q : Nat))), (Ad w4.heap.size 1, Vi ((wkV p t (refV p t x) q).1))] := hC.append ((RCells.cons (hV4.cell (k := 1) (by decide)) (RCells.nil _)))
    replace hC : RCells w22 [(Ad bq 0, Vi gq), (Ad bq 1, Vi p.aw), (Ad bq 2, Vi p.za), (Ad bq 3, Vi p.bu), (Ad bq 4, Vi p.re), (Ad bq 5, Vi p.hold), (Ad bq 6, Vi p.T), (Ad bq 7, .map (some bm)), (Ad w.heap.size 0, Vi t), (Ad w.heap.size 1, Vi x), (Ad w4.heap.size 0, Vi (t + 1 + (q : Nat))), (Ad w4.heap.size 1, Vi ((wkV p t (refV p t x) q).1)), (Ad w8.heap.size 0, Vi ((wkV p t (refV p t x) q).2))] := hC.append ((RCells.cons (hV5.cell (k := 0) (by decide)) (RCells.nil _)))
    replace hC : RCells w22 [(Ad bq 0, Vi gq), (Ad bq 1, Vi p.aw), (Ad bq 2, Vi p.za), (Ad bq 3, Vi p.bu), (Ad bq 4, Vi p.re), (Ad bq 5, Vi p.hold), (Ad bq 6, Vi p.T), (Ad bq 7, .map (some bm)), (Ad w.heap.size 0, Vi t), (Ad w.heap.size 1, Vi x), (Ad w4.heap.size 0, Vi (t + 1 + (q : Nat))), (Ad w4.heap.size 1, Vi ((wkV p t (refV p t x) q).1)), (Ad w8.heap.size 0, Vi ((wkV p t (refV p t x) q).2)), (Ad w8.heap.size 1, Vi 1)] := hC.append ((RCells.cons (hV5.cell (k := 1) (by decide)) (RCells.nil _)))
    refine region_xi F [some (.agg #[Vi (t + 1 + (q : Nat)), Vi ((wkV p t (refV p t x) q).1)]), some (.agg #[Vi ((wkV p t (refV p t x) q).2), Vi 1]), none, none, some (.bool true)] (RT2 w22 (w4.heap.size) 2 (w8.heap.size) 3 (VL [Vi (t + 1 + (q : Nat)), Vi ((wkV p t (refV p t x) q).1)]) (VL [Vi (t + 1 + (q : Nat)), Vi ((wkV p t (refV p t x) q).1)]) (VL [Vi ((wkV p t (refV p t x) q).2), Vi 1]) (VL [Vi ((wkV p t (refV p t x) q).2), Vi 1])) rfl ⟨by kernel_rfl, of_decide_eq_true (by kernel_rfl), by kernel_rfl, by kernel_rfl, by kernel_rfl⟩ (fun _ => ⟨RT2.start (Gr.refl _) hV4 hV5, RT2.start (Gr.drew _) hV4 hV5⟩) ⟨?_, ?_, ?_, ?_, ?_, trivial⟩ ?_
    ·intro ac done u W Sx hR
     exact X.vl (X.load rfl (Sx.ev 4 (Vp w4.heap.size)) (X.ldN (Try.agg72 _) (Try.siz72 _) (Y.atz (⟨w4.heap.size, 0, none⟩) (Y.AtFrom.cons ((hR.p1 (Sx.no 2 (by kernel_rfl))).cell (k := 0) (by decide)) (Y.AtFrom.cons ((hR.p1 (Sx.no 2 (by kernel_rfl))).cell (k := 1) (by decide)) (Y.AtFrom.nil _ _ _)))))) (hR.quiet (by decide))
    ·intro ac done u W Sx hR
     exact X.vl (X.load rfl (Sx.ev 5 (Vp w8.heap.size)) (X.ldN (Try.agg69 _) (Try.siz69 _) (Y.atz (⟨w8.heap.size, 0, none⟩) (Y.AtFrom.cons ((hR.p2 (Sx.no 3 (by kernel_rfl))).cell (k := 0) (by decide)) (Y.AtFrom.cons ((hR.p2 (Sx.no 3 (by kernel_rfl))).cell (k := 1) (by decide)) (Y.AtFrom.nil _ _ _)))))) (hR.quiet (by decide))
    ·intro ac done u W Sx hR
     obtain ⟨W2, hrun, hS2, hon⟩ := (hR.p1 Sx.nd).st2 (P := Try.prog) (t := 72) (x := Vi (t + 1 + (q : Nat))) (y := Vi ((wkV p t (refV p t x) q).1)) (fun W => Try.siz72 W) rfl rfl
     exact X.unit (X.w0 rfl) rfl (X.store rfl (Sx.ev 4 (Vp w4.heap.size)) (Sx.ev 86 (.agg #[Vi (t + 1 + (q : Nat)), Vi ((wkV p t (refV p t x) q).1)])) hrun) (hR.st1 (by decide) (by omega) hS2 hon)
    ·intro ac done u W Sx hR
     obtain ⟨W2, hrun, hS2, hon⟩ := (hR.p2 Sx.nd).st2 (P := Try.prog) (t := 69) (x := Vi ((wkV p t (refV p t x) q).2)) (y := Vi 1) (fun W => Try.siz69 W) rfl rfl
     exact X.unit (X.w0 rfl) rfl (X.store rfl (Sx.ev 5 (Vp w8.heap.size)) (Sx.ev 87 (.agg #[Vi ((wkV p t (refV p t x) q).2), Vi 1])) hrun) (hR.st2 (by decide) (by omega) hS2 hon)
    ·intro ac done u W Sx hR
     exact X.vl (X.assign rfl (X.kc (.bool true) rfl)) (hR.quiet (by decide))
    rintro ac u w24 hs hd hl_ ho hR
    replace F : Fr ac 88 [(0, Vp bq), (1, .agg #[Vi t, Vi x]), (3, Vp w.heap.size), (4, Vp w4.heap.size), (5, Vp w8.heap.size), (6, .bool true), (7, Vi (refV p t x)), (8, Vi ((t : Int) + 1 + (q : Nat))), (13, .bool false), (47, .bool false)] := X.fr hs hd hl_ _ (by kernel_rfl)
    have hon := hR.o
    replace hV4 := hR.q1 rfl
    replace hV5 := hR.q2 rfl
    replace G := ((G.only (fun b => w.heap.size ≤ b)).trans (hon.mono' (fun i e => by omega))).gr (fun i hi e => by omega)
    replace hq := hq.only hon (by show ¬ (bq = w4.heap.size ∨ bq = w8.heap.size); omega)
    replace hC := (RCells.cons (hon.cell (hC.at 0 rfl) (by show ¬ (bq = w4.heap.size ∨ bq = w8.heap.size); omega)) (RCells.cons (hon.cell (hC.at 1 rfl) (by show ¬ (bq = w4.heap.size ∨ bq = w8.heap.size); omega)) (RCells.cons (hon.cell (hC.at 2 rfl) (by show ¬ (bq = w4.heap.size ∨ bq = w8.heap.size); omega)) (RCells.cons (hon.cell (hC.at 3 rfl) (by show ¬ (bq = w4.heap.size ∨ bq = w8.heap.size); omega)) (RCells.cons (hon.cell (hC.at 4 rfl) (by show ¬ (bq = w4.heap.size ∨ bq = w8.heap.size); omega)) (RCells.cons (hon.cell (hC.at 5 rfl) (by show ¬ (bq = w4.heap.size ∨ bq = w8.heap.size); omega)) (RCells.cons (hon.cell (hC.at 6 rfl) (by show ¬ (bq = w4.heap.size ∨ bq = w8.heap.size); omega)) (RCells.cons (hon.cell (hC.at 7 rfl) (by show ¬ (bq = w4.heap.size ∨ bq = w8.heap.size); omega)) (RCells.cons (hon.cell (hC.at 8 rfl) (by show ¬ (w.heap.size = w4.heap.size ∨ w.heap.size = w8.heap.size); omega)) (RCells.cons (hon.cell (hC.at 9 rfl) (by show ¬ (w.heap.size = w4.heap.size ∨ w.heap.size = w8.heap.size); omega)) (RCells.nil _)))))))))))
    replace hI := hI.trans hon
    clear hs hd hl_ ho hR hon
    refine X.thenN ?_
    refine Y.ret ?_
    exact Y.ret0 (v := .tuple #[.agg #[Vi (t + 1 + (q : Nat)), Vi ((wkV p t (refV p t x) q).1)], .agg #[Vi ((wkV p t (refV p t x) q).2), Vi 1], .bool true]) F (Y.rcc3 F rfl (Try.agg72 _) (Try.siz72 _) (Try.agg69 _) (Try.siz69 _) (by kernel_rfl) (by kernel_rfl) (by kernel_rfl) hV4 hV5) ⟨by rw [if_neg hwk, hkN], G⟩
   | true =>
    try rw [h23] at F
    have h23p : (((t : Int) + 1 + (q : Nat) : Int) < p.T) := of_decide_eq_true h23
    refine Y.condT (F.e 47 rfl) ?_
    refine Y.skip ?_
    refine X.thenN ?_
    refine Y.seq ?_
    refine Y.block ?_
    refine Y.seq ?_
    refine Y.lit (by kernel_rfl) ?_
    refine Y.pv F (X.move rfl (F.e 8 rfl)) ?_;clear F ac;intro ac F
    refine Y.pv F (X.binop rfl (F.e 50 rfl) (X.kc (Vi 1) rfl) (X.addI Try.underlying3 rfl (by omega) (by omega))) ?_;clear F ac;intro ac F
    refine Y.pv F (X.move rfl (F.e 0 rfl)) ?_;clear F ac;intro ac F
    refine Y.pv F (X.move rfl (F.e 8 rfl)) ?_;clear F ac;intro ac F
    refine Y.pv F (X.field rfl (F.e 4 rfl) (X.fld Try.underlying72 rfl (Try.siz3 _) rfl rfl)) ?_;clear F ac;intro ac F
    replace hC : RCells w22 [(Ad bq 0, Vi gq), (Ad bq 1, Vi p.aw), (Ad bq 2, Vi p.za), (Ad bq 3, Vi p.bu), (Ad bq 4, Vi p.re), (Ad bq 5, Vi p.hold), (Ad bq 6, Vi p.T), (Ad bq 7, .map (some bm)), (Ad w.heap.size 0, Vi t), (Ad w.heap.size 1, Vi x), (Ad w4.heap.size 1, Vi ((wkV p t (refV p t x) q).1))] := hC.append ((RCells.cons (hV4.cell (k := 1) (by decide)) (RCells.nil _)))
    refine Y.pv F (X.load rfl (F.e 54 rfl) (X.ld1 (Try.agg3 _) (hC.at 10 rfl))) ?_;clear F ac;intro ac F
    refine Y.pv F (Y.bd rfl (Y.bd2 (F.e 53 rfl) (F.e 55 rfl)) (Try.bd72 _ _ _)) ?_;clear F ac;intro ac F
    refine Y.pcall F (X.w0 rfl) rfl (X.enter (F := 77) rfl (X.kc (.func (.func 77) #[] #[]) rfl) (X.a2 (F.e 52 rfl) (F.e 56 rfl)) (enters_of Try.func77 (by kernel_rfl) rfl _)) (refilled_any bq bm gq p ((t : Int) + 1 + (q : Nat)) ((wkV p t (refV p t x) q).1) w22 hq h (by omega) (by omega)) ?_
    clear F ac
    rintro e w25 ⟨rfl, g⟩
    refine ⟨_, rfl, ?_⟩
    intro ac F
    replace G := G.trans g
    replace hC := hC.gr g
    replace hI := hI.thenGr g
    replace hq := hq.gr g
    replace hV4 := hV4.gr g
    replace hV5 := hV5.gr g
    clear g
    refine Y.pv F (Y.bd rfl (Y.bd2 (F.e 51 rfl) (F.e 57 rfl)) (Try.bd72 _ _ _)) ?_;clear F ac;intro ac F
    obtain ⟨w26, hrun, hS2, hon⟩ := hV4.st2 (P := Try.prog) (t := 72) (x := Vi (((t : Int) + 1 + (q : Nat) : Int) + 1)) (y := Vi (refV p ((t : Int) + 1 + (q : Nat)) ((wkV p t (refV p t x) q).1))) (fun W => Try.siz72 W) rfl rfl
    refine Y.punit F (X.w0 rfl) rfl (X.store rfl (F.e 4 rfl) (F.e 58 rfl) hrun) ?_
    clear F ac hrun
    intro ac F
    replace G := Y.Only.up G hon (by omega)
    replace hq := hq.only hon (by show ¬ _ = _; omega)
    replace hV5 := hV5.only hon (by show ¬ _ = _; omega)
    replace hC := (hC.kc hon 0 rfl (hC.kc hon 1 rfl (hC.kc hon 2 rfl (hC.kc hon 3 rfl (hC.kc hon 4 rfl (hC.kc hon 5 rfl (hC.kc hon 6 rfl (hC.kc hon 7 rfl (hC.kc hon 8 rfl (hC.kc hon 9 rfl (RCells.nil _)))))))))))
    replace hI := hI.step hon (.inl (.inl rfl))
    replace hV4 := hS2
    clear hS2 hon
    refine Y.nil ?_
    replace F : Fr ac 88 [(0, Vp bq), (1, .agg #[Vi t, Vi x]), (3, Vp w.heap.size), (4, Vp w4.heap.size), (5, Vp w8.heap.size), (6, .bool false), (7, Vi (refV p t x)), (8, Vi ((t : Int) + 1 + (q : Nat))), (13, .bool false), (47, .bool true)] := F.sub _
    refine X.thenN ?_
    refine Y.seq ?_
    refine Y.region F [some (Vi ((t : Int) + 1 + (q : Nat))), some (Vp w.heap.size), some (Vi t), some (Vp bq), some (Vp bq), some (.pointer (some ⟨bq, 5, none⟩)), some (Vi p.hold), some (Vi ((t : Int) + p.hold)), some (.bool (decide (((t : Int) + 1 + (q : Nat) : Int) < ((t : Int) + p.hold))))] [] rfl ⟨by kernel_rfl, of_decide_eq_true (by kernel_rfl), by kernel_rfl, by kernel_rfl, by kernel_rfl⟩ ⟨?_, ?_, ?_, ?_, ?_, ?_, ?_, ?_, ?_, trivial⟩ ?_
    ·intro ac done u W Sx hR
     exact X.vl (X.move rfl (Sx.ev 8 (Vi ((t : Int) + 1 + (q : Nat))))) hR.st0
    ·intro ac done u W Sx hR
     exact X.vl (X.field rfl (Sx.ev 3 (Vp w.heap.size)) (X.fld Try.underlying72 rfl (Try.siz3 _) rfl rfl)) hR.st0
    ·intro ac done u W Sx hR
     have g : Gr w26 W := hR.1
     exact X.vl (X.load rfl (Sx.ev 60 (Vp w.heap.size)) (X.ld1 (Try.agg3 _) ((hC.gr g).at 8 rfl))) hR.st0
    ·intro ac done u W Sx hR
     exact X.vl (X.move rfl (Sx.ev 0 (Vp bq))) hR.st0
    ·intro ac done u W Sx hR
     exact X.vl (Y.nilC rfl (Sx.ev 62 (Vp bq))) hR.st0
    ·intro ac done u W Sx hR
     exact X.vl (X.field rfl (Sx.ev 63 (Vp bq)) (X.fld Try.underlying110 rfl (Try.siz3 _) rfl rfl)) hR.st0
    ·intro ac done u W Sx hR
     have g : Gr w26 W := hR.1
     exact X.vl (X.load rfl (Sx.ev 64 (.pointer (some ⟨bq, 5, none⟩))) (X.ld1 (Try.agg3 _) ((hC.gr g).at 5 rfl))) hR.st0
    ·intro ac done u W Sx hR
     exact X.vl (X.binop rfl (Sx.ev 61 (Vi t)) (Sx.ev 65 (Vi p.hold)) (X.addI Try.underlying3 rfl (by omega) (by omega))) hR.st0
    ·intro ac done u W Sx hR
     exact X.vl (X.binop rfl (Sx.ev 59 (Vi ((t : Int) + 1 + (q : Nat)))) (Sx.ev 66 (Vi ((t : Int) + p.hold))) (X.lssI Try.underlying3 rfl)) hR.st0
    intro ac u w27 hs hd hl ho hR
    have g : Gr w26 w27 := hR.1
    replace F : Fr ac 88 [(0, Vp bq), (1, .agg #[Vi t, Vi x]), (3, Vp w.heap.size), (4, Vp w4.heap.size), (5, Vp w8.heap.size), (6, .bool false), (7, Vi (refV p t x)), (8, Vi ((t : Int) + 1 + (q : Nat))), (13, .bool false), (47, .bool true), (67, .bool (decide (((t : Int) + 1 + (q : Nat) : Int) < ((t : Int) + p.hold))))] := X.fr hs hd hl _ (by kernel_rfl)
    clear hs hd hl ho hR
    replace G := G.trans g
    replace hC := hC.gr g
    replace hI := hI.thenGr g
    replace hq := hq.gr g
    replace hV4 := hV4.gr g
    replace hV5 := hV5.gr g
    clear g
    refine X.thenN ?_
    cases h28 : decide (((t : Int) + 1 + (q : Nat) : Int) < ((t : Int) + p.hold)) with
    | false =>
     try rw [h28] at F
     have h28p : ¬ (((t : Int) + 1 + (q : Nat) : Int) < ((t : Int) + p.hold)) := of_decide_eq_false h28
     refine Y.condF (F.e 67 rfl) ?_
     replace hC : RCells w27 [(Ad bq 0, Vi gq), (Ad bq 1, Vi p.aw), (Ad bq 2, Vi p.za), (Ad bq 3, Vi p.bu), (Ad bq 4, Vi p.re), (Ad bq 5, Vi p.hold), (Ad bq 6, Vi p.T), (Ad bq 7, .map (some bm)), (Ad w.heap.size 0, Vi t), (Ad w.heap.size 1, Vi x), (Ad w8.heap.size 0, Vi ((wkV p t (refV p t x) q).2))] := hC.append ((RCells.cons (hV5.cell (k := 0) (by decide)) (RCells.nil _)))
     refine Y.regionS F [some (Vp w8.heap.size), some (Vi ((wkV p t (refV p t x) q).2)), some (Vp bq), some (Vp bq), some (Vp bq), some (.pointer (some ⟨bq, 2, none⟩)), some (Vi p.za), some (Vi (((wkV p t (refV p t x) q).2 : Int) + p.za)), some (Vp w8.heap.size), none] [] 9 (fun _ W => Only (fun x => x = w8.heap.size) w27 W ∧ OwnP W (w8.heap.size) 2 (VL [Vi (((wkV p t (refV p t x) q).2 : Int) + p.za), Vi 1])) rfl ⟨by kernel_rfl, of_decide_eq_true (by kernel_rfl), by kernel_rfl, by kernel_rfl, by kernel_rfl⟩ (of_decide_eq_true (by kernel_rfl)) ⟨?_, ?_, ?_, ?_, ?_, ?_, ?_, ?_, ?_, ?_, trivial⟩ ?_
     ·intro ac done u W Sx hT
      have hs := Sx.no 9 (by kernel_rfl)
      have hR := hT.1 hs
      exact X.vl (X.field rfl (Sx.ev 5 (Vp w8.heap.size)) (X.fld Try.underlying69 rfl (Try.siz3 _) rfl rfl)) (Y.RT.of hs rfl hR.st0)
     ·intro ac done u W Sx hT
      have hs := Sx.no 9 (by kernel_rfl)
      have hR := hT.1 hs
      have g : Gr w27 W := hR.1
      exact X.vl (X.load rfl (Sx.ev 77 (Vp w8.heap.size)) (X.ld1 (Try.agg3 _) ((hC.gr g).at 10 rfl))) (Y.RT.of hs rfl hR.st0)
     ·intro ac done u W Sx hT
      have hs := Sx.no 9 (by kernel_rfl)
      have hR := hT.1 hs
      exact X.vl (X.move rfl (Sx.ev 0 (Vp bq))) (Y.RT.of hs rfl hR.st0)
     ·intro ac done u W Sx hT
      have hs := Sx.no 9 (by kernel_rfl)
      have hR := hT.1 hs
      exact X.vl (Y.nilC rfl (Sx.ev 79 (Vp bq))) (Y.RT.of hs rfl hR.st0)
     ·intro ac done u W Sx hT
      have hs := Sx.no 9 (by kernel_rfl)
      have hR := hT.1 hs
      exact X.vl (X.field rfl (Sx.ev 80 (Vp bq)) (X.fld Try.underlying110 rfl (Try.siz31 _) rfl rfl)) (Y.RT.of hs rfl hR.st0)
     ·intro ac done u W Sx hT
      have hs := Sx.no 9 (by kernel_rfl)
      have hR := hT.1 hs
      exact X.vl (X.field rfl (Sx.ev 81 (Vp bq)) (X.fld Try.underlying31 rfl (Try.siz3 _) rfl rfl)) (Y.RT.of hs rfl hR.st0)
     ·intro ac done u W Sx hT
      have hs := Sx.no 9 (by kernel_rfl)
      have hR := hT.1 hs
      have g : Gr w27 W := hR.1
      exact X.vl (X.load rfl (Sx.ev 82 (.pointer (some ⟨bq, 2, none⟩))) (X.ld1 (Try.agg3 _) ((hC.gr g).at 2 rfl))) (Y.RT.of hs rfl hR.st0)
     ·intro ac done u W Sx hT
      have hs := Sx.no 9 (by kernel_rfl)
      have hR := hT.1 hs
      exact X.vl (X.binop rfl (Sx.ev 78 (Vi ((wkV p t (refV p t x) q).2))) (Sx.ev 83 (Vi p.za)) (X.addI Try.underlying3 rfl (by omega) (by omega))) (Y.RT.of hs rfl hR.st0)
     ·intro ac done u W Sx hT
      have hs := Sx.no 9 (by kernel_rfl)
      have hR := hT.1 hs
      exact X.vl (X.field rfl (Sx.ev 5 (Vp w8.heap.size)) (X.fld Try.underlying69 rfl (Try.siz3 _) rfl rfl)) (Y.RT.of hs rfl hR.st0)
     ·intro ac done u W Sx hT
      have hR := hT.1 Sx.nd
      have g : Gr w27 W := hR.1
      have hS2 := ((hV5.gr g).set (k := 0) (Vi (((wkV p t (refV p t x) q).2 : Int) + p.za))).congr (VL_set0 _ _ _)
      exact X.unit (X.w0 rfl) rfl (X.store rfl (Sx.ev 85 (Vp w8.heap.size)) (Sx.ev 84 (Vi (((wkV p t (refV p t x) q).2 : Int) + p.za))) ((hV5.gr g).st1 (Try.siz3 _) rfl rfl (by decide))) (Y.RT.fin ⟨(g.only _).trans (Y.set_only _ _ _ _), hS2⟩)
     rintro ac u w29 hs hd hl_ ho ⟨hon, hS2⟩
     replace F : Fr ac 88 [(0, Vp bq), (1, .agg #[Vi t, Vi x]), (3, Vp w.heap.size), (4, Vp w4.heap.size), (5, Vp w8.heap.size), (6, .bool false), (7, Vi (refV p t x)), (8, Vi ((t : Int) + 1 + (q : Nat))), (13, .bool false), (47, .bool true), (67, .bool false)] := X.fr hs hd hl_ _ (by kernel_rfl)
     clear hs hd hl_ ho
     replace G := Y.Only.up G hon (by omega)
     replace hq := hq.only hon (by show ¬ bq = w8.heap.size; omega)
     replace hV4 := hV4.only hon (by show ¬ w4.heap.size = w8.heap.size; omega)
     replace hV5 := hS2
     replace hC := (hC.kc hon 0 rfl (hC.kc hon 1 rfl (hC.kc hon 2 rfl (hC.kc hon 3 rfl (hC.kc hon 4 rfl (hC.kc hon 5 rfl (hC.kc hon 6 rfl (hC.kc hon 7 rfl (hC.kc hon 8 rfl (hC.kc hon 9 rfl (RCells.nil _)))))))))))
     replace hI := hI.step hon (.inl (.inr rfl))
     clear hon hS2
     refine X.blockN ?_
     refine X.thenN ?_
     refine Y.lit (by kernel_rfl) ?_
     refine Y.pv F (X.move rfl (F.e 8 rfl)) ?_;clear F ac;intro ac F
     refine Y.pv F (X.binop rfl (F.e 48 rfl) (X.kc (Vi 1) rfl) (X.addI Try.underlying3 rfl (by omega) (by omega))) ?_;clear F ac;intro ac F
     refine Y.pv F (X.assign rfl (F.e 49 rfl)) ?_;clear F ac;intro ac F
     refine Y.nil ?_
     replace F : Fr ac 88 [(0, Vp bq), (1, .agg #[Vi t, Vi x]), (3, Vp w.heap.size), (4, Vp w4.heap.size), (5, Vp w8.heap.size), (6, .bool false), (7, Vi (refV p t x)), (8, Vi (((t : Int) + 1 + (q : Nat) : Int) + 1)), (13, .bool false), (47, .bool true), (67, .bool false)] := F.sub _
     refine X.thenN ?_
     refine ⟨_, ?_, q + 1, rfl, wkN_lt h19p h23p, hI, (by rw [show (t : Int) + 1 + ((q + 1 : Nat) : Int) = t + 1 + (q : Nat) + 1 by omega]; exact hV4), (by show OwnP _ _ 2 (VL [Vi ((wkV p t (refV p t x) q).2 + (if t + 1 + (q : Nat) < t + p.hold then p.aw else p.za)), _]); rw [if_neg (by omega)]; exact hV5), (by rw [show (t : Int) + 1 + ((q + 1 : Nat) : Int) = t + 1 + (q : Nat) + 1 by omega]; exact F.sub _)⟩
     omega
    | true =>
     try rw [h28] at F
     have h28p : (((t : Int) + 1 + (q : Nat) : Int) < ((t : Int) + p.hold)) := of_decide_eq_true h28
     refine Y.condT (F.e 67 rfl) ?_
     replace hC : RCells w27 [(Ad bq 0, Vi gq), (Ad bq 1, Vi p.aw), (Ad bq 2, Vi p.za), (Ad bq 3, Vi p.bu), (Ad bq 4, Vi p.re), (Ad bq 5, Vi p.hold), (Ad bq 6, Vi p.T), (Ad bq 7, .map (some bm)), (Ad w.heap.size 0, Vi t), (Ad w.heap.size 1, Vi x), (Ad w8.heap.size 0, Vi ((wkV p t (refV p t x) q).2))] := hC.append ((RCells.cons (hV5.cell (k := 0) (by decide)) (RCells.nil _)))
     refine Y.regionS F [some (Vp w8.heap.size), some (Vi ((wkV p t (refV p t x) q).2)), some (Vp bq), some (Vp bq), some (Vp bq), some (.pointer (some ⟨bq, 1, none⟩)), some (Vi p.aw), some (Vi (((wkV p t (refV p t x) q).2 : Int) + p.aw)), some (Vp w8.heap.size), none] [] 9 (fun _ W => Only (fun x => x = w8.heap.size) w27 W ∧ OwnP W (w8.heap.size) 2 (VL [Vi (((wkV p t (refV p t x) q).2 : Int) + p.aw), Vi 1])) rfl ⟨by kernel_rfl, of_decide_eq_true (by kernel_rfl), by kernel_rfl, by kernel_rfl, by kernel_rfl⟩ (of_decide_eq_true (by kernel_rfl)) ⟨?_, ?_, ?_, ?_, ?_, ?_, ?_, ?_, ?_, ?_, trivial⟩ ?_
     ·intro ac done u W Sx hT
      have hs := Sx.no 9 (by kernel_rfl)
      have hR := hT.1 hs
      exact X.vl (X.field rfl (Sx.ev 5 (Vp w8.heap.size)) (X.fld Try.underlying69 rfl (Try.siz3 _) rfl rfl)) (Y.RT.of hs rfl hR.st0)
     ·intro ac done u W Sx hT
      have hs := Sx.no 9 (by kernel_rfl)
      have hR := hT.1 hs
      have g : Gr w27 W := hR.1
      exact X.vl (X.load rfl (Sx.ev 68 (Vp w8.heap.size)) (X.ld1 (Try.agg3 _) ((hC.gr g).at 10 rfl))) (Y.RT.of hs rfl hR.st0)
     ·intro ac done u W Sx hT
      have hs := Sx.no 9 (by kernel_rfl)
      have hR := hT.1 hs
      exact X.vl (X.move rfl (Sx.ev 0 (Vp bq))) (Y.RT.of hs rfl hR.st0)
     ·intro ac done u W Sx hT
      have hs := Sx.no 9 (by kernel_rfl)
      have hR := hT.1 hs
      exact X.vl (Y.nilC rfl (Sx.ev 70 (Vp bq))) (Y.RT.of hs rfl hR.st0)
     ·intro ac done u W Sx hT
      have hs := Sx.no 9 (by kernel_rfl)
      have hR := hT.1 hs
      exact X.vl (X.field rfl (Sx.ev 71 (Vp bq)) (X.fld Try.underlying110 rfl (Try.siz31 _) rfl rfl)) (Y.RT.of hs rfl hR.st0)
     ·intro ac done u W Sx hT
      have hs := Sx.no 9 (by kernel_rfl)
      have hR := hT.1 hs
      exact X.vl (X.field rfl (Sx.ev 72 (Vp bq)) (X.fld Try.underlying31 rfl (Try.siz3 _) rfl rfl)) (Y.RT.of hs rfl hR.st0)
     ·intro ac done u W Sx hT
      have hs := Sx.no 9 (by kernel_rfl)
      have hR := hT.1 hs
      have g : Gr w27 W := hR.1
      exact X.vl (X.load rfl (Sx.ev 73 (.pointer (some ⟨bq, 1, none⟩))) (X.ld1 (Try.agg3 _) ((hC.gr g).at 1 rfl))) (Y.RT.of hs rfl hR.st0)
     ·intro ac done u W Sx hT
      have hs := Sx.no 9 (by kernel_rfl)
      have hR := hT.1 hs
      exact X.vl (X.binop rfl (Sx.ev 69 (Vi ((wkV p t (refV p t x) q).2))) (Sx.ev 74 (Vi p.aw)) (X.addI Try.underlying3 rfl (by omega) (by omega))) (Y.RT.of hs rfl hR.st0)
     ·intro ac done u W Sx hT
      have hs := Sx.no 9 (by kernel_rfl)
      have hR := hT.1 hs
      exact X.vl (X.field rfl (Sx.ev 5 (Vp w8.heap.size)) (X.fld Try.underlying69 rfl (Try.siz3 _) rfl rfl)) (Y.RT.of hs rfl hR.st0)
     ·intro ac done u W Sx hT
      have hR := hT.1 Sx.nd
      have g : Gr w27 W := hR.1
      have hS2 := ((hV5.gr g).set (k := 0) (Vi (((wkV p t (refV p t x) q).2 : Int) + p.aw))).congr (VL_set0 _ _ _)
      exact X.unit (X.w0 rfl) rfl (X.store rfl (Sx.ev 76 (Vp w8.heap.size)) (Sx.ev 75 (Vi (((wkV p t (refV p t x) q).2 : Int) + p.aw))) ((hV5.gr g).st1 (Try.siz3 _) rfl rfl (by decide))) (Y.RT.fin ⟨(g.only _).trans (Y.set_only _ _ _ _), hS2⟩)
     rintro ac u w30 hs hd hl_ ho ⟨hon, hS2⟩
     replace F : Fr ac 88 [(0, Vp bq), (1, .agg #[Vi t, Vi x]), (3, Vp w.heap.size), (4, Vp w4.heap.size), (5, Vp w8.heap.size), (6, .bool false), (7, Vi (refV p t x)), (8, Vi ((t : Int) + 1 + (q : Nat))), (13, .bool false), (47, .bool true), (67, .bool true)] := X.fr hs hd hl_ _ (by kernel_rfl)
     clear hs hd hl_ ho
     replace G := Y.Only.up G hon (by omega)
     replace hq := hq.only hon (by show ¬ bq = w8.heap.size; omega)
     replace hV4 := hV4.only hon (by show ¬ w4.heap.size = w8.heap.size; omega)
     replace hV5 := hS2
     replace hC := (hC.kc hon 0 rfl (hC.kc hon 1 rfl (hC.kc hon 2 rfl (hC.kc hon 3 rfl (hC.kc hon 4 rfl (hC.kc hon 5 rfl (hC.kc hon 6 rfl (hC.kc hon 7 rfl (hC.kc hon 8 rfl (hC.kc hon 9 rfl (RCells.nil _)))))))))))
     replace hI := hI.step hon (.inl (.inr rfl))
     clear hon hS2
     refine X.blockN ?_
     refine X.thenN ?_
     refine Y.lit (by kernel_rfl) ?_
     refine Y.pv F (X.move rfl (F.e 8 rfl)) ?_;clear F ac;intro ac F
     refine Y.pv F (X.binop rfl (F.e 48 rfl) (X.kc (Vi 1) rfl) (X.addI Try.underlying3 rfl (by omega) (by omega))) ?_;clear F ac;intro ac F
     refine Y.pv F (X.assign rfl (F.e 49 rfl)) ?_;clear F ac;intro ac F
     refine Y.nil ?_
     replace F : Fr ac 88 [(0, Vp bq), (1, .agg #[Vi t, Vi x]), (3, Vp w.heap.size), (4, Vp w4.heap.size), (5, Vp w8.heap.size), (6, .bool false), (7, Vi (refV p t x)), (8, Vi (((t : Int) + 1 + (q : Nat) : Int) + 1)), (13, .bool false), (47, .bool true), (67, .bool true)] := F.sub _
     refine X.thenN ?_
     refine ⟨_, ?_, q + 1, rfl, wkN_lt h19p h23p, hI, (by rw [show (t : Int) + 1 + ((q + 1 : Nat) : Int) = t + 1 + (q : Nat) + 1 by omega]; exact hV4), (by show OwnP _ _ 2 (VL [Vi ((wkV p t (refV p t x) q).2 + (if t + 1 + (q : Nat) < t + p.hold then p.aw else p.za)), _]); rw [if_pos (by omega)]; exact hV5), (by rw [show (t : Int) + 1 + ((q + 1 : Nat) : Int) = t + 1 + (q : Nat) + 1 by omega]; exact F.sub _)⟩
     omega
 | true =>
  try rw [h15] at F
  have h15p : (refV p t x : Int) = 0 := by simpa using h15
  have hwk : refV p t x = 0 := h15p
  have hrb := refV_nn h (t := t) hx.1 hx.2
  refine Y.condT (F.e 13 rfl) ?_
  refine Y.seq ?_
  replace hC : RCells w14 [(Ad bq 0, Vi gq), (Ad bq 1, Vi p.aw), (Ad bq 2, Vi p.za), (Ad bq 3, Vi p.bu), (Ad bq 4, Vi p.re), (Ad bq 5, Vi p.hold), (Ad bq 6, Vi p.T), (Ad bq 7, .map (some bm)), (Ad w.heap.size 0, Vi t), (Ad w.heap.size 1, Vi x), (Ad w8.heap.size 0, Vi 0)] := hC.append ((RCells.cons (hV9.cell (k := 0) (by decide)) (RCells.nil _)))
  replace hC : RCells w14 [(Ad bq 0, Vi gq), (Ad bq 1, Vi p.aw), (Ad bq 2, Vi p.za), (Ad bq 3, Vi p.bu), (Ad bq 4, Vi p.re), (Ad bq 5, Vi p.hold), (Ad bq 6, Vi p.T), (Ad bq 7, .map (some bm)), (Ad w.heap.size 0, Vi t), (Ad w.heap.size 1, Vi x), (Ad w8.heap.size 0, Vi 0), (Ad w8.heap.size 1, Vi 0)] := hC.append ((RCells.cons (hV9.cell (k := 1) (by decide)) (RCells.nil _)))
  refine region_xi F [some (.agg #[Vi t, Vi x]), some (.agg #[Vi 0, Vi 0]), none, none, some (.bool false)] (RT2 w14 (w4.heap.size) 2 (w8.heap.size) 3 (VL [Vi 0, Vi 0]) (VL [Vi t, Vi x]) (VL [Vi 0, Vi 0]) (VL [Vi 0, Vi 0])) rfl ⟨by kernel_rfl, of_decide_eq_true (by kernel_rfl), by kernel_rfl, by kernel_rfl, by kernel_rfl⟩ (fun _ => ⟨RT2.start (Gr.refl _) hV5 hV9, RT2.start (Gr.drew _) hV5 hV9⟩) ⟨?_, ?_, ?_, ?_, ?_, trivial⟩ ?_
  ·intro ac done u W Sx hR
   exact X.vl (X.load rfl (Sx.ev 3 (Vp w.heap.size)) (X.ldN (Try.agg72 _) (Try.siz72 _) (Y.atz (⟨w.heap.size, 0, none⟩) (Y.AtFrom.cons (hR.o.cell (hC.at 8 rfl) (by show ¬ (w.heap.size = w4.heap.size ∨ w.heap.size = w8.heap.size); omega)) (Y.AtFrom.cons (hR.o.cell (hC.at 9 rfl) (by show ¬ (w.heap.size = w4.heap.size ∨ w.heap.size = w8.heap.size); omega)) (Y.AtFrom.nil _ _ _)))))) (hR.quiet (by decide))
  ·intro ac done u W Sx hR
   exact X.vl (X.load rfl (Sx.ev 5 (Vp w8.heap.size)) (X.ldN (Try.agg69 _) (Try.siz69 _) (Y.atz (⟨w8.heap.size, 0, none⟩) (Y.AtFrom.cons ((hR.p2 (Sx.no 3 (by kernel_rfl))).cell (k := 0) (by decide)) (Y.AtFrom.cons ((hR.p2 (Sx.no 3 (by kernel_rfl))).cell (k := 1) (by decide)) (Y.AtFrom.nil _ _ _)))))) (hR.quiet (by decide))
  ·intro ac done u W Sx hR
   obtain ⟨W2, hrun, hS2, hon⟩ := (hR.p1 Sx.nd).st2 (P := Try.prog) (t := 72) (x := Vi t) (y := Vi x) (fun W => Try.siz72 W) rfl rfl
   exact X.unit (X.w0 rfl) rfl (X.store rfl (Sx.ev 4 (Vp w4.heap.size)) (Sx.ev 14 (.agg #[Vi t, Vi x])) hrun) (hR.st1 (by decide) (by omega) hS2 hon)
  ·intro ac done u W Sx hR
   obtain ⟨W2, hrun, hS2, hon⟩ := (hR.p2 Sx.nd).st2 (P := Try.prog) (t := 69) (x := Vi 0) (y := Vi 0) (fun W => Try.siz69 W) rfl rfl
   exact X.unit (X.w0 rfl) rfl (X.store rfl (Sx.ev 5 (Vp w8.heap.size)) (Sx.ev 15 (.agg #[Vi 0, Vi 0])) hrun) (hR.st2 (by decide) (by omega) hS2 hon)
  ·intro ac done u W Sx hR
   exact X.vl (X.assign rfl (X.kc (.bool false) rfl)) (hR.quiet (by decide))
  rintro ac u w31 hs hd hl_ ho hR
  replace F : Fr ac 88 [(0, Vp bq), (1, .agg #[Vi t, Vi x]), (3, Vp w.heap.size), (4, Vp w4.heap.size), (5, Vp w8.heap.size), (6, .bool false), (7, Vi (refV p t x)), (13, .bool true)] := X.fr hs hd hl_ _ (by kernel_rfl)
  have hon := hR.o
  replace hV5 := hR.q1 rfl
  replace hV9 := hR.q2 rfl
  replace G := ((G.only (fun b => w.heap.size ≤ b)).trans (hon.mono' (fun i e => by omega))).gr (fun i hi e => by omega)
  replace hq := hq.only hon (by show ¬ (bq = w4.heap.size ∨ bq = w8.heap.size); omega)
  replace hC := (RCells.cons (hon.cell (hC.at 0 rfl) (by show ¬ (bq = w4.heap.size ∨ bq = w8.heap.size); omega)) (RCells.cons (hon.cell (hC.at 1 rfl) (by show ¬ (bq = w4.heap.size ∨ bq = w8.heap.size); omega)) (RCells.cons (hon.cell (hC.at 2 rfl) (by show ¬ (bq = w4.heap.size ∨ bq = w8.heap.size); omega)) (RCells.cons (hon.cell (hC.at 3 rfl) (by show ¬ (bq = w4.heap.size ∨ bq = w8.heap.size); omega)) (RCells.cons (hon.cell (hC.at 4 rfl) (by show ¬ (bq = w4.heap.size ∨ bq = w8.heap.size); omega)) (RCells.cons (hon.cell (hC.at 5 rfl) (by show ¬ (bq = w4.heap.size ∨ bq = w8.heap.size); omega)) (RCells.cons (hon.cell (hC.at 6 rfl) (by show ¬ (bq = w4.heap.size ∨ bq = w8.heap.size); omega)) (RCells.cons (hon.cell (hC.at 7 rfl) (by show ¬ (bq = w4.heap.size ∨ bq = w8.heap.size); omega)) (RCells.cons (hon.cell (hC.at 8 rfl) (by show ¬ (w.heap.size = w4.heap.size ∨ w.heap.size = w8.heap.size); omega)) (RCells.cons (hon.cell (hC.at 9 rfl) (by show ¬ (w.heap.size = w4.heap.size ∨ w.heap.size = w8.heap.size); omega)) (RCells.nil _)))))))))))
  clear hs hd hl_ ho hR hon
  refine X.thenN ?_
  refine Y.ret ?_
  refine X.thenR ?_
  exact Y.ret0 (v := .tuple #[.agg #[Vi t, Vi x], .agg #[Vi 0, Vi 0], .bool false]) F (Y.rcc3 F rfl (Try.agg72 _) (Try.siz72 _) (Try.agg69 _) (Try.siz69 _) (by kernel_rfl) (by kernel_rfl) (by kernel_rfl) hV5 hV9) ⟨by rw [if_pos hwk], G⟩
end
section
open Go.RowKit

set_option maxRecDepth 100000 in
set_option maxHeartbeats 400000 in
theorem better_any (x y z r : Int) (w : World) :
  Calls Try.prog 74 #[.agg #[Vi x, Vi y], .agg #[Vi z, Vi r]] w fun e w' => e = .returned (.bool (betB (x, y) (z, r))) ∧ Gr w w' := by
 have G := Gr.refl w
 refine Y.calls 18 Try.func74 rfl rfl ?_
 intro ac F0
 have F : Fr ac 18 [(0, .agg #[Vi x, Vi y]), (1, .agg #[Vi z, Vi r])] := F0.sub _
 clear F0
 refine Y.seq ?_
 refine Y.lit (by kernel_rfl) ?_
 refine Y.pv F (X.box rfl (F.e 0 rfl) X.bx) ?_;clear F ac;intro ac F
 have g := Gr.alloc w (.cells #[Vi x, Vi y] 69)
 have hb := heap_alloc_new w (.cells #[Vi x, Vi y] 69)
 have hbl : w.heap.size < (w.alloc (.cells #[Vi x, Vi y] 69)).heap.size := by simp
 have hC2 : RCells (w.alloc (.cells #[Vi x, Vi y] 69)) [(Ad w.heap.size 0, Vi x), (Ad w.heap.size 1, Vi y)] := (RCells.nil w).box (b := w.heap.size) #[Vi x, Vi y] 69 rfl
 generalize w.alloc (.cells #[Vi x, Vi y] 69) = w3 at *
 replace G := G.trans g
 have hC := hC2
 clear hC2
 clear g hb hbl
 refine Y.pv F (X.box rfl (F.e 1 rfl) X.bx) ?_;clear F ac;intro ac F
 have hq4 : w.heap.size < w3.heap.size := lt_cell (hC.at 0 rfl)
 have g := Gr.alloc w3 (.cells #[Vi z, Vi r] 69)
 have hb := heap_alloc_new w3 (.cells #[Vi z, Vi r] 69)
 have hbl : w3.heap.size < (w3.alloc (.cells #[Vi z, Vi r] 69)).heap.size := by simp
 have hC2 : RCells (w3.alloc (.cells #[Vi z, Vi r] 69)) [(Ad w.heap.size 0, Vi x), (Ad w.heap.size 1, Vi y), (Ad w3.heap.size 0, Vi z), (Ad w3.heap.size 1, Vi r)] := hC.box (b := w3.heap.size) #[Vi z, Vi r] 69 rfl
 generalize w3.alloc (.cells #[Vi z, Vi r] 69) = w5 at *
 replace G := G.trans g
 replace hC := hC2
 clear hC2
 clear g hb hbl
 refine Y.pv F (X.assign rfl (X.kc (.bool false) rfl)) ?_;clear F ac;intro ac F
 refine Y.nil ?_
 replace F : Fr ac 18 [(0, .agg #[Vi x, Vi y]), (1, .agg #[Vi z, Vi r]), (2, Vp w.heap.size), (3, Vp w3.heap.size), (4, .bool false)] := F.sub _
 refine X.thenN ?_
 refine Y.seq ?_
 refine Y.region F [some (Vp w.heap.size), some (Vi x), some (Vp w3.heap.size), some (Vi z), some (Vi (cmpI x z)), some (.pointer (some ⟨w3.heap.size, 1, none⟩)), some (Vi r), some (.pointer (some ⟨w.heap.size, 1, none⟩)), some (Vi y), some (Vi (cmpI r y)), none, some (Vi (orI (cmpI x z) (cmpI r y))), some (.bool (decide ((0 : Int) < (orI (cmpI x z) (cmpI r y))))), some (.bool (decide ((0 : Int) < (orI (cmpI x z) (cmpI r y)))))] [(10, Y.MP.two (cmpI x z) (cmpI r y))] rfl ⟨by kernel_rfl, of_decide_eq_true (by kernel_rfl), by kernel_rfl, by kernel_rfl, by kernel_rfl⟩ ⟨?_, ?_, ?_, ?_, ?_, ?_, ?_, ?_, ?_, ?_, ?_, ?_, ?_, ?_, trivial⟩ ?_
 ·intro ac done u W Sx hR
  exact X.vl (X.field rfl (Sx.ev 2 (Vp w.heap.size)) (X.fld Try.underlying69 rfl (Try.siz3 _) rfl rfl)) hR.st0
 ·intro ac done u W Sx hR
  have g : Gr w5 W := hR.1
  exact X.vl (X.load rfl (Sx.ev 5 (Vp w.heap.size)) (X.ld1 (Try.agg3 _) ((hC.gr g).at 0 rfl))) hR.st0
 ·intro ac done u W Sx hR
  exact X.vl (X.field rfl (Sx.ev 3 (Vp w3.heap.size)) (X.fld Try.underlying69 rfl (Try.siz3 _) rfl rfl)) hR.st0
 ·intro ac done u W Sx hR
  have g : Gr w5 W := hR.1
  exact X.vl (X.load rfl (Sx.ev 7 (Vp w3.heap.size)) (X.ld1 (Try.agg3 _) ((hC.gr g).at 2 rfl))) hR.st0
 ·intro ac done u W Sx hR
  refine X.call (X.w0 rfl) (X.enter (F := 86) rfl (X.kc (.func (.func 86) #[] #[]) rfl) (X.a2 (Sx.ev 6 (Vi x)) (Sx.ev 8 (Vi z))) (enters_of Try.func86 (by kernel_rfl) rfl _)) (compare_any x z W) ?_
  rintro e W2 ⟨rfl, rfl⟩
  exact ⟨_, rfl, X.kn rfl, hR.step (Gr.refl _) rfl⟩
 ·intro ac done u W Sx hR
  exact X.vl (X.field rfl (Sx.ev 3 (Vp w3.heap.size)) (X.fld Try.underlying69 rfl (Try.siz3 _) rfl rfl)) hR.st0
 ·intro ac done u W Sx hR
  have g : Gr w5 W := hR.1
  exact X.vl (X.load rfl (Sx.ev 10 (.pointer (some ⟨w3.heap.size, 1, none⟩))) (X.ld1 (Try.agg3 _) ((hC.gr g).at 3 rfl))) hR.st0
 ·intro ac done u W Sx hR
  exact X.vl (X.field rfl (Sx.ev 2 (Vp w.heap.size)) (X.fld Try.underlying69 rfl (Try.siz3 _) rfl rfl)) hR.st0
 ·intro ac done u W Sx hR
  have g : Gr w5 W := hR.1
  exact X.vl (X.load rfl (Sx.ev 12 (.pointer (some ⟨w.heap.size, 1, none⟩))) (X.ld1 (Try.agg3 _) ((hC.gr g).at 1 rfl))) hR.st0
 ·intro ac done u W Sx hR
  refine X.call (X.w0 rfl) (X.enter (F := 86) rfl (X.kc (.func (.func 86) #[] #[]) rfl) (X.a2 (Sx.ev 11 (Vi r)) (Sx.ev 13 (Vi y))) (enters_of Try.func86 (by kernel_rfl) rfl _)) (compare_any r y W) ?_
  rintro e W2 ⟨rfl, rfl⟩
  exact ⟨_, rfl, X.kn rfl, hR.step (Gr.refl _) rfl⟩
 ·intro ac done u W Sx hR
  have hb := heap_alloc_new W (.cells #[Vi (cmpI x z), Vi (cmpI r y)] 3)
  exact X.valN (X.w0 rfl) rfl (X.bs rfl (X.b2 (Sx.ev 9 (Vi (cmpI x z))) (Sx.ev 14 (Vi (cmpI r y)))) (Try.bs34_2 _ _ _)) (hR.new (q := Y.MP.two (cmpI x z) (cmpI r y)) (Gr.alloc _ _) rfl ⟨_, rfl, cell_new rfl, cell_new rfl⟩)
 ·intro ac done u W Sx hR
  obtain ⟨nb6, e10, nx6, ny6⟩ := hR.get (i := 10) (Y.MP.two (cmpI x z) (cmpI r y)) rfl (Sx.an 10 (by kernel_rfl))
  refine X.call (X.w0 rfl) (X.enter (F := 85) rfl (X.kc (.func (.func 85) #[] #[]) rfl) (X.a1 ((Sx.own 10 15 rfl).trans e10)) (enters_of Try.func85 (by kernel_rfl) rfl _)) (or_any ⟨nb6, 0, none⟩ 2 (cmpI x z) (cmpI r y) W nx6 ny6) ?_
  rintro e W2 ⟨rfl, rfl⟩
  exact ⟨_, rfl, X.kn rfl, hR.step (Gr.refl _) rfl⟩
 ·intro ac done u W Sx hR
  exact X.vl (X.binop rfl (Sx.ev 16 (Vi (orI (cmpI x z) (cmpI r y)))) (X.kc (Vi 0) rfl) (X.gtrI Try.underlying3 rfl)) hR.st0
 ·intro ac done u W Sx hR
  exact X.vl (X.assign rfl (Sx.ev 17 (.bool (decide ((0 : Int) < (orI (cmpI x z) (cmpI r y))))))) hR.st0
 intro ac u w7 hs hd hl ho hR
 have g : Gr w5 w7 := hR.1
 obtain ⟨nb6, e10, nx6, ny6⟩ := hR.get (i := 10) (Y.MP.two (cmpI x z) (cmpI r y)) rfl rfl
 replace F : Fr ac 18 [(0, .agg #[Vi x, Vi y]), (1, .agg #[Vi z, Vi r]), (2, Vp w.heap.size), (3, Vp w3.heap.size), (4, .bool (decide ((0 : Int) < (orI (cmpI x z) (cmpI r y)))))] := X.fr hs hd hl _ (by kernel_rfl)
 replace F : Fr ac 18 [(0, .agg #[Vi x, Vi y]), (1, .agg #[Vi z, Vi r]), (2, Vp w.heap.size), (3, Vp w3.heap.size), (4, .bool (decide ((0 : Int) < (orI (cmpI x z) (cmpI r y)))))] := F.sub _
 clear e10
 clear hs hd hl ho hR
 replace G := G.trans g
 replace hC := hC.gr g
 clear g
 refine X.thenN ?_
 refine Y.ret ?_
 exact Y.ret0 (v := .bool (decide ((0 : Int) < (orI (cmpI x z) (cmpI r y))))) F (Y.rs1 F rfl (by kernel_rfl)) ⟨rfl, G⟩
end
end Go.Proofs.Ytoalamakhjbedaa
