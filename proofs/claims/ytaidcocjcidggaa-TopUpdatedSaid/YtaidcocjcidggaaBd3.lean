/- Several texts of this claim in one file. (1) Cells of a call's own, as a list; a region with one operation that writes. Nothing of the program is proved here. (2) Cells that are known, as a list, in a world that grows. Nothing of the program is proved here. (3) A walk by lemmas: one lemma for each kind of operation. Nothing of the program is proved here. (4) A walk by lemmas: entering a function, what lies between regions, loops, the return. Nothing of the program is proved here. (5) Closed facts about the types. (6) A map keyed by states: what a lookup and a store do. (7) Contracts: keyOf, cmp.Compare, cmp.Or. (8) Plain words for the planner: the best rest of a plan from a state. No program in sight. (9) The planner: its words, and best where the state is the end, or not below it. (10) The planner: best, up to its memo. (11) The planner: what holds in the loop of best. -/
import Derived.Test.YtaidcocjcidggaaBd2
import Derived.Test.YtaidcocjcidggaaBd1
import Derived.WalkSpells
import Derived.Deep.LoopGhost
import Derived.Test.YtaidcocjcidggaaProg
import Derived.WideKeyArr
import Derived.MapKept
import Derived.Laws.CopyOwn
import Derived.Outline
import Derived.Deep.QuietTactic
import Derived.BigQuiet
namespace Go.Proofs.Ytaidcocjcidggaa
set_option linter.unusedSimpArgs false
set_option linter.unusedVariables false
section
open Go.RowKit

theorem frozen_of_block {w w' : World} {a : Addr} (h : w'.heap[a.block]? = w.heap[a.block]?) : w'.frozen? a = w.frozen? a := by
  unfold World.frozen?
  rw [h]

/-- these cells hold these values and may be written -/
def LCells (w : World) (L : List (Addr × Value)) : Prop := ∀ p ∈ L, w.cell? p.1 = some p.2 ∧ w.frozen? p.1 = false
theorem LCells.only {S : Nat → Prop} {w w' : World} {L : List (Addr × Value)} (h : LCells w L) (g : Only S w w') (hs : ∀ p ∈ L, ¬ S p.1.block) : LCells w' L := fun p hp => by
  have h1 := h p hp
  have hlt := lt_cell h1.1
  exact ⟨g.cell h1.1 (hs p hp), (frozen_of_block (g.block _ hlt (hs p hp))).trans h1.2⟩
theorem LCells.onlyN {S : Nat → Prop} {w w' : World} {L : List (Addr × Value)} (h : LCells w L) (g : Only S w w') (hn : NoCells S w) : LCells w' L := h.only g (fun p hp hs => by
  obtain ⟨cs, t, fr, hb⟩ := cell_block (h p hp).1
  exact hn _ _ _ _ hs hb)
theorem LCells.gr {w w' : World} {L : List (Addr × Value)} (h : LCells w L) (g : Gr w w') : LCells w' L := fun p hp => by
  have h1 := h p hp
  exact ⟨(g.cell (lt_cell h1.1)).trans h1.1, (g.frozen (lt_cell h1.1)).trans h1.2⟩
theorem LCells.lt {w : World} {L : List (Addr × Value)} (h : LCells w L) : ∀ p ∈ L, p.1.block < w.heap.size := fun p hp => lt_cell (h p hp).1
theorem LCells.at {w : World} {L : List (Addr × Value)} (h : LCells w L) (i : Nat) {p : Addr × Value} (hp : L[i]? = some p) : w.cell? p.1 = some p.2 := (h p (List.mem_of_getElem? hp)).1
theorem LCells.fr {w : World} {L : List (Addr × Value)} (h : LCells w L) (i : Nat) {p : Addr × Value} (hp : L[i]? = some p) : w.frozen? p.1 = false := (h p (List.mem_of_getElem? hp)).2

/-- operation i alone writes: before it the world is as it was -/
structure Tail (i : Nat) (w : World) (P : World → Prop) (done : Nat → Bool) (W : World) : Prop where
  before : done i = false → W = w.drew
  after : done i = true → P W
theorem Tail.start {i : Nat} {w : World} {P : World → Prop} : Tail i w P (fun _ => false) w.drew := ⟨fun _ => rfl, fun h => by cases h⟩
theorem Tail.quiet {i : Nat} {w W : World} {P : World → Prop} {done : Nat → Bool} (h : Tail i w P done W) {j : Nat} (hj : i ≠ j) : Tail i w P (upd done j) W := by
  refine ⟨?_, ?_⟩ <;> simp only [upd_ne hj]
  · exact h.before
  · exact h.after
theorem Tail.done {i : Nat} {w W : World} {P : World → Prop} {d : Nat → Bool} (h : P W) : Tail i w P (upd d i) W := ⟨(fun h => by rw [upd_self] at h; cases h), fun _ => h⟩
end
section
open Go.RowKit

/-- these cells hold these values -/
def RCells (w : World) (L : List (Addr × Value)) : Prop := ∀ p ∈ L, w.cell? p.1 = some p.2
theorem RCells.nil (w : World) : RCells w [] := fun p hp => by simp at hp
theorem RCells.gr {w w' : World} {L : List (Addr × Value)} (h : RCells w L) (g : Gr w w') : RCells w' L := fun p hp => (g.cell (lt_cell (h p hp))).trans (h p hp)
theorem RCells.at {w : World} {L : List (Addr × Value)} (h : RCells w L) (i : Nat) {p : Addr × Value} (hp : L[i]? = some p) : w.cell? p.1 = some p.2 := h p (List.mem_of_getElem? hp)
/-- the cells of block b -/
def bcells (b : Nat) : List Value → Nat → List (Addr × Value)
  | [], _ => []
  | v :: r, k => (⟨b, k, none⟩, v) :: bcells b r (k + 1)
theorem bcells_mem {b : Nat} : ∀ {l : List Value} {k : Nat} {p : Addr × Value}, p ∈ bcells b l k → ∃ j, p.1 = ⟨b, k + j, none⟩ ∧ l[j]? = some p.2 := by
  intro l
  induction l with
  | nil => intro k p h; simp [bcells] at h
  | cons v r ih =>
    intro k p h
    simp only [bcells, List.mem_cons] at h
    rcases h with rfl | h
    · exact ⟨0, rfl, rfl⟩
    · obtain ⟨j, h1, h2⟩ := ih h
      exact ⟨j + 1, by rw [h1, show k + (j + 1) = k + 1 + j by omega], by simpa using h2⟩
theorem RCells.box {w : World} {L : List (Addr × Value)} (h : RCells w L) {b : Nat} (cs : Array Value) (t : TypeId) (hb : w.heap.size = b) : RCells (w.alloc (.cells cs t)) (L ++ bcells b cs.toList 0) := by
  intro p hp
  rcases List.mem_append.1 hp with hp | hp
  · exact h.gr (Gr.alloc _ _) p hp
  · obtain ⟨j, h1, h2⟩ := bcells_mem hp
    rw [h1, ← hb, Nat.zero_add]
    exact cell_new (by simpa using h2)
theorem RCells.append {w : World} {L M : List (Addr × Value)} (h : RCells w L) (k : RCells w M) : RCells w (L ++ M) := fun p hp => by
  rcases List.mem_append.1 hp with hp | hp
  · exact h p hp
  · exact k p hp
theorem RCells.cons {w : World} {M : List (Addr × Value)} {a : Addr} {v : Value} (h : w.cell? a = some v) (k : RCells w M) : RCells w ((a, v) :: M) := fun p hp => by
  rcases List.mem_cons.1 hp with rfl | hp
  · exact h
  · exact k p hp
end
section
open Go.RowKit
namespace X
variable {P : Program} {o : Oper} {ρ : Operand → Value} {W W' : World}

theorem w0 {y : Nat → Option Bool} (hg : o.guard = none) : Region.wanted o y = true := by simp [Region.wanted, hg]
theorem w1 {y : Nat → Option Bool} {j : Nat} {b : Bool} (hg : o.guard = some (j, b)) (hy : y j = some b) : Region.wanted o y = true := by simp [Region.wanted, hg, hy]
theorem w2 {y : Nat → Option Bool} {j : Nat} {b b' : Bool} (hg : o.guard = some (j, b)) (hy : y j = some b') (hne : (b' == b) = false) : Region.wanted o y = false := by simp [Region.wanted, hg, hy]; simpa using hne

section
variable {l : List Oper} {vs : List (Option Value)} {Q : Exit → Act → World → Prop} {R : (Nat → Bool) → (Nat → Value) → World → Prop} {i : Nat} {A : Act} {done : Nat → Bool} {u : Nat → Value} {y : Nat → Option Bool}
/-- an operation that gives a value -/
theorem val {v : Value} (hw : Region.wanted o y = true) (hv : vs[i]? = some (some v)) (hrun : (execOp A.eval o).run P W = .ok (.value v) W') (hR : R (upd done i) (fun j => if j = i then v else u j) W') :
    if Region.wanted o y then ∀ K : Act → World → Prop, (∀ v W', (∀ x, vs[i]? = some (some x) → v = x) → R (upd done i) (fun j => if j = i then v else u j) W' → K (A.put o.dst v) W') → o.wp P A W K Q
    else (vs[i]? = some none ∧ R (upd done i) (fun j => if j = i then undef else u j) W) := by
  rw [if_pos hw]
  intro K hK
  unfold Oper.wp
  rw [hrun]
  exact hK v W' (fun x hx => by rw [hv] at hx; injection hx with hx; injection hx) hR
/-- an operation whose value is not known ahead -/
theorem valN {v : Value} (hw : Region.wanted o y = true) (hv : vs[i]? = some none) (hrun : (execOp A.eval o).run P W = .ok (.value v) W') (hR : R (upd done i) (fun j => if j = i then v else u j) W') :
    if Region.wanted o y then ∀ K : Act → World → Prop, (∀ v W', (∀ x, vs[i]? = some (some x) → v = x) → R (upd done i) (fun j => if j = i then v else u j) W' → K (A.put o.dst v) W') → o.wp P A W K Q
    else (vs[i]? = some none ∧ R (upd done i) (fun j => if j = i then undef else u j) W) := by
  rw [if_pos hw]
  intro K hK
  unfold Oper.wp
  rw [hrun]
  exact hK v W' (fun x hx => by rw [hv] at hx; cases hx) hR
/-- an operation that gives none -/
theorem unit (hw : Region.wanted o y = true) (hv : vs[i]? = some none) (hrun : (execOp A.eval o).run P W = .ok .skip W') (hR : R (upd done i) (fun j => if j = i then undef else u j) W') :
    if Region.wanted o y then ∀ K : Act → World → Prop, (∀ v W', (∀ x, vs[i]? = some (some x) → v = x) → R (upd done i) (fun j => if j = i then v else u j) W' → K (A.put o.dst v) W') → o.wp P A W K Q
    else (vs[i]? = some none ∧ R (upd done i) (fun j => if j = i then undef else u j) W) := by
  rw [if_pos hw]
  intro K hK
  unfold Oper.wp
  rw [hrun]
  exact hK undef W' (fun x hx => by rw [hv] at hx; cases hx) hR
/-- an operation that is not wanted -/
theorem skip (hw : Region.wanted o y = false) (hv : vs[i]? = some none) (hR : R (upd done i) (fun j => if j = i then undef else u j) W) :
    if Region.wanted o y then ∀ K : Act → World → Prop, (∀ v W', (∀ x, vs[i]? = some (some x) → v = x) → R (upd done i) (fun j => if j = i then v else u j) W' → K (A.put o.dst v) W') → o.wp P A W K Q
    else (vs[i]? = some none ∧ R (upd done i) (fun j => if j = i then undef else u j) W) := by
  rw [if_neg (by rw [hw]; decide)]
  exact ⟨hv, hR⟩
/-- a call by its contract -/
theorem call {F : FuncId} {args : Array Value} {T : Ending → World → Prop} (hw : Region.wanted o y = true) (hrun : (execOp A.eval o).run P W = .ok (.enter F args) W) (hc : Calls P F args W T)
    (hT : ∀ e W', T e W' → ∃ v, e = .returned v ∧ (∀ x, vs[i]? = some (some x) → v = x) ∧ R (upd done i) (fun j => if j = i then v else u j) W') :
    if Region.wanted o y then ∀ K : Act → World → Prop, (∀ v W', (∀ x, vs[i]? = some (some x) → v = x) → R (upd done i) (fun j => if j = i then v else u j) W' → K (A.put o.dst v) W') → o.wp P A W K Q
    else (vs[i]? = some none ∧ R (upd done i) (fun j => if j = i then undef else u j) W) := by
  rw [if_pos hw]
  intro K hK
  unfold Oper.wp
  rw [hrun]
  refine hc.mono fun e W' h => ?_
  obtain ⟨v, rfl, h1, h2⟩ := hT e W' h
  exact hK v W' h1 h2
/-- a builtin by a law at Oper.wp -/
theorem law (hw : Region.wanted o y = true) (h : ∀ K : Act → World → Prop, (∀ v W', (∀ x, vs[i]? = some (some x) → v = x) → R (upd done i) (fun j => if j = i then v else u j) W' → K (A.put o.dst v) W') → o.wp P A W K Q) :
    if Region.wanted o y then ∀ K : Act → World → Prop, (∀ v W', (∀ x, vs[i]? = some (some x) → v = x) → R (upd done i) (fun j => if j = i then v else u j) W' → K (A.put o.dst v) W') → o.wp P A W K Q
    else (vs[i]? = some none ∧ R (upd done i) (fun j => if j = i then undef else u j) W) := by
  rw [if_pos hw]; exact h
end

theorem run_v {s : Sem Value} {v : Value} (h : s.run P W = .ok v W') : (do pure (Next.value (← s)) : Sem Next).run P W = .ok (.value v) W' := by simp [h, go_sem]
theorem run_u {s : Sem Unit} (h : s.run P W = .ok () W') : (do s; pure Next.skip : Sem Next).run P W = .ok .skip W' := by simp [h, go_sem]

theorem move {x : Operand} {v : Value} (ho : o.op = .move x) (hx : ρ x = v) : (execOp ρ o).run P W = .ok (.value v) W := by
  unfold execOp; rw [ho]; simp [hx]
theorem assign {x : Operand} {v : Value} (ho : o.op = .assign x) (hx : ρ x = v) : (execOp ρ o).run P W = .ok (.value v) W := by
  unfold execOp; rw [ho]; simp [hx]
theorem pickT {c x y : Operand} {v : Value} (ho : o.op = .pick c x y) (hc : ρ c = .bool true) (hx : ρ x = v) : (execOp ρ o).run P W = .ok (.value v) W := by
  unfold execOp; rw [ho]; simp [hc, hx, asBool, go_sem]
theorem pickF {c x y : Operand} {v : Value} (ho : o.op = .pick c x y) (hc : ρ c = .bool false) (hy : ρ y = v) : (execOp ρ o).run P W = .ok (.value v) W := by
  unfold execOp; rw [ho]; simp [hc, hy, asBool, go_sem]
theorem load {t : TypeId} {x : Operand} {p : Value} {v : Value} (ho : o.op = .load t x) (hx : ρ x = p) (hr : (Instr.loadAt t p).run P W = .ok v W) : (execOp ρ o).run P W = .ok (.value v) W := by
  unfold execOp; rw [ho]; simp only [hx]; exact run_v hr
theorem store {t : TypeId} {x y : Operand} {p v : Value} (ho : o.op = .store t x y) (hx : ρ x = p) (hy : ρ y = v) (hr : (Instr.storeAt t p v).run P W = .ok () W') : (execOp ρ o).run P W = .ok .skip W' := by
  unfold execOp; rw [ho]; simp only [hx, hy]; exact run_u hr
theorem extract {x : Operand} {k : Nat} {vs : Array Value} {v : Value} (ho : o.op = .extract x k) (hx : ρ x = .tuple vs) (hv : vs[k]? = some v) : (execOp ρ o).run P W = .ok (.value v) W := by
  unfold execOp; rw [ho]; simp [hx, Instr.extract, hv, go_sem]
theorem notB {b : Bool} {t : TypeId} {x : Operand} (ho : o.op = .unOp .not t x) (hx : ρ x = .bool b) {c : Bool} (hc : (!b) = c) : (execOp ρ o).run P W = .ok (.value (.bool c)) W := by
  unfold execOp; rw [ho]; simp [hx, Op.unary, hc, go_sem]
theorem binop {op : BinOp} {t t' : TypeId} {x y : Operand} {p q v : Value} (ho : o.op = .binOp op t x y t') (hx : ρ x = p) (hy : ρ y = q) (hr : (do eqGuard op t x y p q; binOp op t p q : Sem Value).run P W = .ok v W) : (execOp ρ o).run P W = .ok (.value v) W := by
  unfold execOp; rw [ho]; simp only [hx, hy]; exact run_v hr
theorem field {t : TypeId} {x : Operand} {k : Nat} {p v : Value} (ho : o.op = .fieldAddr t x k) (hx : ρ x = p) (hr : (Instr.fieldAt t p k).run P W = .ok v W) : (execOp ρ o).run P W = .ok (.value v) W := by
  unfold execOp; rw [ho]; simp only [hx]; exact run_v hr
theorem index {t : TypeId} {x y : Operand} {p q v : Value} (ho : o.op = .indexAddr t x y) (hx : ρ x = p) (hy : ρ y = q) (hr : (Instr.indexAt t p q).run P W = .ok v W) : (execOp ρ o).run P W = .ok (.value v) W := by
  unfold execOp; rw [ho]; simp only [hx, hy]; exact run_v hr
theorem box {t : TypeId} {x : Operand} {p v : Value} (ho : o.op = .box t x) (hx : ρ x = p) (hr : (Instr.box t p).run P W = .ok v W') : (execOp ρ o).run P W = .ok (.value v) W' := by
  unfold execOp; rw [ho]; simp only [hx]; exact run_v hr
theorem len1 {x : Operand} {tx e : TypeId} {a : Option Addr} {n c : Nat} (hu : P.underlying tx = some (.slice e)) (ho : o.op = .call { callee := .builtin .len, args := #[x], argTypes := #[tx] }) (hx : ρ x = .slice a n c) : (execOp ρ o).run P W = .ok (.value (.int .i64 n)) W := by
  unfold execOp; rw [ho]; simp [hx, resolve, invoke, builtin, Builtin.len_, run_underlying hu, go_sem]
theorem enter {f : Operand} {args : Array Operand} {ats : Array TypeId} {F : FuncId} {cap : Array Value} {vs : List Value} (ho : o.op = .call { callee := .value f, args := args, argTypes := ats }) (hf : ρ f = .func (.func F) #[] cap) (hargs : args.toList.map ρ = vs)
    (he : ∀ W, (callFunc F (vs.toArray ++ cap)).run P W = .ok (.enter F (vs.toArray ++ cap)) W) : (execOp ρ o).run P W = .ok (.enter F (vs.toArray ++ cap)) W := by
  unfold execOp; rw [ho]
  have : (args.map ρ) = vs.toArray := by
    cases args with
    | mk l => subst hargs; simp
  simp [hf, resolve, invoke, this, go_sem, he]

/-- loads -/
theorem ld1 {t : TypeId} {p : Addr} {v : Value} (hA : (isAgg t).run P W = .ok false W) (hc : W.cell? p = some v) : (Instr.loadAt t (.pointer (some p))).run P W = .ok v W := by
  simp [Instr.loadAt, loadVar, Instr.sureAddr, hA, hc, go_sem]
theorem loadCells_run {p : Addr} : ∀ (n k : Nat) (acc : Array Value) (vs : List Value), vs.length = n → (∀ j v, vs[j]? = some v → W.cell? (p.add (k + j)) = some v) → (loadCellsFrom p k n acc).run P W = .ok (acc ++ vs.toArray) W := by
  intro n
  induction n with
  | zero => intro k acc vs hl _; have : vs = [] := List.eq_nil_of_length_eq_zero hl; subst this; simp [loadCellsFrom, go_sem]
  | succ n ih =>
    intro k acc vs hl h
    match vs, hl with
    | v :: r, hl =>
      have h0 := h 0 v rfl
      have h2 := ih (k + 1) (acc.push v) r (by simpa using hl) (fun j x hx => by have := h (j + 1) x (by simpa using hx); rw [show k + 1 + j = k + (j + 1) by omega]; exact this)
      rw [Nat.add_zero] at h0
      rw [show acc ++ (v :: r).toArray = acc.push v ++ r.toArray by simp]
      simp [loadCellsFrom, go_sem, h0, h2]
theorem ldN {t : TypeId} {p : Addr} {vs : List Value} (hA : (isAgg t).run P W = .ok true W) (hS : (sizeOf t).run P W = .ok vs.length W) (hc : ∀ j v, vs[j]? = some v → W.cell? (p.add j) = some v) : (Instr.loadAt t (.pointer (some p))).run P W = .ok (.agg vs.toArray) W := by
  have := loadCells_run (P := P) (W := W) (p := p) vs.length 0 #[] vs rfl (fun j v h => by rw [Nat.zero_add]; exact hc j v h)
  simp [Instr.loadAt, loadVar, Instr.sureAddr, hA, hS, loadCells, this, go_sem]
/-- the address of a field -/
theorem fld {t : TypeId} {p : Addr} {k sz : Nat} {fs : Array Field} {f : Field} (hu : P.underlying t = some (.struct fs)) (hf : fs[k]? = some f) (hS : (sizeOf f.type).run P W = .ok sz W) (h0 : (sz == 0) = false) {q : Addr} (hq : p.add f.offset = q) : (Instr.fieldAt t (.pointer (some p)) k).run P W = .ok (.pointer (some q)) W := by
  subst hq
  have h1 : ¬ sz = 0 := by simpa using h0
  simp [Instr.fieldAt, run_underlying hu, hf, Instr.sureAddr, fieldPlace, hS, h1, go_sem]
/-- the address of an element -/
theorem idx {t e : TypeId} {p : Addr} {n c k sz : Nat} (hu : P.underlying t = some (.slice e)) (hS : (sizeOf e).run P W = .ok sz W) (hk : k < n) {z : Int} (hz : z = (k : Int)) {q : Addr} (hq : p.add (k * sz) = q) : (Instr.indexAt t (.slice (some p) n c) (.int .i64 z)).run P W = .ok (.pointer (some q)) W := by
  subst hz hq
  have h1 : (0 : Int) ≤ k ∧ (k : Int) < n := by omega
  simp [Instr.indexAt, run_underlying hu, hS, asIntOf, h1, go_sem]
  intro h; omega
theorem bx {t : TypeId} {vs : Array Value} : (Instr.box t (.agg vs)).run P W = .ok (.pointer (some ⟨W.heap.size, 0, none⟩)) (W.alloc (.cells vs t)) := by
  simp [Instr.box, newVar, newRow, Value.cells, go_sem]
/-- tests -/
theorem eqlI {t : TypeId} (_hu : P.underlying t = some (.int .i64)) {x y : Operand} {p q : Int} {b : Bool} (hb : (p == q) = b) : (do eqGuard .eql t x y (.int .i64 p) (.int .i64 q); binOp .eql t (.int .i64 p) (.int .i64 q) : Sem Value).run P W = .ok (.bool b) W := by
  subst hb; simp [eqGuard, binOp, go_sem]
theorem neqI {t : TypeId} (_hu : P.underlying t = some (.int .i64)) {x y : Operand} {p q : Int} {b : Bool} (hb : (p != q) = b) : (do eqGuard .neq t x y (.int .i64 p) (.int .i64 q); binOp .neq t (.int .i64 p) (.int .i64 q) : Sem Value).run P W = .ok (.bool b) W := by
  subst hb; simp [eqGuard, binOp, go_sem]
theorem lssI {t : TypeId} (_hu : P.underlying t = some (.int .i64)) {x y : Operand} {p q : Int} {b : Bool} (hb : decide (p < q) = b) : (do eqGuard .lss t x y (.int .i64 p) (.int .i64 q); binOp .lss t (.int .i64 p) (.int .i64 q) : Sem Value).run P W = .ok (.bool b) W := by
  subst hb; simp [eqGuard, binOp, go_sem]
theorem leqI {t : TypeId} (_hu : P.underlying t = some (.int .i64)) {x y : Operand} {p q : Int} {b : Bool} (hb : decide (p ≤ q) = b) : (do eqGuard .leq t x y (.int .i64 p) (.int .i64 q); binOp .leq t (.int .i64 p) (.int .i64 q) : Sem Value).run P W = .ok (.bool b) W := by
  subst hb; simp [eqGuard, binOp, go_sem]
theorem gtrI {t : TypeId} (_hu : P.underlying t = some (.int .i64)) {x y : Operand} {p q : Int} {b : Bool} (hb : decide (q < p) = b) : (do eqGuard .gtr t x y (.int .i64 p) (.int .i64 q); binOp .gtr t (.int .i64 p) (.int .i64 q) : Sem Value).run P W = .ok (.bool b) W := by
  subst hb; simp [eqGuard, binOp, go_sem]
theorem geqI {t : TypeId} (_hu : P.underlying t = some (.int .i64)) {x y : Operand} {p q : Int} {b : Bool} (hb : decide (q ≤ p) = b) : (do eqGuard .geq t x y (.int .i64 p) (.int .i64 q); binOp .geq t (.int .i64 p) (.int .i64 q) : Sem Value).run P W = .ok (.bool b) W := by
  subst hb; simp [eqGuard, binOp, go_sem]
theorem addI {t : TypeId} (_hu : P.underlying t = some (.int .i64)) {x y : Operand} {p q z : Int} (hz : p + q = z) (h0 : -9223372036854775808 ≤ z) (h1 : z ≤ 9223372036854775807) : (do eqGuard .add t x y (.int .i64 p) (.int .i64 q); binOp .add t (.int .i64 p) (.int .i64 q) : Sem Value).run P W = .ok (.int .i64 z) W := by
  subst hz; simp [eqGuard, binOp, go_sem, IntWalk.i64_in _ ⟨h0, h1⟩]
theorem subI {t : TypeId} (_hu : P.underlying t = some (.int .i64)) {x y : Operand} {p q z : Int} (hz : p - q = z) (h0 : -9223372036854775808 ≤ z) (h1 : z ≤ 9223372036854775807) : (do eqGuard .sub t x y (.int .i64 p) (.int .i64 q); binOp .sub t (.int .i64 p) (.int .i64 q) : Sem Value).run P W = .ok (.int .i64 z) W := by
  subst hz; simp [eqGuard, binOp, go_sem, IntWalk.i64_in _ ⟨h0, h1⟩]
theorem a1 {ρ : Operand → Value} {x : Operand} {v : Value} (h : ρ x = v) : [x].map ρ = [v] := by simp [h]
theorem a2 {ρ : Operand → Value} {x y : Operand} {v z : Value} (h : ρ x = v) (k : ρ y = z) : [x, y].map ρ = [v, z] := by simp [h, k]
theorem a3 {ρ : Operand → Value} {x1 x2 x3 : Operand} {v1 v2 v3 : Value} (h1 : ρ x1 = v1) (h2 : ρ x2 = v2) (h3 : ρ x3 = v3) : [x1, x2, x3].map ρ = [v1, v2, v3] := by simp [h1, h2, h3]
theorem a4 {ρ : Operand → Value} {x1 x2 x3 x4 : Operand} {v1 v2 v3 v4 : Value} (h1 : ρ x1 = v1) (h2 : ρ x2 = v2) (h3 : ρ x3 = v3) (h4 : ρ x4 = v4) : [x1, x2, x3, x4].map ρ = [v1, v2, v3, v4] := by simp [h1, h2, h3, h4]
theorem a5 {ρ : Operand → Value} {x1 x2 x3 x4 x5 : Operand} {v1 v2 v3 v4 v5 : Value} (h1 : ρ x1 = v1) (h2 : ρ x2 = v2) (h3 : ρ x3 = v3) (h4 : ρ x4 = v4) (h5 : ρ x5 = v5) : [x1, x2, x3, x4, x5].map ρ = [v1, v2, v3, v4, v5] := by simp [h1, h2, h3, h4, h5]
end X
end
section
open Go.RowKit
namespace X
variable {P : Program}

def argL : List Value → Nat → List (Nat × Value)
  | [], _ => []
  | v :: r, k => (k, v) :: argL r (k + 1)
theorem argL_mem : ∀ {l : List Value} {k s : Nat} {v : Value}, (s, v) ∈ argL l k → k ≤ s ∧ l[s - k]? = some v := by
  intro l
  induction l with
  | nil => intro k s v h; simp [argL] at h
  | cons x r ih =>
    intro k s v h
    simp only [argL, List.mem_cons, Prod.mk.injEq] at h
    rcases h with ⟨rfl, rfl⟩ | h
    · simp
    · obtain ⟨h1, h2⟩ := ih h
      refine ⟨by omega, ?_⟩
      rw [show s - k = (s - (k + 1)) + 1 by omega]; simpa using h2
/-- what is known behind a region -/
theorem fr {A : Act} {n : Nat} {l : List Oper} {vs : List (Option Value)} {L : List (Nat × Value)} {D : List Deferred} (hs : A.tmps.size = n) (hd : A.defers = D) (hl : ∀ s v, lastAt l vs L s = some v → A.tmps[s]? = some v) (M : List (Nat × Value))
    (hM : M.map (fun p => lastAt l vs L p.1) = M.map (fun p => some p.2)) : Fr A n M D := by
  refine ⟨hs, hd, fun s v hm => hl s v ?_⟩
  clear hl
  induction M with
  | nil => simp at hm
  | cons p r ih =>
    simp only [List.map_cons, List.cons.injEq] at hM
    rcases List.mem_cons.1 hm with e | hm
    · subst e; exact hM.1
    · exact ih hM.2 hm
theorem _root_.Go.Proofs.Ytaidcocjcidggaa.Fr.sub {A : Act} {n : Nat} {L : List (Nat × Value)} {D : List Deferred} (h : Fr A n L D) (M : List (Nat × Value)) (hM : M.map (fun p => lookS L p.1) = M.map (fun p => some p.2) := by kernel_rfl) : Fr A n M D := by
  refine ⟨h.sz, h.df, fun s v hm => h.look ?_⟩
  induction M with
  | nil => simp at hm
  | cons p r ih =>
    simp only [List.map_cons, List.cons.injEq] at hM
    rcases List.mem_cons.1 hm with e | hm
    · subst e; exact hM.1
    · exact ih hM.2 hm
theorem thenN {next : Act → World → Prop} {Q : Exit → Act → World → Prop} {a : Act} {w : World} (h : next a w) : Exit.then next Q .normal a w := h
theorem blockN {id : Nat} {Q : Exit → Act → World → Prop} {a : Act} {w : World} (h : Q .normal a w) : Exit.inBlock id Q .normal a w := h
theorem blockX {id : Nat} {Q : Exit → Act → World → Prop} {a : Act} {w : World} (h : Q .normal a w) : Exit.inBlock id Q (.exit id) a w := by simp [Exit.inBlock, h]
theorem thenX {id : Nat} {next : Act → World → Prop} {Q : Exit → Act → World → Prop} {a : Act} {w : World} (h : Q (.exit id) a w) : Exit.then next Q (.exit id) a w := h
theorem thenR {next : Act → World → Prop} {Q : Exit → Act → World → Prop} {a : Act} {w : World} (h : Q .ret a w) : Exit.then next Q .ret a w := h
theorem blockR {id : Nat} {Q : Exit → Act → World → Prop} {a : Act} {w : World} (h : Q .ret a w) : Exit.inBlock id Q .ret a w := h
theorem kn {vs : List (Option Value)} {i : Nat} {v : Value} (h : vs[i]? = some (some v)) : ∀ x, vs[i]? = some (some x) → v = x := fun x hx => by rw [h] at hx; injection hx with hx; injection hx
theorem un {vs : List (Option Value)} {i : Nat} {v : Value} (h : vs[i]? = some none) : ∀ x, vs[i]? = some (some x) → v = x := fun x hx => by rw [h] at hx; cases hx
end X
end
section
open Go.RowKit
theorem Try.agg3 (w : World) : (isAgg 3).run Try.prog w = .ok false w := by kernel_rfl
theorem Try.siz3 (w : World) : (sizeOf 3).run Try.prog w = .ok 1 w := by kernel_rfl
theorem Try.agg9 (w : World) : (isAgg 9).run Try.prog w = .ok false w := by kernel_rfl
theorem Try.siz9 (w : World) : (sizeOf 9).run Try.prog w = .ok 1 w := by kernel_rfl
theorem Try.agg22 (w : World) : (isAgg 22).run Try.prog w = .ok false w := by kernel_rfl
theorem Try.siz22 (w : World) : (sizeOf 22).run Try.prog w = .ok 1 w := by kernel_rfl
theorem Try.agg23 (w : World) : (isAgg 23).run Try.prog w = .ok false w := by kernel_rfl
theorem Try.siz23 (w : World) : (sizeOf 23).run Try.prog w = .ok 1 w := by kernel_rfl
theorem Try.agg26 (w : World) : (isAgg 26).run Try.prog w = .ok false w := by kernel_rfl
theorem Try.siz26 (w : World) : (sizeOf 26).run Try.prog w = .ok 1 w := by kernel_rfl
theorem Try.agg25 (w : World) : (isAgg 25).run Try.prog w = .ok true w := by kernel_rfl
theorem Try.siz25 (w : World) : (sizeOf 25).run Try.prog w = .ok 2 w := by kernel_rfl
theorem Try.agg46 (w : World) : (isAgg 46).run Try.prog w = .ok true w := by kernel_rfl
theorem Try.siz46 (w : World) : (sizeOf 46).run Try.prog w = .ok 4 w := by kernel_rfl
end
section
open Go.RowKit

theorem Try.akey : WideMaps.ArrKey Try.prog 90 3 6 := ⟨Try.underlying90, by kernel_rfl, by kernel_rfl, by kernel_rfl⟩

/-- a state as a key -/
def keyV (s : List Int) : Value := .agg #[.int .i64 (s[0]?.getD 0), .int .i64 (s[1]?.getD 0), .int .i64 (s[2]?.getD 0), .int .i64 (s[3]?.getD 0), .int .i64 (s[4]?.getD 0), .int .i64 (s[5]?.getD 0)]

/-- its numbers are small -/
def Small (s : List Int) : Prop := ∀ c : Nat, 0 ≤ s[c]?.getD 0 ∧ s[c]?.getD 0 ≤ 3

theorem keyLits_six (a0 a1 a2 a3 a4 a5 : Int) (h0 : (Lit.int .i64 a0).wf = true) (h1 : (Lit.int .i64 a1).wf = true) (h2 : (Lit.int .i64 a2).wf = true) (h3 : (Lit.int .i64 a3).wf = true) (h4 : (Lit.int .i64 a4).wf = true) (h5 : (Lit.int .i64 a5).wf = true) :
    ∃ l, keyOf Try.prog 90 (.agg #[.int .i64 a0, .int .i64 a1, .int .i64 a2, .int .i64 a3, .int .i64 a4, .int .i64 a5]) = some l := by
  unfold keyOf
  rw [Try.underlying90]
  simp only
  rw [if_pos (by kernel_rfl)]
  have hs : ∃ m, Try.prog.types.size = m + 1 := ⟨Try.prog.types.size - 1, by kernel_rfl⟩
  obtain ⟨m, hm⟩ := hs
  rw [hm]
  have c1 : Try.prog.cellsOf 90 = 6 := by kernel_rfl
  have c2 : Try.prog.cellsOf 3 = 1 := by kernel_rfl
  simp [Program.keyLits, Try.underlying90, Try.underlying3, c1, c2, Value.cells, List.range, List.range.loop, h0, h1, h2, h3, h4, h5]

theorem keyOf_keyV {s : List Int} (h : Small s) : ∃ l, keyOf Try.prog 90 (keyV s) = some l := by
  have hw : ∀ c : Nat, (Lit.int .i64 (s[c]?.getD 0)).wf = true := fun c => by
    have := h c; simp [Lit.wf, IntKind.min, IntKind.max, IntKind.signed, IntKind.bits]; omega
  exact keyLits_six _ _ _ _ _ _ (hw 0) (hw 1) (hw 2) (hw 3) (hw 4) (hw 5)

theorem keyV_inj {s t : List Int} (hl : s.length = t.length) (h6 : s.length ≤ 6) (h : keyV s = keyV t) : s = t := by
  unfold keyV at h
  injection h with h
  simp at h
  obtain ⟨h0, h1, h2, h3, h4, h5⟩ := h
  apply List.ext_getElem? 
  intro i
  by_cases hi : i < s.length
  · have hg : s[i]?.getD 0 = t[i]?.getD 0 := by
      have : i = 0 ∨ i = 1 ∨ i = 2 ∨ i = 3 ∨ i = 4 ∨ i = 5 := by omega
      rcases this with rfl | rfl | rfl | rfl | rfl | rfl <;> assumption
    have hi' : i < t.length := by omega
    simp [hi, hi'] at hg ⊢
    exact hg
  · rw [List.getElem?_eq_none (by omega), List.getElem?_eq_none (by omega)]

/-- block m is a map whose keys are states, and whose values are good for them -/
def Memo (W : World) (m : Nat) (G : List Int → Value → Prop) : Prop := ∃ es clk, W.heap[m]? = some (.map es clk) ∧ (∀ e ∈ es.toList, ∃ s, e.key = keyV s ∧ Small s ∧ G s e.val) ∧ es.toList.Pairwise (fun x y => x.key ≠ y.key)

theorem Memo.lt {W : World} {m : Nat} {G : List Int → Value → Prop} (h : Memo W m G) : m < W.heap.size := by
  obtain ⟨es, clk, hb, _⟩ := h
  exact (Array.getElem?_eq_some_iff.1 hb).1
theorem Memo.mono {W W' : World} {m : Nat} {G G' : List Int → Value → Prop} (h : Memo W m G) (hb : W'.heap[m]? = W.heap[m]?) (hG : ∀ s v, G s v → G' s v) : Memo W' m G' := by
  obtain ⟨es, clk, hm, hall, hpw⟩ := h
  exact ⟨es, clk, hb.trans hm, fun e he => by obtain ⟨s, h1, h2, h3⟩ := hall e he; exact ⟨s, h1, h2, hG _ _ h3⟩, hpw⟩


/-- a store of a value that is good for the state -/
theorem memo_store {W : World} {m t e : Nat} {G : List Int → Value → Prop} {v : Value} {s : List Int} (ht : Try.prog.underlying t = some (.map 90 e)) (h : Memo W m G) (hs : Small s) (hG : G s v) :
    ∃ o, (Instr.mapUpdate t (.map (some m)) (keyV s) v).run Try.prog W = .ok () (W.putObj m o) ∧ Memo (W.putObj m o) m G := by
  obtain ⟨es, clk, hb, hall, hpw⟩ := h
  obtain ⟨l, hl⟩ := keyOf_keyV hs
  have K := Try.akey.law
  have hlt : m < W.heap.size := (Array.getElem?_eq_some_iff.1 hb).1
  have hset : ∀ o, (setObj m o).run Try.prog W = .ok () (W.putObj m o) := fun o => by
    simp [setObj, Sem.run, hb, World.putObj]
  rcases K.find W hl es.toList (fun e he => by obtain ⟨s', h1, h2, _⟩ := hall e he; rw [h1]; exact keyOf_keyV h2) with ⟨h1, h2⟩ | ⟨j, e0, h1, h2, h3⟩
  · refine ⟨_, by simp [Instr.mapUpdate, run_underlying ht, MapKept.run_getObj_map hb, K.check W _ hl, h1, Result.andThen, hset], es.push { key := keyV s, val := v, born := clk }, clk + 1, World.putObj_heap_same hlt, ?_, ?_⟩
    rotate_left
    · rw [Array.toList_push, List.pairwise_append]
      exact ⟨hpw, by simp, fun x hx y hy => by simp at hy; subst hy; exact h2 x hx⟩
    intro e he
    simp at he
    rcases he with he | he
    · exact hall e (by simpa using he)
    · subst he; exact ⟨s, rfl, hs, hG⟩
  · have hj : es[j]? = some e0 := by simpa using h2
    have hst := K.stays W hl
    refine ⟨_, by simp [Instr.mapUpdate, run_underlying ht, MapKept.run_getObj_map hb, K.check W _ hl, h1, Result.andThen, hset, hj, h3, hst], es.modify j fun e => { e with key := keyV s, val := v }, clk, World.putObj_heap_same hlt, ?_, ?_⟩
    rotate_left
    · have hmap : (es.modify j fun e => { e with key := keyV s, val := v }).toList.map (·.key) = es.toList.map (·.key) := by
        apply List.ext_getElem?
        intro i
        rw [List.getElem?_map, List.getElem?_map, Array.toList_modify, List.getElem?_modify]
        by_cases hji : j = i
        · subst hji; simp [hj, h3]
        · simp [hji]
      have h4 := (List.pairwise_map (f := fun e : MapEntry => e.key) (R := fun a b => a ≠ b)).2 hpw
      rw [← hmap] at h4
      exact List.pairwise_map.1 h4
    intro e he
    rw [List.mem_iff_getElem?] at he
    obtain ⟨i, hi⟩ := he
    rw [Array.toList_modify, List.getElem?_modify] at hi
    by_cases hji : j = i
    · simp [hji] at hi
      obtain ⟨x, _, rfl⟩ := hi
      exact ⟨s, rfl, hs, hG⟩
    · simp [hji] at hi
      exact hall e (List.mem_of_getElem? (by simpa using hi))
theorem pairwise_same {es : List MapEntry} (h : es.Pairwise (fun x y => x.key ≠ y.key)) {x y : MapEntry} (hx : x ∈ es) (hy : y ∈ es) (hk : x.key = y.key) : x = y := by
  induction es with
  | nil => simp at hx
  | cons a l ih =>
    rw [List.pairwise_cons] at h
    rcases List.mem_cons.1 hx with rfl | hx'
    · rcases List.mem_cons.1 hy with rfl | hy'
      · rfl
      · exact absurd hk (h.1 y hy')
    · rcases List.mem_cons.1 hy with rfl | hy'
      · exact absurd hk.symm (h.1 x hx')
      · exact ih h.2 hx' hy'
end
section
set_option linter.unusedVariables false
open Go.RowKit

theorem splice_get (xs : List Int) (h : xs.length ≤ 6) (j : Nat) (hj : j < 6) : (splice [Value.int .i64 0, .int .i64 0, .int .i64 0, .int .i64 0, .int .i64 0, .int .i64 0] 0 (xs.map (Value.int .i64)))[j]? = some (.int .i64 (xs[j]?.getD 0)) := by
  unfold splice
  by_cases hx : j < xs.length
  · simp [List.getElem?_append_left, hx]
  · have e : xs[j]? = none := List.getElem?_eq_none (by omega)
    simp [e]
    rw [List.getElem?_append_right (by simp; omega)]
    simp
    have : xs.length + (j - xs.length) = j := by omega
    rw [this]
    have : j = 0 ∨ j = 1 ∨ j = 2 ∨ j = 3 ∨ j = 4 ∨ j = 5 := by omega
    rcases this with rfl | rfl | rfl | rfl | rfl | rfl <;> rfl

set_option maxRecDepth 100000 in
set_option maxHeartbeats 400000 in
theorem keyOf_any (a : Option Addr) (n c : Nat) (xs : List Int) (w : World) (hx : Ints w a n xs) (h0 : 0 < n) (hn : n ≤ 6) : Calls Try.prog 60 #[.slice a n c] w fun e w' => e = .returned (keyV xs) ∧ Gr w w' := by
  have hxg := hx.gr (Gr.alloc w (.cells #[.int .i64 0, .int .i64 0, .int .i64 0, .int .i64 0, .int .i64 0, .int .i64 0] 90))
  have hlen := hx.len
  obtain ⟨ad, rfl, hab, _⟩ := hx.at h0
  obtain ⟨w', hw'⟩ : ∃ w' : World, w' = (w.alloc (.cells #[.int .i64 0, .int .i64 0, .int .i64 0, .int .i64 0, .int .i64 0, .int .i64 0] 90)).setRow w.heap.size (splice [.int .i64 0, .int .i64 0, .int .i64 0, .int .i64 0, .int .i64 0, .int .i64 0] 0 (xs.map (Value.int .i64))).toArray := ⟨_, rfl⟩
  have hrun : (Builtin.copy_ #[26, 26] 3 #[.slice (some ⟨w.heap.size, 0, none⟩) 6 6, .slice (some ad) n c]).run Try.prog (w.alloc (.cells #[.int .i64 0, .int .i64 0, .int .i64 0, .int .i64 0, .int .i64 0, .int .i64 0] 90)) = .ok (goInt n) w' := by
    have := run_copy_row (P := Try.prog) (w.alloc (.cells #[.int .i64 0, .int .i64 0, .int .i64 0, .int .i64 0, .int .i64 0, .int .i64 0] 90)) 26 26 3 3 w.heap.size 0 6 6 ad n c _ 90 (xs.map (Value.int .i64)) Try.underlying26 (by kernel_rfl) (World.alloc_heap_new _ _) (by rw [List.length_map, hlen]; exact (Nat.min_eq_left hn).symm) hxg.cells (by simp [hlen]; exact hn) (ints_one xs)
    rw [this, hw']
    simp [splice, hlen]
  have hh : w'.heap[w.heap.size]? = some (.cells (splice [.int .i64 0, .int .i64 0, .int .i64 0, .int .i64 0, .int .i64 0, .int .i64 0] 0 (xs.map (Value.int .i64))).toArray 90 (0, 0)) := by
    rw [hw']; exact (setRow_heap _ _ _ _ _ _ (World.alloc_heap_new _ _))
  have hg : Gr w w' := by
    rw [hw']; exact below_setRow (Gr.alloc _ _) (Nat.le_refl _) _
  have hc : ∀ j, j < 6 → w'.cell? ⟨w.heap.size, j, none⟩ = some (.int .i64 (xs[j]?.getD 0)) := fun j hj => by
    unfold World.cell?
    simp only [hh, List.getElem?_toArray]
    exact splice_get xs (by rw [hlen]; exact hn) j hj
  have hf : ∀ j, w'.frozen? ⟨w.heap.size, j, none⟩ = false := fun j => by
    unfold World.frozen?
    simp [hh]
  have h0 := hc 0 (by decide)
  have h1 := hc 1 (by decide)
  have h2 := hc 2 (by decide)
  have h3 := hc 3 (by decide)
  have h4 := hc 4 (by decide)
  have h5 := hc 5 (by decide)
  clear hc hh hw' hlen
  go_enter Try.func60, Try.ntmps60
  go_wp2
  refine bodyPost_ret (v := keyV xs) (by simp [results, Try.results57, go_sem, keyV, h0, h1, h2, h3, h4, h5]) rfl ⟨rfl, ?_⟩
  exact (((((hg.setCell (Nat.le_refl _) _).setCell (Nat.le_refl _) _).setCell (Nat.le_refl _) _).setCell (Nat.le_refl _) _).setCell (Nat.le_refl _) _).setCell (Nat.le_refl _) _

theorem isNaN_any (x : Int) (w : World) : Calls Try.prog 101 #[.int .i64 x] w fun e w' => e = .returned (.bool false) ∧ w = w' := by
  go_enter Try.func101, Try.ntmps101
  go_wp2
  go_ret
  exact ⟨by simp, rfl⟩

/-- -1, 0, 1 -/
def cmpI (x y : Int) : Int := if x < y then -1 else if y < x then 1 else 0

theorem compare_any (x y : Int) (w : World) : Calls Try.prog 86 #[.int .i64 x, .int .i64 y] w fun e w' => e = .returned (.int .i64 (cmpI x y)) ∧ w = w' := by
  by_cases h1 : x < y
  · have hc := Lib.hid (show cmpI x y = -1 by simp [cmpI, h1])
    go_enter Try.func86, Try.ntmps86
    go_wp2_with (go_at_call 101; refine (isNaN_any _ _).mono ?_; rintro e w' ⟨rfl, rfl⟩)
    go_ret
    exact ⟨by rw [hc.out]; rfl, rfl⟩
  · by_cases h2 : y < x
    · have hc := Lib.hid (show cmpI x y = 1 by simp [cmpI, h1, h2])
      go_enter Try.func86, Try.ntmps86
      go_wp2_with (go_at_call 101; refine (isNaN_any _ _).mono ?_; rintro e w' ⟨rfl, rfl⟩)
      go_ret
      exact ⟨by rw [hc.out]; rfl, rfl⟩
    · have hc := Lib.hid (show cmpI x y = 0 by simp [cmpI, h1, h2])
      go_enter Try.func86, Try.ntmps86
      go_wp2_with (go_at_call 101; refine (isNaN_any _ _).mono ?_; rintro e w' ⟨rfl, rfl⟩)
      go_ret
      exact ⟨by rw [hc.out]; rfl, rfl⟩

/-- the first of two that is not 0 -/
def orI (x y : Int) : Int := if x = 0 then y else x
theorem or_any (ad : Addr) (c : Nat) (x y : Int) (w : World) (h0 : w.cell? (ad.add 0) = some (.int .i64 x)) (h1 : w.cell? (ad.add 1) = some (.int .i64 y)) : Calls Try.prog 85 #[.slice (some ad) 2 c] w fun e w' => e = .returned (.int .i64 (orI x y)) ∧ w = w' := by
  have hc : ∀ k : Nat, k < 2 → w.cell? (ad.add k) = some (.int .i64 (if k = 0 then x else y)) := fun k hk => by
    have : k = 0 ∨ k = 1 := by omega
    rcases this with rfl | rfl
    · simpa using h0
    · simpa using h1
  have HC := Lib.hid hc
  clear hc h0 h1
  go_enter Try.func85, Try.ntmps85
  go_wp2
  go_loop [8] (fun i => ∃ k : Nat, k ≤ 2 ∧ i = .int .i64 k ∧ (1 ≤ k → Hid (x = 0)) ∧ (2 ≤ k → Hid (y = 0))) (fun i => 2 - (intOf i).toNat)
  case atStart => exact ⟨0, by omega, rfl, by omega, by omega⟩
  case round =>
    obtain ⟨k, hk, rfl, hx, hy⟩ := hrel
    by_cases hlt : k < 2
    · have hcell := HC.out k hlt
      generalize hz : (if k = 0 then x else y) = z at hcell
      have HZ := Lib.hid hz
      clear hz
      cases hb : (z != 0) with
      | true =>
        go_wp2
        go_ret
        refine ⟨ret_int ?_, rfl⟩
        have hz0 : z ≠ 0 := by simpa using hb
        have := HZ.out
        have hk01 : k = 0 ∨ k = 1 := by omega
        rcases hk01 with rfl | rfl
        · simp at this; subst this; unfold orI; rw [if_neg hz0]
        · simp at this; subst this; unfold orI; rw [if_pos (hx (by omega)).out]
      | false =>
        go_wp2
        go_round
        case rel =>
          have hz0 : z = 0 := by simpa using hb
          have := HZ.out
          refine ⟨k + 1, by omega, by go_num, fun _ => Lib.hid ?_, fun h2 => Lib.hid ?_⟩
          · by_cases e : k = 0
            · simp [e] at this; omega
            · exact (hx (by omega)).out
          · have e : k = 1 := by omega
            simp [e] at this; omega
        case measure => simp [intOf]; omega
    · obtain rfl : k = 2 := by omega
      go_wp2
      go_ret
      have hx0 := (hx (by omega)).out
      have hy0 := (hy (by omega)).out
      exact ⟨ret_int (by simp [orI, hx0, hy0]), rfl⟩
end
section
/-- what is left of a plan -/
structure Rs where
  steps : Int
  time : Int
  nxt : List Int
  is : Bool
def Rs.no : Rs := ⟨0, 0, [], false⟩
def Rs.fin : Rs := ⟨0, 0, [], true⟩
def rsLess (a b : Rs) : Bool := decide (orI (cmpI a.steps b.steps) (cmpI a.time b.time) < 0)
def Rs.via (T : List (List Int)) (s s' : List Int) (x : Rs) : Rs := ⟨x.steps + 1, x.time + dur T s s', s', true⟩

def bestStep (T : List (List Int)) (bu : Int) (s : List Int) (rec : List Int → Rs) (best : Rs) (s' : List Int) : Rs :=
  if stepsB T s s' bu then (if (rec s').is then (if !best.is || rsLess ((rec s').via T s s') best then (rec s').via T s s' else best) else best) else best

def bestF (f : Fl) (to : List Int) (bu : Int) : Nat → List Int → Rs
  | 0, s => if s = to then Rs.fin else Rs.no
  | k + 1, s => if s = to then Rs.fin else if aboveV to s then (enum f s to s.length []).foldl (bestStep f.times bu s (bestF f to bu k)) Rs.no else Rs.no

/-- how far a state is from another one -/
def gapTo (s to : List Int) : Nat → Nat
  | 0 => 0
  | k + 1 => gapTo s to k + (to[k]?.getD 0 - s[k]?.getD 0).toNat
def gap (s to : List Int) : Nat := gapTo s to to.length
def bestV (f : Fl) (to : List Int) (bu : Int) (s : List Int) : Rs := bestF f to bu (gap s to) s

theorem gapTo_le {s t to : List Int} : ∀ k, (∀ c, c < k → s[c]?.getD 0 ≤ t[c]?.getD 0) → gapTo t to k ≤ gapTo s to k := by
  intro k
  induction k with
  | zero => intro _; simp [gapTo]
  | succ k ih =>
    intro h
    have := ih (fun c hc => h c (by omega))
    have := h k (by omega)
    simp only [gapTo]; omega
theorem gapTo_lt {s t to : List Int} : ∀ k, (∀ c, c < k → s[c]?.getD 0 ≤ t[c]?.getD 0) → (∀ c, c < k → t[c]?.getD 0 ≤ to[c]?.getD 0) → (∃ c, c < k ∧ s[c]?.getD 0 ≠ t[c]?.getD 0) → gapTo t to k < gapTo s to k := by
  intro k
  induction k with
  | zero => rintro _ _ ⟨c, hc, _⟩; omega
  | succ k ih =>
    rintro h h2 ⟨c, hc, hne⟩
    simp only [gapTo]
    have hk := h k (by omega)
    have hk2 := h2 k (by omega)
    by_cases e : c = k
    · subst e
      have := gapTo_le (to := to) c (fun c' hc' => h c' (by omega))
      omega
    · have := ih (fun c hc => h c (by omega)) (fun c hc => h2 c (by omega)) ⟨c, by omega, hne⟩
      omega

/-- between two states -/
structure Btw (lo hi s : List Int) : Prop where
  len : s.length = lo.length
  ge : ∀ c, c < lo.length → lo[c]?.getD 0 ≤ s[c]?.getD 0
  le : ∀ c, c < lo.length → s[c]?.getD 0 ≤ hi[c]?.getD 0

theorem enum_btw {f : Fl} {lo hi : List Int} : ∀ (k : Nat) (pre s : List Int), pre.length + k = lo.length → s ∈ enum f lo hi k pre →
    s.length = lo.length ∧ worksB f s = true ∧ (∀ c, c < pre.length → s[c]?.getD 0 = pre[c]?.getD 0) ∧ ∀ c, pre.length ≤ c → c < lo.length → lo[c]?.getD 0 ≤ s[c]?.getD 0 ∧ s[c]?.getD 0 ≤ hi[c]?.getD 0 := by
  intro k
  induction k with
  | zero =>
    intro pre s hl hs
    simp only [enum] at hs
    split at hs
    · simp at hs; subst hs; exact ⟨by omega, by assumption, fun _ _ => rfl, fun c h1 h2 => by omega⟩
    · simp at hs
  | succ k ih =>
    intro pre s hl hs
    simp only [enum, List.mem_flatMap, List.mem_range] at hs
    obtain ⟨i, hi, hs⟩ := hs
    obtain ⟨h1, h2, h3, h4⟩ := ih _ s (by simp; omega) hs
    refine ⟨h1, h2, fun c hc => ?_, fun c hc hlt => ?_⟩
    · rw [h3 c (by simp; omega), List.getElem?_append_left hc]
    · by_cases e : c = pre.length
      · subst e
        rw [h3 _ (by simp)]
        simp
        omega
      · exact h4 c (by simp; omega) hlt
theorem enum_between {f : Fl} {lo hi s : List Int} (hs : s ∈ enum f lo hi lo.length []) : Btw lo hi s ∧ worksB f s = true := by
  obtain ⟨h1, h2, _, h4⟩ := enum_btw lo.length [] s (by simp) hs
  exact ⟨⟨h1, fun c hc => (h4 c (by simp) hc).1, fun c hc => (h4 c (by simp) hc).2⟩, h2⟩

theorem stepsB_true {T : List (List Int)} {s t : List Int} {bu : Int} (h : stepsB T s t bu = true) : aboveV t s = true ∧ s ≠ t ∧ dur T s t ≤ bu := by
  simp only [stepsB, Bool.and_eq_true, Bool.not_eq_true', decide_eq_true_eq, decide_eq_false_iff_not] at h
  exact ⟨h.1.1, h.1.2, h.2⟩

theorem ne_at {s t : List Int} (hl : s.length = t.length) (h : s ≠ t) : ∃ c, c < s.length ∧ s[c]?.getD 0 ≠ t[c]?.getD 0 := by
  by_cases hex : ∃ c, c < s.length ∧ s[c]?.getD 0 ≠ t[c]?.getD 0
  · exact hex
  · exact absurd ((eqUpto_iff hl).1 (fun j hj => Classical.byContradiction fun hne => hex ⟨j, hj, hne⟩)) h

theorem gap_lt {s t to : List Int} {hl : s.length = to.length} (h : Btw s to t) (hne : s ≠ t) : gap t to < gap s to :=
  gapTo_lt to.length (fun c hc => h.ge c (by omega)) (fun c hc => h.le c (by omega)) (by rw [← hl]; exact ne_at h.len.symm hne)

theorem foldl_congr {α β : Type} {g h : β → α → β} : ∀ (l : List α) (b : β), (∀ x ∈ l, ∀ b, g b x = h b x) → l.foldl g b = l.foldl h b := by
  intro l
  induction l with
  | nil => intro b _; rfl
  | cons x l ih =>
    intro b hx
    simp only [List.foldl_cons]
    rw [hx x (by simp), ih _ (fun y hy => hx y (by simp [hy]))]

theorem bestStep_congr {T : List (List Int)} {bu : Int} {s s' : List Int} {r r' : List Int → Rs} (h : stepsB T s s' bu = true → r s' = r' s') (b : Rs) : bestStep T bu s r b s' = bestStep T bu s r' b s' := by
  unfold bestStep
  cases hb : stepsB T s s' bu with
  | false => simp
  | true => rw [h hb]

theorem above_gap_zero {s to : List Int} (hl : s.length = to.length) (ha : aboveV to s = true) (hg : gap s to = 0) : s = to := by
  have hle := aboveV_le ha
  have hz : ∀ k, k ≤ to.length → gapTo s to k = 0 → ∀ c, c < k → s[c]?.getD 0 = to[c]?.getD 0 := by
    intro k
    induction k with
    | zero => intro _ _ c hc; omega
    | succ k ih =>
      intro hk h0 c hc
      simp only [gapTo] at h0
      by_cases e : c = k
      · subst e; have := hle c (by omega); omega
      · exact ih (by omega) (by omega) c (by omega)
  exact (eqUpto_iff hl).1 (fun j hj => hz to.length (Nat.le_refl _) hg j (by omega))

theorem bestF_fuel {f : Fl} {to : List Int} {bu : Int} : ∀ (k k' : Nat) (s : List Int), s.length = to.length → gap s to ≤ k → gap s to ≤ k' → bestF f to bu k s = bestF f to bu k' s := by
  intro k
  induction k with
  | zero =>
    intro k' s hl h0 _
    cases k' with
    | zero => rfl
    | succ k' =>
      simp only [bestF]
      by_cases hs : s = to
      · simp [hs]
      · simp only [hs, if_false]
        rw [if_neg]
        intro ha
        exact hs (above_gap_zero hl ha (by omega))
  | succ k ih =>
    intro k' s hl h0 h1
    cases k' with
    | zero =>
      simp only [bestF]
      by_cases hs : s = to
      · simp [hs]
      · simp only [hs, if_false]
        rw [if_neg]
        intro ha
        exact hs (above_gap_zero hl ha (by omega))
    | succ k' =>
      simp only [bestF]
      by_cases hs : s = to
      · simp [hs]
      · simp only [hs, if_false]
        split
        · refine foldl_congr _ _ (fun x hx b => bestStep_congr (fun hst => ?_) b)
          have hb := (enum_between hx).1
          have hlt := gap_lt (hl := hl) hb (stepsB_true hst).2.1
          exact ih k' x (by rw [hb.len, hl]) (by omega) (by omega)
        · rfl

theorem bestV_eq {f : Fl} {to : List Int} {bu : Int} {s : List Int} (hl : s.length = to.length) :
    bestV f to bu s = if s = to then Rs.fin else if aboveV to s then (enum f s to s.length []).foldl (bestStep f.times bu s (bestV f to bu)) Rs.no else Rs.no := by
  have : bestV f to bu s = bestF f to bu (gap s to + 1) s := bestF_fuel _ _ s hl (Nat.le_refl _) (by omega)
  rw [this]
  simp only [bestF]
  by_cases hs : s = to
  · simp [hs]
  · simp only [hs, if_false]
    split
    · refine foldl_congr _ _ (fun x hx b => bestStep_congr (fun hst => ?_) b)
      have hb := (enum_between hx).1
      have hlt := gap_lt (hl := hl) hb (stepsB_true hst).2.1
      exact bestF_fuel _ _ x (by rw [hb.len, hl]) (by omega) (Nat.le_refl _)
    · rfl

theorem StOk.btw {f : Fl} {lo hi s : List Int} (hlo : StOk f lo) (hhi : StOk f hi) (h : Btw lo hi s) : StOk f s :=
  ⟨by rw [h.len, hlo.len], fun c hc => by
    have h1 := h.ge c (by rw [hlo.len]; exact hc)
    have h2 := h.le c (by rw [hlo.len]; exact hc)
    have := hlo.ver c hc
    have := hhi.ver c hc
    omega⟩

/-- its numbers are bounded -/
structure Rs.Bd (r : Rs) (k : Nat) : Prop where
  s0 : 0 ≤ r.steps
  s1 : r.steps ≤ k
  t0 : 0 ≤ r.time
  t1 : r.time ≤ 60000 * k

theorem bestStep_bd {f : Fl} {bu : Int} {s s' : List Int} {rec : List Int → Rs} {k : Nat} (hok : FlOk f) (hs : StOk f s) (hs' : StOk f s') (hr : stepsB f.times s s' bu = true → (rec s').Bd k) {b : Rs} (hb : b.Bd (k + 1)) : (bestStep f.times bu s rec b s').Bd (k + 1) := by
  unfold bestStep
  cases hst : stepsB f.times s s' bu with
  | false => simpa using hb
  | true =>
    have h := hr hst
    have ha := aboveV_le (stepsB_true hst).1
    have hd := durTo_bd hok (fun c hc => (hs.ver c hc).1) hs' (fun c hc => ha c (by rw [hs'.len]; exact hc)) f.times.length (Nat.le_refl _)
    have hdur : dur f.times s s' = durTo f.times s s' f.times.length := by unfold dur; rw [hs'.len]
    have h6 := hok.n6
    simp only [if_true]
    have := h.s0
    have := h.s1
    have := h.t0
    have := h.t1
    split
    · split
      · exact ⟨by simp only [Rs.via]; omega, by simp only [Rs.via]; omega, by simp only [Rs.via]; omega, by simp only [Rs.via]; omega⟩
      · exact hb
    · exact hb

theorem Rs.Bd.mono {r : Rs} {k k' : Nat} (h : r.Bd k) (hk : k ≤ k') : r.Bd k' := ⟨h.s0, by have := h.s1; omega, h.t0, by have := h.t1; omega⟩

theorem bestF_bd {f : Fl} {to : List Int} {bu : Int} (hok : FlOk f) (hto : StOk f to) : ∀ (k : Nat) (s : List Int), StOk f s → (bestF f to bu k s).Bd k := by
  intro k
  induction k with
  | zero => intro s hs; simp only [bestF]; split <;> exact ⟨by simp [Rs.fin, Rs.no], by simp [Rs.fin, Rs.no], by simp [Rs.fin, Rs.no], by simp [Rs.fin, Rs.no]⟩
  | succ k ih =>
    intro s hs
    simp only [bestF]
    split
    · exact ⟨by simp [Rs.fin], by simp [Rs.fin]; omega, by simp [Rs.fin], by simp [Rs.fin]; omega⟩
    · split
      · have h0 : Rs.no.Bd (k + 1) := ⟨by simp [Rs.no], by simp [Rs.no]; omega, by simp [Rs.no], by simp [Rs.no]; omega⟩
        have : ∀ (l : List (List Int)) (b : Rs), (∀ x ∈ l, StOk f x) → b.Bd (k + 1) → (l.foldl (bestStep f.times bu s (bestF f to bu k)) b).Bd (k + 1) := by
          intro l
          induction l with
          | nil => intro b _ hb; exact hb
          | cons x l ihl =>
            intro b hx hb
            exact ihl _ (fun y hy => hx y (by simp [hy])) (bestStep_bd hok hs (hx x (by simp)) (fun _ => ih x (hx x (by simp))) hb)
        exact this _ _ (fun x hx => hs.btw hto (enum_between hx).1) h0
      · exact ⟨by simp [Rs.no], by simp [Rs.no]; omega, by simp [Rs.no], by simp [Rs.no]; omega⟩

theorem gapTo_bd {f : Fl} {s to : List Int} (hok : FlOk f) (hs : StOk f s) (hto : StOk f to) : ∀ k, k ≤ f.times.length → gapTo s to k ≤ 3 * k := by
  intro k
  induction k with
  | zero => intro _; simp [gapTo]
  | succ k ih =>
    intro hk
    have := ih (by omega)
    have := (hs.ver k (by omega)).1
    have := (hto.ver k (by omega)).2
    have := hok.row k (by omega)
    simp only [gapTo]; omega
theorem bestV_bd {f : Fl} {to : List Int} {bu : Int} (hok : FlOk f) (hto : StOk f to) (s : List Int) (hs : StOk f s) : (bestV f to bu s).Bd 18 :=
  (bestF_bd hok hto _ s hs).mono (by
    have := gapTo_bd hok hs hto to.length (by rw [hto.len]; exact Nat.le_refl _)
    have := hok.n6
    have := hto.len
    unfold gap; omega)
end
section
set_option linter.unusedVariables false
open Go.RowKit

theorem Ints.nil (W : World) : Ints W none 0 [] := ⟨rfl, by omega, fun j hj => by omega⟩
/-- a rest in memory; the next state lies in no block of X -/
def RestV (X : Nat → Prop) (W : World) (v : Value) (r : Rs) : Prop := ∃ a k c, v = .agg #[.int .i64 r.steps, .int .i64 r.time, .slice a k c, .bool r.is] ∧ Ints W a k r.nxt ∧ ∀ ad, a = some ad → ¬ X ad.block ∧ Is3 W ad.block
theorem RestV.only {X S : Nat → Prop} {W W' : World} {v : Value} {r : Rs} (h : RestV X W v r) (g : Only S W W') (hn : NoCells S W) : RestV X W' v r := by
  obtain ⟨a, k, c, h1, h2, h3⟩ := h
  exact ⟨a, k, c, h1, h2.only g hn, fun ad e => ⟨(h3 ad e).1, (h3 ad e).2.onlyN g hn⟩⟩
/-- the blocks of X may turn -/
theorem RestV.onlyX {X S : Nat → Prop} {W W' : World} {v : Value} {r : Rs} (h : RestV X W v r) (g : Only S W W') (hs : ∀ b, S b → X b) : RestV X W' v r := by
  obtain ⟨a, k, c, h1, h2, h3⟩ := h
  exact ⟨a, k, c, h1, h2.onlyAt g (fun ad e hS => (h3 ad e).1 (hs _ hS)), fun ad e => ⟨(h3 ad e).1, (h3 ad e).2.only g (fun hS => (h3 ad e).1 (hs _ hS))⟩⟩
theorem RestV.gr {X : Nat → Prop} {W W' : World} {v : Value} {r : Rs} (h : RestV X W v r) (g : Gr W W') : RestV X W' v r := by
  obtain ⟨a, k, c, h1, h2, h3⟩ := h
  exact ⟨a, k, c, h1, h2.gr g, fun ad e => ⟨(h3 ad e).1, (h3 ad e).2.gr g⟩⟩
theorem RestV.wide {X X' : Nat → Prop} {W : World} {v : Value} {r : Rs} (h : RestV X W v r) (hx : ∀ b, b < W.heap.size → X' b → X b) : RestV X' W v r := by
  obtain ⟨a, k, c, h1, h2, h3⟩ := h
  exact ⟨a, k, c, h1, h2, fun ad e => ⟨fun hX => (h3 ad e).1 (hx _ (h3 ad e).2.lt hX), (h3 ad e).2⟩⟩

/-- the planner's data -/
structure PP where
  bp : Nat
  m : Nat
  ta : Option Addr
  tn : Nat
  tc : Nat
  ca : Option Addr
  cn : Nat
  cc : Nat
  toa : Option Addr
  toc : Nat
  n : Nat
  f : Fl
  to : List Int
  bu : Int

structure PInv (q : PP) (X : Nat → Prop) (W : World) : Prop where
  c0 : W.cell? ⟨q.bp, 0, none⟩ = some (.slice q.ta q.tn q.tc)
  c1 : W.cell? ⟨q.bp, 1, none⟩ = some (.slice q.ca q.cn q.cc)
  c2 : W.cell? ⟨q.bp, 2, none⟩ = some (.slice q.toa q.n q.toc)
  c3 : W.cell? ⟨q.bp, 3, none⟩ = some (.int .i64 q.bu)
  c4 : W.cell? ⟨q.bp, 4, none⟩ = some (.map (some q.m))
  fl : FlAt W q.ta q.tn q.ca q.cn q.f
  ito : Ints W q.toa q.n q.to
  memo : Memo W q.m (fun s v => s.length = q.n ∧ RestV X W v (bestV q.f q.to q.bu s))

structure PHyp (q : PP) : Prop where
  ok : FlOk q.f
  sto : StOk q.f q.to
  nt : q.n = q.f.times.length

theorem PInv.noc {q : PP} {X : Nat → Prop} {W : World} (h : PInv q X W) : NoCells (fun b => b = q.m) W := by
  obtain ⟨es, clk, hb, _, _⟩ := h.memo
  intro b cs t fr e
  subst e
  rw [hb]; intro h; cases h

theorem PInv.of {q : PP} {X : Nat → Prop} {W W' : World} {S : Nat → Prop} (h : PInv q X W) (g : Only S W W') (hn : NoCells S W) (hm : Memo W' q.m (fun s v => s.length = q.n ∧ RestV X W' v (bestV q.f q.to q.bu s))) : PInv q X W' :=
  ⟨g.cellN hn h.c0, g.cellN hn h.c1, g.cellN hn h.c2, g.cellN hn h.c3, g.cellN hn h.c4, h.fl.only g hn, h.ito.only g hn, hm⟩
theorem PInv.gr {q : PP} {X : Nat → Prop} {W W' : World} (h : PInv q X W) (g : Gr W W') : PInv q X W' :=
  ⟨(g.cell (lt_cell h.c0)).trans h.c0, (g.cell (lt_cell h.c1)).trans h.c1, (g.cell (lt_cell h.c2)).trans h.c2, (g.cell (lt_cell h.c3)).trans h.c3, (g.cell (lt_cell h.c4)).trans h.c4, h.fl.gr g, h.ito.gr g,
    h.memo.mono (g.below.block _ h.memo.lt) (fun s v hv => ⟨hv.1, hv.2.gr g⟩)⟩

theorem PInv.wide {q : PP} {X X' : Nat → Prop} {W : World} (h : PInv q X W) (hx : ∀ b, b < W.heap.size → X' b → X b) : PInv q X' W :=
  ⟨h.c0, h.c1, h.c2, h.c3, h.c4, h.fl, h.ito, h.memo.mono rfl (fun _ _ hv => ⟨hv.1, hv.2.wide hx⟩)⟩

theorem frozen_new {w : World} {cs : Array Value} {t : TypeId} {j : Nat} : (w.alloc (.cells cs t)).frozen? ⟨w.heap.size, j, none⟩ = false := by
  have := World.alloc_heap_new w (.cells cs t)
  unfold World.frozen?
  simp only [this]
  simp

/-- three new blocks of cells -/
structure Three (W w3 : World) (A B C : Array Value) : Prop where
  gr : Gr W w3
  sz : w3.heap.size = W.heap.size + 1 + 1 + 1
  a : ∀ j v, A[j]? = some v → w3.cell? ⟨W.heap.size, j, none⟩ = some v
  b : ∀ j v, B[j]? = some v → w3.cell? ⟨W.heap.size + 1, j, none⟩ = some v
  c : ∀ j v, C[j]? = some v → w3.cell? ⟨W.heap.size + 1 + 1, j, none⟩ = some v
  fc : ∀ j, w3.frozen? ⟨W.heap.size + 1 + 1, j, none⟩ = false
  fa : ∀ j, w3.frozen? ⟨W.heap.size, j, none⟩ = false
  fb : ∀ j, w3.frozen? ⟨W.heap.size + 1, j, none⟩ = false
theorem three (W : World) (A B C : Array Value) (t1 t2 t3 : TypeId) : Three W (((W.alloc (.cells A t1)).alloc (.cells B t2)).alloc (.cells C t3)) A B C := by
  have s1 : (W.alloc (.cells A t1)).heap.size = W.heap.size + 1 := by simp
  have s2 : ((W.alloc (.cells A t1)).alloc (.cells B t2)).heap.size = W.heap.size + 1 + 1 := by simp
  have g2 := (Gr.alloc (W.alloc (.cells A t1)) (.cells B t2)).allocR (.cells C t3)
  have g3 := Gr.alloc ((W.alloc (.cells A t1)).alloc (.cells B t2)) (.cells C t3)
  refine ⟨((Gr.alloc _ _).allocR _).allocR _, by simp, fun j v h => ?_, fun j v h => ?_, fun j v h => ?_, fun j => ?_, fun j => ?_, fun j => ?_⟩
  · exact (g2.cell (by simp)).trans (cell_new h)
  · rw [← s1]; exact (g3.cell (by simp)).trans (cell_new h)
  · rw [← s2]; exact cell_new h
  · rw [← s2]; exact frozen_new
  · exact (g2.frozen (by simp)).trans frozen_new
  · rw [← s1]; exact (g3.frozen (by simp)).trans frozen_new

def BPost (q : PP) (X : Nat → Prop) (W : World) (s : List Int) (e : Ending) (W' : World) : Prop := ∃ v, e = .returned v ∧ RestV X W' v (bestV q.f q.to q.bu s) ∧ PInv q X W' ∧ Only (fun b => b = q.m) W W'

/-- the boxes of a call of best -/
structure BLoc (q : PP) (W w : World) (a : Option Addr) (c : Nat) : Prop where
  gr : Gr W w
  b2 : w.cell? ⟨W.heap.size, 0, none⟩ = some (.pointer (some ⟨q.bp, 0, none⟩))
  b3 : w.cell? ⟨W.heap.size + 1, 0, none⟩ = some (.slice a q.n c)
  b40 : w.cell? ⟨W.heap.size + 1 + 1, 0, none⟩ = some (.int .i64 0)
  b41 : w.cell? ⟨W.heap.size + 1 + 1, 1, none⟩ = some (.int .i64 0)
  b42 : w.cell? ⟨W.heap.size + 1 + 1, 2, none⟩ = some (.slice none 0 0)
  b43 : w.cell? ⟨W.heap.size + 1 + 1, 3, none⟩ = some (.bool false)
  f40 : w.frozen? ⟨W.heap.size + 1 + 1, 0, none⟩ = false
  f41 : w.frozen? ⟨W.heap.size + 1 + 1, 1, none⟩ = false
  f42 : w.frozen? ⟨W.heap.size + 1 + 1, 2, none⟩ = false
  f43 : w.frozen? ⟨W.heap.size + 1 + 1, 3, none⟩ = false
  f2 : w.frozen? ⟨W.heap.size, 0, none⟩ = false
  f3 : w.frozen? ⟨W.heap.size + 1, 0, none⟩ = false
theorem BLoc.start (q : PP) (W : World) (a : Option Addr) (c : Nat) : BLoc q W (((W.alloc (.cells #[.pointer (some ⟨q.bp, 0, none⟩)] 76)).alloc (.cells #[.slice a q.n c] 26)).alloc (.cells #[.int .i64 0, .int .i64 0, .slice none 0 0, .bool false] 81)) a c := by
  have h3 := three W #[.pointer (some ⟨q.bp, 0, none⟩)] #[.slice a q.n c] #[.int .i64 0, .int .i64 0, .slice none 0 0, .bool false] 76 26 81
  exact ⟨h3.gr, h3.a 0 _ rfl, h3.b 0 _ rfl, h3.c 0 _ rfl, h3.c 1 _ rfl, h3.c 2 _ rfl, h3.c 3 _ rfl, h3.fc 0, h3.fc 1, h3.fc 2, h3.fc 3, h3.fa 0, h3.fb 0⟩
theorem BLoc.then {q : PP} {W w w' : World} {a : Option Addr} {c : Nat} (h : BLoc q W w a c) (g : Gr w w') : BLoc q W w' a c :=
  ⟨h.gr.trans g, (g.cell (lt_cell h.b2)).trans h.b2, (g.cell (lt_cell h.b3)).trans h.b3, (g.cell (lt_cell h.b40)).trans h.b40, (g.cell (lt_cell h.b41)).trans h.b41, (g.cell (lt_cell h.b42)).trans h.b42, (g.cell (lt_cell h.b43)).trans h.b43,
    (g.frozen (lt_cell h.b40)).trans h.f40, (g.frozen (lt_cell h.b41)).trans h.f41, (g.frozen (lt_cell h.b42)).trans h.f42, (g.frozen (lt_cell h.b43)).trans h.f43, (g.frozen (lt_cell h.b2)).trans h.f2, (g.frozen (lt_cell h.b3)).trans h.f3⟩

/-- what is stored into the result -/
theorem BLoc.store {q : PP} {W w : World} {a : Option Addr} {c : Nat} (h : BLoc q W w a c) (v0 v1 v2 v3 : Value) :
    Gr W ((((w.setCell ⟨W.heap.size + 1 + 1, 0, none⟩ v0).setCell ⟨W.heap.size + 1 + 1, 1, none⟩ v1).setCell ⟨W.heap.size + 1 + 1, 2, none⟩ v2).setCell ⟨W.heap.size + 1 + 1, 3, none⟩ v3) :=
  (((h.gr.setCell (by simp only; omega) v0).setCell (by simp only; omega) v1).setCell (by simp only; omega) v2).setCell (by simp only; omega) v3

theorem drewN_some (w : World) (n : Nat) : ∃ w4, w.drewN n = w4 ∧ Gr w w4 := ⟨_, rfl, Gr.drewN _ _⟩

set_option maxRecDepth 100000 in
set_option maxHeartbeats 1000000 in
theorem best_end (q : PP) (H : PHyp q) (X : Nat → Prop) (s : List Int) (W : World) (a : Option Addr) (c : Nat) (hI : PInv q X W) (hs : Ints W a q.n s) (he : s = q.to) :
    Calls Try.prog 52 #[.pointer (some ⟨q.bp, 0, none⟩), .slice a q.n c] W (BPost q X W s) := by
  have hv : Hid (bestV q.f q.to q.bu s = Rs.fin) := Lib.hid (by rw [bestV_eq (by rw [he]), if_pos he])
  have hde : Hid (decide (s = q.to) = true) := Lib.hid (by simpa using he)
  clear he
  have hL := BLoc.start q W a c
  obtain ⟨w3, hw3⟩ : ∃ w3, ((W.alloc (.cells #[.pointer (some ⟨q.bp, 0, none⟩)] 76)).alloc (.cells #[.slice a q.n c] 26)).alloc (.cells #[.int .i64 0, .int .i64 0, .slice none 0 0, .bool false] 81) = w3 := ⟨_, rfl⟩
  rw [hw3] at hL
  have hI3 := hI.gr hL.gr
  have hs3 := hs.gr hL.gr
  have hc2 := hI3.c2
  have b2 := hL.b2
  have b3 := hL.b3
  have heq : ∀ k, Hid (Calls Try.prog 53 #[.slice a q.n c, .slice q.toa q.n q.toc] (w3.drewN k) fun e w' => e = .returned (.bool true) ∧ ∃ m, w' = (w3.drewN k).drewN m) := fun k => Lib.hid (by
    have := equal_any a q.toa q.n c q.n q.toc s q.to (w3.drewN k) (hs3.gr (Gr.drewN _ _)) (hI3.ito.gr (Gr.drewN _ _))
    rw [hde.out] at this
    exact this)
  have HEQ := Lib.hid heq
  clear heq
  go_enter Try.func52, Try.ntmps52
  go_wp2_with fail
  clear hw3
  go_quiet ((go_at_call 53; exact Calls.quiet_of (HEQ.out _).out))
  obtain ⟨w4, hw4, g4⟩ := drewN_some w3 nq
  rw [hw4]
  clear hw4
  have hL4 := hL.then g4
  have b40 := hL4.b40
  have b41 := hL4.b41
  have b42 := hL4.b42
  have b43 := hL4.b43
  have f40 := hL4.f40
  have f41 := hL4.f41
  have f42 := hL4.f42
  have f43 := hL4.f43
  go_wp2_with fail
  have G := hL4.store
  exact bodyPost_ret (v := .agg #[.int .i64 0, .int .i64 0, .slice none 0 0, .bool true]) (by simp [results, Try.results49, go_sem, b40, b41, b42, b43]) rfl
    ⟨_, rfl, ⟨none, 0, 0, by rw [hv.out]; rfl, by rw [hv.out]; exact Ints.nil _, (fun ad h => by cases h)⟩, hI.gr (G _ _ _ _), (G _ _ _ _).only _⟩

set_option maxRecDepth 100000 in
set_option maxHeartbeats 1000000 in
theorem best_not (q : PP) (H : PHyp q) (X : Nat → Prop) (s : List Int) (W : World) (a : Option Addr) (c : Nat) (hI : PInv q X W) (hs : Ints W a q.n s) (he : ¬ s = q.to) (hna : aboveV q.to s = false) :
    Calls Try.prog 52 #[.pointer (some ⟨q.bp, 0, none⟩), .slice a q.n c] W (BPost q X W s) := by
  have hv : Hid (bestV q.f q.to q.bu s = Rs.no) := Lib.hid (by rw [bestV_eq (by rw [hs.len, hI.ito.len]), if_neg he, hna]; simp)
  have hde : Hid (decide (s = q.to) = false) := Lib.hid (by simpa using he)
  have hda := Lib.hid hna
  clear he hna
  have hL := BLoc.start q W a c
  obtain ⟨w3, hw3⟩ : ∃ w3, ((W.alloc (.cells #[.pointer (some ⟨q.bp, 0, none⟩)] 76)).alloc (.cells #[.slice a q.n c] 26)).alloc (.cells #[.int .i64 0, .int .i64 0, .slice none 0 0, .bool false] 81) = w3 := ⟨_, rfl⟩
  rw [hw3] at hL
  have hI3 := hI.gr hL.gr
  have hs3 := hs.gr hL.gr
  have hc2 := hI3.c2
  have b2 := hL.b2
  have b3 := hL.b3
  have heq : ∀ k, Hid (Calls Try.prog 53 #[.slice a q.n c, .slice q.toa q.n q.toc] (w3.drewN k) fun e w' => e = .returned (.bool false) ∧ ∃ m, w' = (w3.drewN k).drewN m) := fun k => Lib.hid (by
    have := equal_any a q.toa q.n c q.n q.toc s q.to (w3.drewN k) (hs3.gr (Gr.drewN _ _)) (hI3.ito.gr (Gr.drewN _ _))
    rw [hde.out] at this
    exact this)
  have HEQ := Lib.hid heq
  clear heq
  go_enter Try.func52, Try.ntmps52
  go_wp2_with fail
  clear hw3
  go_quiet ((go_at_call 53; exact Calls.quiet_of (HEQ.out _).out))
  obtain ⟨w4, hw4, g4⟩ := drewN_some w3 nq
  rw [hw4]
  clear hw4 b2 b3 hc2
  have hL4 := hL.then g4
  have hI4 := hI3.gr g4
  have hs4 := hs3.gr g4
  have hc2 := hI4.c2
  have b2 := hL4.b2
  have b3 := hL4.b3
  have hab : ∀ k, Hid (Calls Try.prog 58 #[.slice q.toa q.n q.toc, .slice a q.n c] (w4.drewN k) fun e w' => e = .returned (.bool false) ∧ ∃ m, w' = (w4.drewN k).drewN m) := fun k => Lib.hid (by
    have := above_any q.toa a q.n q.toc q.n c q.to s (w4.drewN k) (hI4.ito.gr (Gr.drewN _ _)) (hs4.gr (Gr.drewN _ _)) (Nat.le_refl _)
    rw [hda.out] at this
    exact this)
  have HAB := Lib.hid hab
  clear hab
  go_wp2_with fail
  go_quiet ((go_at_call 58; exact Calls.quiet_of (HAB.out _).out))
  obtain ⟨w5, hw5, g5⟩ := drewN_some w4 nq
  rw [hw5]
  clear hw5 b2 b3 hc2
  have hL5 := hL4.then g5
  have b40 := hL5.b40
  have b41 := hL5.b41
  have b42 := hL5.b42
  have b43 := hL5.b43
  have f40 := hL5.f40
  have f41 := hL5.f41
  have f42 := hL5.f42
  have f43 := hL5.f43
  go_wp2_with fail
  have G := hL5.store
  exact bodyPost_ret (v := .agg #[.int .i64 0, .int .i64 0, .slice none 0 0, .bool false]) (by simp [results, Try.results49, go_sem, b40, b41, b42, b43]) rfl
    ⟨_, rfl, ⟨none, 0, 0, by rw [hv.out]; rfl, by rw [hv.out]; exact Ints.nil _, (fun ad h => by cases h)⟩, hI.gr (G _ _ _ _), (G _ _ _ _).only _⟩
end
section
open Go.RowKit

/-- region 6 of best: a new block for what the memo holds -/
structure R6 (w6 : World) (v0 v1 v2 v3 : Value) (done : Nat → Bool) (W : World) : Prop where
  gr : Gr w6 W
  sz : done 9 = false → W.heap.size = w6.heap.size
  fz : done 9 = true → ∀ j, W.frozen? ⟨w6.heap.size, j, none⟩ = false
  ce : done 9 = true → done 10 = false → W.cell? ⟨w6.heap.size, 0, none⟩ = some (.int .i64 0) ∧ W.cell? ⟨w6.heap.size, 1, none⟩ = some (.int .i64 0) ∧ W.cell? ⟨w6.heap.size, 2, none⟩ = some (.slice none 0 0) ∧ W.cell? ⟨w6.heap.size, 3, none⟩ = some (.bool false)
  st : done 10 = true → W.cell? ⟨w6.heap.size, 0, none⟩ = some v0 ∧ W.cell? ⟨w6.heap.size, 1, none⟩ = some v1 ∧ W.cell? ⟨w6.heap.size, 2, none⟩ = some v2 ∧ W.cell? ⟨w6.heap.size, 3, none⟩ = some v3

theorem R6.start (w6 : World) (v0 v1 v2 v3 : Value) : R6 w6 v0 v1 v2 v3 (fun _ => false) w6.drew := ⟨Gr.drew _, fun _ => rfl, (fun h => by cases h), (fun h => by cases h), (fun h => by cases h)⟩
theorem R6.quiet {w6 W : World} {v0 v1 v2 v3 : Value} {done : Nat → Bool} (h : R6 w6 v0 v1 v2 v3 done W) {i : Nat} (h9 : 9 ≠ i) (h10 : 10 ≠ i) : R6 w6 v0 v1 v2 v3 (upd done i) W := by
  refine ⟨h.gr, ?_, ?_, ?_, ?_⟩ <;> simp only [upd_ne h9, upd_ne h10]
  · exact h.sz
  · exact h.fz
  · exact h.ce
  · exact h.st
theorem R6.alloc {w6 W : World} {v0 v1 v2 v3 : Value} {done : Nat → Bool} (h : R6 w6 v0 v1 v2 v3 done W) (hsz : W.heap.size = w6.heap.size) (h10 : done 10 = false) :
    R6 w6 v0 v1 v2 v3 (upd done 9) (W.alloc (.cells #[.int .i64 0, .int .i64 0, .slice none 0 0, .bool false] 81)) := by
  refine ⟨h.gr.allocR _, (fun h => by rw [upd_self] at h; cases h), fun _ j => by rw [← hsz]; exact frozen_new, fun _ _ => ?_, (fun h => by rw [upd_ne (by decide), h10] at h; cases h)⟩
  rw [← hsz]
  exact ⟨cell_new rfl, cell_new rfl, cell_new rfl, cell_new rfl⟩
theorem setCell4 {w : World} {b : Nat} {x0 x1 x2 x3 : Value} (h0 : w.cell? ⟨b, 0, none⟩ = some x0) (h1 : w.cell? ⟨b, 1, none⟩ = some x1) (h2 : w.cell? ⟨b, 2, none⟩ = some x2) (h3 : w.cell? ⟨b, 3, none⟩ = some x3) (v0 v1 v2 v3 : Value) (W' : World)
    (hW : W' = (((w.setCell ⟨b, 0, none⟩ v0).setCell ⟨b, 1, none⟩ v1).setCell ⟨b, 2, none⟩ v2).setCell ⟨b, 3, none⟩ v3) :
    W'.cell? ⟨b, 0, none⟩ = some v0 ∧ W'.cell? ⟨b, 1, none⟩ = some v1 ∧ W'.cell? ⟨b, 2, none⟩ = some v2 ∧ W'.cell? ⟨b, 3, none⟩ = some v3 ∧ (∀ j, W'.frozen? ⟨b, j, none⟩ = w.frozen? ⟨b, j, none⟩) ∧ W'.heap.size = w.heap.size ∧ (∀ a, a ≠ b → W'.heap[a]? = w.heap[a]?) := by
  subst hW
  refine ⟨?_, ?_, ?_, ?_, ?_, ?_, ?_⟩
  · simp [go_sem, h0]
  · simp [go_sem, h1]
  · simp [go_sem, h2]
  · simp [go_sem, h3]
  · intro j; simp
  · simp
  · intro a ha
    rw [Below.heap_setCell _ _ _ _ ha, Below.heap_setCell _ _ _ _ ha, Below.heap_setCell _ _ _ _ ha, Below.heap_setCell _ _ _ _ ha]
theorem R6.stored {w6 W : World} {v0 v1 v2 v3 : Value} {done : Nat → Bool} (h : R6 w6 v0 v1 v2 v3 done W) (h9 : done 9 = true) (h10 : done 10 = false) :
    R6 w6 v0 v1 v2 v3 (upd done 10) ((((W.setCell ⟨w6.heap.size, 0, none⟩ v0).setCell ⟨w6.heap.size, 1, none⟩ v1).setCell ⟨w6.heap.size, 2, none⟩ v2).setCell ⟨w6.heap.size, 3, none⟩ v3) := by
  obtain ⟨z0, z1, z2, z3⟩ := h.ce h9 h10
  obtain ⟨s0, s1, s2, s3, s4, s5, s6⟩ := setCell4 z0 z1 z2 z3 v0 v1 v2 v3 _ rfl
  refine ⟨(((h.gr.setCell (Nat.le_refl _) _).setCell (Nat.le_refl _) _).setCell (Nat.le_refl _) _).setCell (Nat.le_refl _) _, (fun h => by rw [upd_ne (by decide), h9] at h; cases h), fun _ j => by rw [s4]; exact h.fz h9 j, (fun _ h => by rw [upd_self] at h; cases h), fun _ => ⟨s0, s1, s2, s3⟩⟩

theorem StOk.small {f : Fl} {s : List Int} (hok : FlOk f) (h : StOk f s) : Small s := fun c => by
  by_cases hc : c < f.times.length
  · have h1 := h.ver c hc
    have h2 := hok.row c hc
    omega
  · rw [List.getElem?_eq_none (by rw [h.len]; omega)]; simp

/-- the boxes of best behind its key -/
structure BKey (q : PP) (X : Nat → Prop) (W w : World) (a : Option Addr) (c : Nat) (kb : Nat) (s : List Int) : Prop where
  loc : BLoc q W w a c
  inv : PInv q X w
  is : Ints w a q.n s
  kge : W.heap.size + 1 + 1 < kb
  k0 : w.cell? ⟨kb, 0, none⟩ = some (.int .i64 (s[0]?.getD 0))
  k1 : w.cell? ⟨kb, 1, none⟩ = some (.int .i64 (s[1]?.getD 0))
  k2 : w.cell? ⟨kb, 2, none⟩ = some (.int .i64 (s[2]?.getD 0))
  k3 : w.cell? ⟨kb, 3, none⟩ = some (.int .i64 (s[3]?.getD 0))
  k4 : w.cell? ⟨kb, 4, none⟩ = some (.int .i64 (s[4]?.getD 0))
  k5 : w.cell? ⟨kb, 5, none⟩ = some (.int .i64 (s[5]?.getD 0))
  kf : ∀ j, w.frozen? ⟨kb, j, none⟩ = false

theorem BKey.then {q : PP} {X : Nat → Prop} {W w w' : World} {a : Option Addr} {c kb : Nat} {s : List Int} (h : BKey q X W w a c kb s) (g : Gr w w') : BKey q X W w' a c kb s :=
  ⟨h.loc.then g, h.inv.gr g, h.is.gr g, h.kge, (g.cell (lt_cell h.k0)).trans h.k0, (g.cell (lt_cell h.k1)).trans h.k1, (g.cell (lt_cell h.k2)).trans h.k2, (g.cell (lt_cell h.k3)).trans h.k3, (g.cell (lt_cell h.k4)).trans h.k4, (g.cell (lt_cell h.k5)).trans h.k5, fun j => (g.frozen (p := ⟨kb, j, none⟩) (show kb < w.heap.size from lt_cell (p := ⟨kb, 0, none⟩) h.k0)).trans (h.kf j)⟩

theorem BKey.of {q : PP} {X : Nat → Prop} {W w : World} {a : Option Addr} {c : Nat} {s : List Int} (hL : BLoc q W w a c) (hI : PInv q X w) (hs : Ints w a q.n s) :
    BKey q X W (w.alloc (.cells #[.int .i64 (s[0]?.getD 0), .int .i64 (s[1]?.getD 0), .int .i64 (s[2]?.getD 0), .int .i64 (s[3]?.getD 0), .int .i64 (s[4]?.getD 0), .int .i64 (s[5]?.getD 0)] 90)) a c w.heap.size s :=
  ⟨hL.then (Gr.alloc _ _), hI.gr (Gr.alloc _ _), hs.gr (Gr.alloc _ _), lt_cell hL.b40, cell_new rfl, cell_new rfl, cell_new rfl, cell_new rfl, cell_new rfl, cell_new rfl, fun _ => frozen_new⟩


/-- what a lookup in the memo gives -/
theorem best_lookup {q : PP} (H : PHyp q) {X : Nat → Prop} {s : List Int} {w : World} (hI : PInv q X w) (hst : StOk q.f s) (hl : s.length = q.n) :
    ∃ (st ti : Int) (xa : Option Addr) (xk xc : Nat) (xb b : Bool), (∀ W : World, W.heap[q.m]? = w.heap[q.m]? → (Instr.lookup 77 (.map (some q.m)) (.agg #[.int .i64 (s[0]?.getD 0), .int .i64 (s[1]?.getD 0), .int .i64 (s[2]?.getD 0), .int .i64 (s[3]?.getD 0), .int .i64 (s[4]?.getD 0), .int .i64 (s[5]?.getD 0)]) true).run Try.prog W = .ok (.tuple #[.agg #[.int .i64 st, .int .i64 ti, .slice xa xk xc, .bool xb], .bool b]) W) ∧
      (b = true → RestV X w (.agg #[.int .i64 st, .int .i64 ti, .slice xa xk xc, .bool xb]) (bestV q.f q.to q.bu s)) := by
  obtain ⟨es, clk, hb, hall, hpw⟩ := hI.memo
  have hsm := hst.small H.ok
  obtain ⟨l, hlk⟩ := keyOf_keyV hsm
  have K := Try.akey.law
  have hkeys : ∀ e ∈ es.toList, ∃ l, keyOf Try.prog 90 e.key = some l := fun e he => by obtain ⟨s', h1, h2, _⟩ := hall e he; rw [h1]; exact keyOf_keyV h2
  rcases K.find w hlk es.toList hkeys with ⟨h1, h2⟩ | ⟨j, e0, h1, h2, h3⟩
  · refine ⟨0, 0, none, 0, 0, false, false, fun W hW => ?_, fun h => by cases h⟩
    rcases K.find W hlk es.toList hkeys with ⟨h1', h2'⟩ | ⟨j', e0', h1', h2', h3'⟩
    · have hbW := hW.trans hb
      show (Instr.lookup 77 (.map (some q.m)) (keyV s) true).run Try.prog W = _
      simp [Instr.lookup, run_underlying Try.underlying77, MapKept.run_getObj_map hbW, K.check W _ hlk, h1']
    · exact absurd h3' (h2 e0' (List.mem_of_getElem? h2'))
  · have hm0 : e0 ∈ es.toList := List.mem_of_getElem? h2
    obtain ⟨s', k1, k2, k3, k4⟩ := hall e0 hm0
    have hss : s' = s := keyV_inj (by rw [k3, hl]) (by rw [k3, H.nt]; exact H.ok.n6) (by rw [← k1, h3])
    subst hss
    obtain ⟨a, k, c, hv, hi, h3t⟩ := k4
    refine ⟨_, _, _, _, _, _, true, fun W hW => ?_, fun _ => ⟨a, k, c, rfl, hi, h3t⟩⟩
    rcases K.find W hlk es.toList hkeys with ⟨h1', h2'⟩ | ⟨j', e0', h1', h2', h3'⟩
    · exact absurd h3 (h2' e0 hm0)
    · have hm0' : e0' ∈ es.toList := List.mem_of_getElem? h2'
      have hbW := hW.trans hb
      show (Instr.lookup 77 (.map (some q.m)) (keyV s') true).run Try.prog W = _
      simp [Instr.lookup, run_underlying Try.underlying77, MapKept.run_getObj_map hbW, K.check W _ hlk, h1', Result.andThen]
      rw [pairwise_same hpw hm0' hm0 (by rw [h3', h3]), hv]
end
section
open Go.RowKit

/-- X, and the blocks from lo to hi -/
def XL (X : Nat → Prop) (lo hi : Nat) : Nat → Prop := fun b => X b ∨ (lo ≤ b ∧ b ≤ hi)

def bestL (q : PP) (W : World) (a : Option Addr) (c kb : Nat) (s : List Int) : List (Addr × Value) :=
  [(⟨W.heap.size, 0, none⟩, .pointer (some ⟨q.bp, 0, none⟩)), (⟨W.heap.size + 1, 0, none⟩, .slice a q.n c),
    (⟨W.heap.size + 1 + 1, 0, none⟩, .int .i64 0), (⟨W.heap.size + 1 + 1, 1, none⟩, .int .i64 0), (⟨W.heap.size + 1 + 1, 2, none⟩, .slice none 0 0), (⟨W.heap.size + 1 + 1, 3, none⟩, .bool false),
    (⟨kb, 0, none⟩, .int .i64 (s[0]?.getD 0)), (⟨kb, 1, none⟩, .int .i64 (s[1]?.getD 0)), (⟨kb, 2, none⟩, .int .i64 (s[2]?.getD 0)), (⟨kb, 3, none⟩, .int .i64 (s[3]?.getD 0)), (⟨kb, 4, none⟩, .int .i64 (s[4]?.getD 0)), (⟨kb, 5, none⟩, .int .i64 (s[5]?.getD 0))]
def restL (b : Nat) (r : Rs) (a : Option Addr) (k c : Nat) : List (Addr × Value) :=
  [(⟨b, 0, none⟩, .int .i64 r.steps), (⟨b, 1, none⟩, .int .i64 r.time), (⟨b, 2, none⟩, .slice a k c), (⟨b, 3, none⟩, .bool r.is)]

def foldV (q : PP) (s : List Int) (done : List (List Int)) : Rs := done.foldl (bestStep q.f.times q.bu s (bestV q.f q.to q.bu)) Rs.no

structure BI (q : PP) (X : Nat → Prop) (W : World) (s : List Int) (a : Option Addr) (c kb b8 D : Nat) (done : List (List Int)) (w : World) : Prop where
  on : Only (fun b => b = q.m ∨ W.heap.size ≤ b) W w
  loc : LCells w (bestL q W a c kb s)
  memo : Memo w q.m (fun s v => s.length = q.n ∧ RestV (XL X W.heap.size (D + 4)) w v (bestV q.f q.to q.bu s))
  best : ∃ a' k' c', LCells w (restL b8 (foldV q s done) a' k' c') ∧ Ints w a' k' (foldV q s done).nxt ∧ ∀ ad, a' = some ad → D + 4 < ad.block ∧ Is3 w ad.block

theorem PInv.nocS {q : PP} {X : Nat → Prop} {W : World} (h : PInv q X W) : NoCells (fun b => b = q.m ∨ W.heap.size ≤ b) W := by
  intro b cs t fr hs hb
  rcases hs with hs | hs
  · exact h.noc b cs t fr hs hb
  · have := (Array.getElem?_eq_some_iff.1 hb).1; omega

theorem BI.inv {q : PP} {X : Nat → Prop} {W w : World} {s : List Int} {a : Option Addr} {c kb b8 D : Nat} {done : List (List Int)} (h : BI q X W s a c kb b8 D done w) (hI : PInv q X W) : PInv q (XL X W.heap.size (D + 4)) w :=
  ⟨h.on.cellN hI.nocS hI.c0, h.on.cellN hI.nocS hI.c1, h.on.cellN hI.nocS hI.c2, h.on.cellN hI.nocS hI.c3, h.on.cellN hI.nocS hI.c4, hI.fl.only h.on hI.nocS, hI.ito.only h.on hI.nocS, h.memo⟩

theorem bestL_blocks {q : PP} {W : World} {a : Option Addr} {c kb : Nat} {s : List Int} : ∀ p ∈ bestL q W a c kb s, p.1.block = W.heap.size ∨ p.1.block = W.heap.size + 1 ∨ p.1.block = W.heap.size + 1 + 1 ∨ p.1.block = kb := by
  intro p hp
  simp only [bestL, List.mem_cons, List.not_mem_nil, or_false] at hp
  rcases hp with rfl | rfl | rfl | rfl | rfl | rfl | rfl | rfl | rfl | rfl | rfl | rfl <;> simp
theorem restL_blocks {b : Nat} {r : Rs} {a : Option Addr} {k c : Nat} : ∀ p ∈ restL b r a k c, p.1.block = b := by
  intro p hp
  simp only [restL, List.mem_cons, List.not_mem_nil, or_false] at hp
  rcases hp with rfl | rfl | rfl | rfl <;> rfl

theorem BKey.cells {q : PP} {X : Nat → Prop} {W w : World} {a : Option Addr} {c kb : Nat} {s : List Int} (h : BKey q X W w a c kb s) : LCells w (bestL q W a c kb s) := by
  intro p hp
  simp only [bestL, List.mem_cons, List.not_mem_nil, or_false] at hp
  rcases hp with rfl | rfl | rfl | rfl | rfl | rfl | rfl | rfl | rfl | rfl | rfl | rfl
  · exact ⟨h.loc.b2, h.loc.f2⟩
  · exact ⟨h.loc.b3, h.loc.f3⟩
  · exact ⟨h.loc.b40, h.loc.f40⟩
  · exact ⟨h.loc.b41, h.loc.f41⟩
  · exact ⟨h.loc.b42, h.loc.f42⟩
  · exact ⟨h.loc.b43, h.loc.f43⟩
  · exact ⟨h.k0, h.kf 0⟩
  · exact ⟨h.k1, h.kf 1⟩
  · exact ⟨h.k2, h.kf 2⟩
  · exact ⟨h.k3, h.kf 3⟩
  · exact ⟨h.k4, h.kf 4⟩
  · exact ⟨h.k5, h.kf 5⟩

/-- how the numbers of the blocks lie -/
structure BNum (q : PP) (W : World) (kb b8 D : Nat) : Prop where
  i1 : q.m < W.heap.size
  i2 : W.heap.size + 1 + 1 < kb
  i3 : kb < b8
  i4 : b8 < D

/-- the loop's own block, the iterator's buffer, and new blocks may turn -/
theorem BI.keep {q : PP} {X : Nat → Prop} {W w w' : World} {s : List Int} {a : Option Addr} {c kb b8 D : Nat} {done : List (List Int)} (h : BI q X W s a c kb b8 D done w) (hn : BNum q W kb b8 D) (g : Only (fun b => b = D + 1 ∨ b = D + 4) w w') : BI q X W s a c kb b8 D done w' := by
  have h1 := hn.i1
  have h2 := hn.i2
  have h3 := hn.i3
  have h4 := hn.i4
  refine ⟨h.on.trans (g.mono' (fun i e => .inr (by omega))), h.loc.only g (fun p hp => by have := bestL_blocks p hp; omega), ?_, ?_⟩
  · refine h.memo.mono (g.block _ h.memo.lt (by omega)) (fun s v hv => ⟨hv.1, hv.2.onlyX g (fun b e => .inr (by omega))⟩)
  · obtain ⟨a', k', c', hl, hi, had⟩ := h.best
    refine ⟨a', k', c', hl.only g (fun p hp => by have := restL_blocks p hp; omega), hi.onlyAt g (fun ad e => by have := (had ad e).1; omega), fun ad e => ?_⟩
    have := (had ad e).1
    exact ⟨this, (had ad e).2.only g (by omega)⟩
theorem BI.gr {q : PP} {X : Nat → Prop} {W w w' : World} {s : List Int} {a : Option Addr} {c kb b8 D : Nat} {done : List (List Int)} (h : BI q X W s a c kb b8 D done w) (hn : BNum q W kb b8 D) (g : Gr w w') : BI q X W s a c kb b8 D done w' := h.keep hn (g.only _)

/-- a call of best in a round -/
theorem BI.call {q : PP} {X : Nat → Prop} {W w w' : World} {s : List Int} {a : Option Addr} {c kb b8 D : Nat} {done : List (List Int)} (h : BI q X W s a c kb b8 D done w) (hI : PInv q X W) (g : Only (fun b => b = q.m) w w') (hI' : PInv q (XL X W.heap.size (D + 4)) w') : BI q X W s a c kb b8 D done w' := by
  have hn := (h.inv hI).noc
  refine ⟨h.on.trans (g.mono' (fun i e => .inl e)), h.loc.onlyN g hn, hI'.memo, ?_⟩
  obtain ⟨a', k', c', hl, hi, had⟩ := h.best
  exact ⟨a', k', c', hl.onlyN g hn, hi.only g hn, fun ad e => ⟨(had ad e).1, (had ad e).2.onlyN g hn⟩⟩

/-- best has turned -/
theorem BI.set {q : PP} {X : Nat → Prop} {W w w' : World} {s x : List Int} {a : Option Addr} {c kb b8 D : Nat} {done : List (List Int)} (h : BI q X W s a c kb b8 D done w) (hn : BNum q W kb b8 D) (g : Only (fun b => b = b8) w w')
    {a' : Option Addr} {k' c' : Nat} (hl : LCells w' (restL b8 (foldV q s (done ++ [x])) a' k' c')) (hi : Ints w' a' k' (foldV q s (done ++ [x])).nxt) (had : ∀ ad, a' = some ad → D + 4 < ad.block ∧ Is3 w' ad.block) : BI q X W s a c kb b8 D (done ++ [x]) w' := by
  have h1 := hn.i1
  have h2 := hn.i2
  have h3 := hn.i3
  have h4 := hn.i4
  exact ⟨h.on.trans (g.mono' (fun i e => .inr (by omega))), h.loc.only g (fun p hp => by have := bestL_blocks p hp; omega), h.memo.mono (g.block _ h.memo.lt (by omega)) (fun s v hv => ⟨hv.1, hv.2.onlyX g (fun b e => .inr (by omega))⟩), a', k', c', hl, hi, had⟩
theorem BI.same {q : PP} {X : Nat → Prop} {W w : World} {s x : List Int} {a : Option Addr} {c kb b8 D : Nat} {done : List (List Int)} (h : BI q X W s a c kb b8 D done w) (he : foldV q s (done ++ [x]) = foldV q s done) : BI q X W s a c kb b8 D (done ++ [x]) w := by
  refine ⟨h.on, h.loc, h.memo, ?_⟩
  rw [he]
  exact h.best
theorem BI.start {q : PP} {X : Nat → Prop} {W w : World} {s : List Int} {a : Option Addr} {c kb b8 D : Nat} (hI : PInv q X W) (hK : BKey q X W w a c kb s) (hl : LCells w (restL b8 Rs.no none 0 0)) : BI q X W s a c kb b8 D [] w := by
  refine ⟨hK.loc.gr.only _, hK.cells, ?_, none, 0, 0, hl, Ints.nil _, fun ad e => by cases e⟩
  have h1 := (hI.wide (X' := XL X W.heap.size (D + 4)) (fun b hb hx => by
    rcases hx with hx | hx
    · exact hx
    · omega)).gr hK.loc.gr
  exact h1.memo
/-- what the iterator reads -/
theorem PInv.base {q : PP} {X : Nat → Prop} {W : World} {a : Option Addr} {s : List Int} (H : PHyp q) (h : PInv q X W) (hs : Ints W a q.n s) (hst : StOk q.f s) : SBase W (fun b => b = q.m ∨ W.heap.size ≤ b) q.f q.ta q.tn q.ca q.cn a q.toa q.n s q.to :=
  ⟨H.ok, h.fl, hs, h.ito, fun W' g => ⟨h.fl.only g h.nocS, hs.only g h.nocS, h.ito.only g h.nocS⟩, fun b hb => .inr hb, by have := H.ok.n1; have := H.nt; omega, H.nt, fun c hc => (hst.ver c (by rw [← H.nt]; exact hc)).1, fun c hc => (H.sto.ver c (by rw [← H.nt]; exact hc)).2⟩
end
end Go.Proofs.Ytaidcocjcidggaa
