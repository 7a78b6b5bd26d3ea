/- Several texts of this claim in one file. (1) A walk by lemmas: one lemma for each kind of operation. Nothing of the program is proved here. (2) A walk by lemmas: entering a function, what lies between regions, loops, the return. Nothing of the program is proved here. (3) Closed facts about the types. (4) A list of numbers that a call collects. Nothing of the program is proved here. (5) A walk by lemmas: plain regions, one operation after the other, so that new blocks have names. Nothing of the program is proved here. (6) A walk by lemmas, within rounds and with marks too; regions whose values are known by a property. Nothing of the program is proved here. (7) Blocks of a call's own that it turns. Nothing of the program is proved here. (8) Rules for a range over a function in which a round knows how far it has come. Nothing of the program is proved here. (9) The reference's list of all states that work: plain words; lists that are joined; the invariant of its region. (10) A walk by lemmas: properties of values, and a range over states. -/
import Derived.Test.YtlilojpnhmfnaaaBd7
import Derived.Test.YtlilojpnhmfnaaaBd3
import Derived.WalkSpells
import Derived.Deep.LoopGhost
import Derived.Test.YtlilojpnhmfnaaaProg
import Derived.Test.YtlilojpnhmfnaaaBd4
import Derived.Deep.Upon
namespace Go.Proofs.Ytlilojpnhmfnaaa
section
open Go.RowKit
namespace X
variable {P : Program} {o : Oper} {ρ : Operand → Value} {W W' : World}

theorem w0 {y : Nat → Option Bool} (hg : o.guard = none) : Region.wanted o y = true := by simp [Region.wanted, hg]
theorem w1 {y : Nat → Option Bool} {j : Nat} {b : Bool} (hg : o.guard = some (j, b)) (hy : y j = some b) : Region.wanted o y = true := by simp [Region.wanted, hg, hy]
theorem w2 {y : Nat → Option Bool} {j : Nat} {b b' : Bool} (hg : o.guard = some (j, b)) (hy : y j = some b') (hne : (b' == b) = false) : Region.wanted o y = false := by simp [Region.wanted, hg, hy]; simpa using hne

section
variable {l : List Oper} {vs : List (Option Value)} {Q : Exit → Act → World → Prop} {R : (Nat → Bool) → (Nat → Value) → World → Prop} {i : Nat} {A : Act} {done : Nat → Bool} {u : Nat → Value} {y : Nat → Option Bool}
/-- an operation that gives a value -/
theorem val {v : Value} (hw : Region.wanted o y = true) (hv : vs[i]? = some (some v)) (hrun : (execOp A.eval o).run P W = .ok (.value v) W') (hR : R (upd done i) (fun j => if j = i then v else u j) W') :
    if Region.wanted o y then ∀ K : Act → World → Prop, (∀ v W', (∀ x, vs[i]? = some (some x) → v = x) → R (upd done i) (fun j => if j = i then v else u j) W' → K (A.put o.dst v) W') → o.wp P A W K Q
    else (vs[i]? = some none ∧ R (upd done i) (fun j => if j = i then undef else u j) W) := by
  rw [if_pos hw]
  intro K hK
  unfold Oper.wp
  rw [hrun]
  exact hK v W' (fun x hx => by rw [hv] at hx; injection hx with hx; injection hx) hR
/-- an operation whose value is not known ahead -/
theorem valN {v : Value} (hw : Region.wanted o y = true) (hv : vs[i]? = some none) (hrun : (execOp A.eval o).run P W = .ok (.value v) W') (hR : R (upd done i) (fun j => if j = i then v else u j) W') :
    if Region.wanted o y then ∀ K : Act → World → Prop, (∀ v W', (∀ x, vs[i]? = some (some x) → v = x) → R (upd done i) (fun j => if j = i then v else u j) W' → K (A.put o.dst v) W') → o.wp P A W K Q
    else (vs[i]? = some none ∧ R (upd done i) (fun j => if j = i then undef else u j) W) := by
  rw [if_pos hw]
  intro K hK
  unfold Oper.wp
  rw [hrun]
  exact hK v W' (fun x hx => by rw [hv] at hx; cases hx) hR
/-- an operation that gives none -/
theorem unit (hw : Region.wanted o y = true) (hv : vs[i]? = some none) (hrun : (execOp A.eval o).run P W = .ok .skip W') (hR : R (upd done i) (fun j => if j = i then undef else u j) W') :
    if Region.wanted o y then ∀ K : Act → World → Prop, (∀ v W', (∀ x, vs[i]? = some (some x) → v = x) → R (upd done i) (fun j => if j = i then v else u j) W' → K (A.put o.dst v) W') → o.wp P A W K Q
    else (vs[i]? = some none ∧ R (upd done i) (fun j => if j = i then undef else u j) W) := by
  rw [if_pos hw]
  intro K hK
  unfold Oper.wp
  rw [hrun]
  exact hK undef W' (fun x hx => by rw [hv] at hx; cases hx) hR
/-- an operation that is not wanted -/
theorem skip (hw : Region.wanted o y = false) (hv : vs[i]? = some none) (hR : R (upd done i) (fun j => if j = i then undef else u j) W) :
    if Region.wanted o y then ∀ K : Act → World → Prop, (∀ v W', (∀ x, vs[i]? = some (some x) → v = x) → R (upd done i) (fun j => if j = i then v else u j) W' → K (A.put o.dst v) W') → o.wp P A W K Q
    else (vs[i]? = some none ∧ R (upd done i) (fun j => if j = i then undef else u j) W) := by
  rw [if_neg (by rw [hw]; decide)]
  exact ⟨hv, hR⟩
/-- a call by its contract -/
theorem call {F : FuncId} {args : Array Value} {T : Ending → World → Prop} (hw : Region.wanted o y = true) (hrun : (execOp A.eval o).run P W = .ok (.enter F args) W) (hc : Calls P F args W T)
    (hT : ∀ e W', T e W' → ∃ v, e = .returned v ∧ (∀ x, vs[i]? = some (some x) → v = x) ∧ R (upd done i) (fun j => if j = i then v else u j) W') :
    if Region.wanted o y then ∀ K : Act → World → Prop, (∀ v W', (∀ x, vs[i]? = some (some x) → v = x) → R (upd done i) (fun j => if j = i then v else u j) W' → K (A.put o.dst v) W') → o.wp P A W K Q
    else (vs[i]? = some none ∧ R (upd done i) (fun j => if j = i then undef else u j) W) := by
  rw [if_pos hw]
  intro K hK
  unfold Oper.wp
  rw [hrun]
  refine hc.mono fun e W' h => ?_
  obtain ⟨v, rfl, h1, h2⟩ := hT e W' h
  exact hK v W' h1 h2
/-- a builtin by a law at Oper.wp -/
theorem law (hw : Region.wanted o y = true) (h : ∀ K : Act → World → Prop, (∀ v W', (∀ x, vs[i]? = some (some x) → v = x) → R (upd done i) (fun j => if j = i then v else u j) W' → K (A.put o.dst v) W') → o.wp P A W K Q) :
    if Region.wanted o y then ∀ K : Act → World → Prop, (∀ v W', (∀ x, vs[i]? = some (some x) → v = x) → R (upd done i) (fun j => if j = i then v else u j) W' → K (A.put o.dst v) W') → o.wp P A W K Q
    else (vs[i]? = some none ∧ R (upd done i) (fun j => if j = i then undef else u j) W) := by
  rw [if_pos hw]; exact h
end

theorem run_v {s : Sem Value} {v : Value} (h : s.run P W = .ok v W') : (do pure (Next.value (← s)) : Sem Next).run P W = .ok (.value v) W' := by simp [h, go_sem]
theorem run_u {s : Sem Unit} (h : s.run P W = .ok () W') : (do s; pure Next.skip : Sem Next).run P W = .ok .skip W' := by simp [h, go_sem]

theorem move {x : Operand} {v : Value} (ho : o.op = .move x) (hx : ρ x = v) : (execOp ρ o).run P W = .ok (.value v) W := by
  unfold execOp; rw [ho]; simp [hx]
theorem assign {x : Operand} {v : Value} (ho : o.op = .assign x) (hx : ρ x = v) : (execOp ρ o).run P W = .ok (.value v) W := by
  unfold execOp; rw [ho]; simp [hx]
theorem pickT {c x y : Operand} {v : Value} (ho : o.op = .pick c x y) (hc : ρ c = .bool true) (hx : ρ x = v) : (execOp ρ o).run P W = .ok (.value v) W := by
  unfold execOp; rw [ho]; simp [hc, hx, asBool, go_sem]
theorem pickF {c x y : Operand} {v : Value} (ho : o.op = .pick c x y) (hc : ρ c = .bool false) (hy : ρ y = v) : (execOp ρ o).run P W = .ok (.value v) W := by
  unfold execOp; rw [ho]; simp [hc, hy, asBool, go_sem]
theorem load {t : TypeId} {x : Operand} {p : Value} {v : Value} (ho : o.op = .load t x) (hx : ρ x = p) (hr : (Instr.loadAt t p).run P W = .ok v W) : (execOp ρ o).run P W = .ok (.value v) W := by
  unfold execOp; rw [ho]; simp only [hx]; exact run_v hr
theorem store {t : TypeId} {x y : Operand} {p v : Value} (ho : o.op = .store t x y) (hx : ρ x = p) (hy : ρ y = v) (hr : (Instr.storeAt t p v).run P W = .ok () W') : (execOp ρ o).run P W = .ok .skip W' := by
  unfold execOp; rw [ho]; simp only [hx, hy]; exact run_u hr
theorem extract {x : Operand} {k : Nat} {vs : Array Value} {v : Value} (ho : o.op = .extract x k) (hx : ρ x = .tuple vs) (hv : vs[k]? = some v) : (execOp ρ o).run P W = .ok (.value v) W := by
  unfold execOp; rw [ho]; simp [hx, Instr.extract, hv, go_sem]
theorem notB {b : Bool} {t : TypeId} {x : Operand} (ho : o.op = .unOp .not t x) (hx : ρ x = .bool b) {c : Bool} (hc : (!b) = c) : (execOp ρ o).run P W = .ok (.value (.bool c)) W := by
  unfold execOp; rw [ho]; simp [hx, Op.unary, hc, go_sem]
theorem binop {op : BinOp} {t t' : TypeId} {x y : Operand} {p q v : Value} (ho : o.op = .binOp op t x y t') (hx : ρ x = p) (hy : ρ y = q) (hr : (do eqGuard op t x y p q; binOp op t p q : Sem Value).run P W = .ok v W) : (execOp ρ o).run P W = .ok (.value v) W := by
  unfold execOp; rw [ho]; simp only [hx, hy]; exact run_v hr
theorem field {t : TypeId} {x : Operand} {k : Nat} {p v : Value} (ho : o.op = .fieldAddr t x k) (hx : ρ x = p) (hr : (Instr.fieldAt t p k).run P W = .ok v W) : (execOp ρ o).run P W = .ok (.value v) W := by
  unfold execOp; rw [ho]; simp only [hx]; exact run_v hr
theorem index {t : TypeId} {x y : Operand} {p q v : Value} (ho : o.op = .indexAddr t x y) (hx : ρ x = p) (hy : ρ y = q) (hr : (Instr.indexAt t p q).run P W = .ok v W) : (execOp ρ o).run P W = .ok (.value v) W := by
  unfold execOp; rw [ho]; simp only [hx, hy]; exact run_v hr
theorem box {t : TypeId} {x : Operand} {p v : Value} (ho : o.op = .box t x) (hx : ρ x = p) (hr : (Instr.box t p).run P W = .ok v W') : (execOp ρ o).run P W = .ok (.value v) W' := by
  unfold execOp; rw [ho]; simp only [hx]; exact run_v hr
theorem len1 {x : Operand} {tx e : TypeId} {a : Option Addr} {n c : Nat} (hu : P.underlying tx = some (.slice e)) (ho : o.op = .call { callee := .builtin .len, args := #[x], argTypes := #[tx] }) (hx : ρ x = .slice a n c) : (execOp ρ o).run P W = .ok (.value (.int .i64 n)) W := by
  unfold execOp; rw [ho]; simp [hx, resolve, invoke, builtin, Builtin.len_, run_underlying hu, go_sem]
theorem enter {f : Operand} {args : Array Operand} {ats : Array TypeId} {F : FuncId} {cap : Array Value} {vs : List Value} (ho : o.op = .call { callee := .value f, args := args, argTypes := ats }) (hf : ρ f = .func (.func F) #[] cap) (hargs : args.toList.map ρ = vs)
    (he : ∀ W, (callFunc F (vs.toArray ++ cap)).run P W = .ok (.enter F (vs.toArray ++ cap)) W) : (execOp ρ o).run P W = .ok (.enter F (vs.toArray ++ cap)) W := by
  unfold execOp; rw [ho]
  have : (args.map ρ) = vs.toArray := by
    cases args with
    | mk l => subst hargs; simp
  simp [hf, resolve, invoke, this, go_sem, he]

/-- loads -/
theorem ld1 {t : TypeId} {p : Addr} {v : Value} (hA : (isAgg t).run P W = .ok false W) (hc : W.cell? p = some v) : (Instr.loadAt t (.pointer (some p))).run P W = .ok v W := by
  simp [Instr.loadAt, loadVar, Instr.sureAddr, hA, hc, go_sem]
theorem loadCells_run {p : Addr} : ∀ (n k : Nat) (acc : Array Value) (vs : List Value), vs.length = n → (∀ j v, vs[j]? = some v → W.cell? (p.add (k + j)) = some v) → (loadCellsFrom p k n acc).run P W = .ok (acc ++ vs.toArray) W := by
  intro n
  induction n with
  | zero => intro k acc vs hl _; have : vs = [] := List.eq_nil_of_length_eq_zero hl; subst this; simp [loadCellsFrom, go_sem]
  | succ n ih =>
    intro k acc vs hl h
    match vs, hl with
    | v :: r, hl =>
      have h0 := h 0 v rfl
      have h2 := ih (k + 1) (acc.push v) r (by simpa using hl) (fun j x hx => by have := h (j + 1) x (by simpa using hx); rw [show k + 1 + j = k + (j + 1) by omega]; exact this)
      rw [Nat.add_zero] at h0
      rw [show acc ++ (v :: r).toArray = acc.push v ++ r.toArray by simp]
      simp [loadCellsFrom, go_sem, h0, h2]
theorem ldN {t : TypeId} {p : Addr} {vs : List Value} (hA : (isAgg t).run P W = .ok true W) (hS : (sizeOf t).run P W = .ok vs.length W) (hc : ∀ j v, vs[j]? = some v → W.cell? (p.add j) = some v) : (Instr.loadAt t (.pointer (some p))).run P W = .ok (.agg vs.toArray) W := by
  have := loadCells_run (P := P) (W := W) (p := p) vs.length 0 #[] vs rfl (fun j v h => by rw [Nat.zero_add]; exact hc j v h)
  simp [Instr.loadAt, loadVar, Instr.sureAddr, hA, hS, loadCells, this, go_sem]
/-- the address of a field -/
theorem fld {t : TypeId} {p : Addr} {k sz : Nat} {fs : Array Field} {f : Field} (hu : P.underlying t = some (.struct fs)) (hf : fs[k]? = some f) (hS : (sizeOf f.type).run P W = .ok sz W) (h0 : (sz == 0) = false) {q : Addr} (hq : p.add f.offset = q) : (Instr.fieldAt t (.pointer (some p)) k).run P W = .ok (.pointer (some q)) W := by
  subst hq
  have h1 : ¬ sz = 0 := by simpa using h0
  simp [Instr.fieldAt, run_underlying hu, hf, Instr.sureAddr, fieldPlace, hS, h1, go_sem]
/-- the address of an element -/
theorem idx {t e : TypeId} {p : Addr} {n c k sz : Nat} (hu : P.underlying t = some (.slice e)) (hS : (sizeOf e).run P W = .ok sz W) (hk : k < n) {z : Int} (hz : z = (k : Int)) {q : Addr} (hq : p.add (k * sz) = q) : (Instr.indexAt t (.slice (some p) n c) (.int .i64 z)).run P W = .ok (.pointer (some q)) W := by
  subst hz hq
  have h1 : (0 : Int) ≤ k ∧ (k : Int) < n := by omega
  simp [Instr.indexAt, run_underlying hu, hS, asIntOf, h1, go_sem]
  intro h; omega
theorem bx {t : TypeId} {vs : Array Value} : (Instr.box t (.agg vs)).run P W = .ok (.pointer (some ⟨W.heap.size, 0, none⟩)) (W.alloc (.cells vs t)) := by
  simp [Instr.box, newVar, newRow, Value.cells, go_sem]
/-- tests -/
theorem eqlI {t : TypeId} (_hu : P.underlying t = some (.int .i64)) {x y : Operand} {p q : Int} {b : Bool} (hb : (p == q) = b) : (do eqGuard .eql t x y (.int .i64 p) (.int .i64 q); binOp .eql t (.int .i64 p) (.int .i64 q) : Sem Value).run P W = .ok (.bool b) W := by
  subst hb; simp [eqGuard, binOp, go_sem]
theorem neqI {t : TypeId} (_hu : P.underlying t = some (.int .i64)) {x y : Operand} {p q : Int} {b : Bool} (hb : (p != q) = b) : (do eqGuard .neq t x y (.int .i64 p) (.int .i64 q); binOp .neq t (.int .i64 p) (.int .i64 q) : Sem Value).run P W = .ok (.bool b) W := by
  subst hb; simp [eqGuard, binOp, go_sem]
theorem lssI {t : TypeId} (_hu : P.underlying t = some (.int .i64)) {x y : Operand} {p q : Int} {b : Bool} (hb : decide (p < q) = b) : (do eqGuard .lss t x y (.int .i64 p) (.int .i64 q); binOp .lss t (.int .i64 p) (.int .i64 q) : Sem Value).run P W = .ok (.bool b) W := by
  subst hb; simp [eqGuard, binOp, go_sem]
theorem leqI {t : TypeId} (_hu : P.underlying t = some (.int .i64)) {x y : Operand} {p q : Int} {b : Bool} (hb : decide (p ≤ q) = b) : (do eqGuard .leq t x y (.int .i64 p) (.int .i64 q); binOp .leq t (.int .i64 p) (.int .i64 q) : Sem Value).run P W = .ok (.bool b) W := by
  subst hb; simp [eqGuard, binOp, go_sem]
theorem gtrI {t : TypeId} (_hu : P.underlying t = some (.int .i64)) {x y : Operand} {p q : Int} {b : Bool} (hb : decide (q < p) = b) : (do eqGuard .gtr t x y (.int .i64 p) (.int .i64 q); binOp .gtr t (.int .i64 p) (.int .i64 q) : Sem Value).run P W = .ok (.bool b) W := by
  subst hb; simp [eqGuard, binOp, go_sem]
theorem geqI {t : TypeId} (_hu : P.underlying t = some (.int .i64)) {x y : Operand} {p q : Int} {b : Bool} (hb : decide (q ≤ p) = b) : (do eqGuard .geq t x y (.int .i64 p) (.int .i64 q); binOp .geq t (.int .i64 p) (.int .i64 q) : Sem Value).run P W = .ok (.bool b) W := by
  subst hb; simp [eqGuard, binOp, go_sem]
theorem addI {t : TypeId} (_hu : P.underlying t = some (.int .i64)) {x y : Operand} {p q z : Int} (hz : p + q = z) (h0 : -9223372036854775808 ≤ z) (h1 : z ≤ 9223372036854775807) : (do eqGuard .add t x y (.int .i64 p) (.int .i64 q); binOp .add t (.int .i64 p) (.int .i64 q) : Sem Value).run P W = .ok (.int .i64 z) W := by
  subst hz; simp [eqGuard, binOp, go_sem, IntWalk.i64_in _ ⟨h0, h1⟩]
theorem subI {t : TypeId} (_hu : P.underlying t = some (.int .i64)) {x y : Operand} {p q z : Int} (hz : p - q = z) (h0 : -9223372036854775808 ≤ z) (h1 : z ≤ 9223372036854775807) : (do eqGuard .sub t x y (.int .i64 p) (.int .i64 q); binOp .sub t (.int .i64 p) (.int .i64 q) : Sem Value).run P W = .ok (.int .i64 z) W := by
  subst hz; simp [eqGuard, binOp, go_sem, IntWalk.i64_in _ ⟨h0, h1⟩]
theorem c2 {W : World} {p : Addr} {v0 v1 : Value} (h0 : W.cell? (p.add 0) = some v0) (h1 : W.cell? (p.add 1) = some v1) : ∀ j v, [v0, v1][j]? = some v → W.cell? (p.add j) = some v := fun j v h => by
  match j with
  | 0 => simp at h; subst h; exact h0
  | 1 => simp at h; subst h; exact h1
  | j + 2 => simp at h
theorem c4 {W : World} {p : Addr} {v0 v1 v2 v3 : Value} (h0 : W.cell? (p.add 0) = some v0) (h1 : W.cell? (p.add 1) = some v1) (h2 : W.cell? (p.add 2) = some v2) (h3 : W.cell? (p.add 3) = some v3) : ∀ j v, [v0, v1, v2, v3][j]? = some v → W.cell? (p.add j) = some v := fun j v h => by
  match j with
  | 0 => simp at h; subst h; exact h0
  | 1 => simp at h; subst h; exact h1
  | 2 => simp at h; subst h; exact h2
  | 3 => simp at h; subst h; exact h3
  | j + 4 => simp at h
theorem a1 {ρ : Operand → Value} {x : Operand} {v : Value} (h : ρ x = v) : [x].map ρ = [v] := by simp [h]
theorem a2 {ρ : Operand → Value} {x y : Operand} {v z : Value} (h : ρ x = v) (k : ρ y = z) : [x, y].map ρ = [v, z] := by simp [h, k]
theorem a3 {ρ : Operand → Value} {x1 x2 x3 : Operand} {v1 v2 v3 : Value} (h1 : ρ x1 = v1) (h2 : ρ x2 = v2) (h3 : ρ x3 = v3) : [x1, x2, x3].map ρ = [v1, v2, v3] := by simp [h1, h2, h3]
theorem a4 {ρ : Operand → Value} {x1 x2 x3 x4 : Operand} {v1 v2 v3 v4 : Value} (h1 : ρ x1 = v1) (h2 : ρ x2 = v2) (h3 : ρ x3 = v3) (h4 : ρ x4 = v4) : [x1, x2, x3, x4].map ρ = [v1, v2, v3, v4] := by simp [h1, h2, h3, h4]
theorem a5 {ρ : Operand → Value} {x1 x2 x3 x4 x5 : Operand} {v1 v2 v3 v4 v5 : Value} (h1 : ρ x1 = v1) (h2 : ρ x2 = v2) (h3 : ρ x3 = v3) (h4 : ρ x4 = v4) (h5 : ρ x5 = v5) : [x1, x2, x3, x4, x5].map ρ = [v1, v2, v3, v4, v5] := by simp [h1, h2, h3, h4, h5]
end X
end
section
open Go.RowKit
namespace X
variable {P : Program}

/-- what is held of the world in a region that writes nothing old -/
def RG (w : World) : (Nat → Bool) → (Nat → Value) → World → Prop := fun _ _ W => Gr w W
def argL : List Value → Nat → List (Nat × Value)
  | [], _ => []
  | v :: r, k => (k, v) :: argL r (k + 1)
theorem argL_mem : ∀ {l : List Value} {k s : Nat} {v : Value}, (s, v) ∈ argL l k → k ≤ s ∧ l[s - k]? = some v := by
  intro l
  induction l with
  | nil => intro k s v h; simp [argL] at h
  | cons x r ih =>
    intro k s v h
    simp only [argL, List.mem_cons, Prod.mk.injEq] at h
    rcases h with ⟨rfl, rfl⟩ | h
    · simp
    · obtain ⟨h1, h2⟩ := ih h
      refine ⟨by omega, ?_⟩
      rw [show s - k = (s - (k + 1)) + 1 by omega]; simpa using h2
theorem calls {f : FuncId} {fn : Func} {c : Code} {args : Array Value} {w : World} {R : Ending → World → Prop} (N : Nat) (hf : P.funcs[f]? = some fn) (hb : fn.body = some c) (hN : args.size + (fn.ntmps - args.size) = N)
    (h : ∀ A, Fr A N (argL args.toList 0) → c.wp P (bodyPost P fn R) A w) : Calls P f args w R := by
  refine calls_of_wp hf hb (h _ ⟨by simpa using hN, rfl, fun s v hm => ?_⟩)
  obtain ⟨_, h2⟩ := argL_mem hm
  rw [Nat.sub_zero] at h2
  have hlt := (List.getElem?_eq_some_iff.1 h2).1
  show (args ++ Array.replicate (fn.ntmps - args.size) undef)[s]? = some v
  rw [Array.getElem?_append_left (by simpa using hlt)]
  simpa using h2
/-- what is known behind a region -/
theorem fr {A : Act} {n : Nat} {l : List Oper} {vs : List (Option Value)} {L : List (Nat × Value)} {D : List Deferred} (hs : A.tmps.size = n) (hd : A.defers = D) (hl : ∀ s v, lastAt l vs L s = some v → A.tmps[s]? = some v) (M : List (Nat × Value))
    (hM : M.map (fun p => lastAt l vs L p.1) = M.map (fun p => some p.2)) : Fr A n M D := by
  refine ⟨hs, hd, fun s v hm => hl s v ?_⟩
  clear hl
  induction M with
  | nil => simp at hm
  | cons p r ih =>
    simp only [List.map_cons, List.cons.injEq] at hM
    rcases List.mem_cons.1 hm with e | hm
    · subst e; exact hM.1
    · exact ih hM.2 hm
theorem _root_.Go.Proofs.Ytlilojpnhmfnaaa.Fr.sub {A : Act} {n : Nat} {L : List (Nat × Value)} {D : List Deferred} (h : Fr A n L D) (M : List (Nat × Value)) (hM : M.map (fun p => lookS L p.1) = M.map (fun p => some p.2)) : Fr A n M D := by
  refine ⟨h.sz, h.df, fun s v hm => h.look ?_⟩
  induction M with
  | nil => simp at hm
  | cons p r ih =>
    simp only [List.map_cons, List.cons.injEq] at hM
    rcases List.mem_cons.1 hm with e | hm
    · subst e; exact hM.1
    · exact ih hM.2 hm
theorem thenN {next : Act → World → Prop} {Q : Exit → Act → World → Prop} {a : Act} {w : World} (h : next a w) : Exit.then next Q .normal a w := h
theorem blockN {id : Nat} {Q : Exit → Act → World → Prop} {a : Act} {w : World} (h : Q .normal a w) : Exit.inBlock id Q .normal a w := h
theorem blockX {id : Nat} {Q : Exit → Act → World → Prop} {a : Act} {w : World} (h : Q .normal a w) : Exit.inBlock id Q (.exit id) a w := by simp [Exit.inBlock, h]
theorem thenX {id : Nat} {next : Act → World → Prop} {Q : Exit → Act → World → Prop} {a : Act} {w : World} (h : Q (.exit id) a w) : Exit.then next Q (.exit id) a w := h
theorem thenR {next : Act → World → Prop} {Q : Exit → Act → World → Prop} {a : Act} {w : World} (h : Q .ret a w) : Exit.then next Q .ret a w := h
theorem blockR {id : Nat} {Q : Exit → Act → World → Prop} {a : Act} {w : World} (h : Q .ret a w) : Exit.inBlock id Q .ret a w := h
theorem blockO {id id' : Nat} {Q : Exit → Act → World → Prop} {a : Act} {w : World} (hne : (id' == id) = false) (h : Q (.exit id') a w) : Exit.inBlock id Q (.exit id') a w := by
  have : ¬ id' = id := by simpa using hne
  simp [Exit.inBlock, this, h]
theorem kn {vs : List (Option Value)} {i : Nat} {v : Value} (h : vs[i]? = some (some v)) : ∀ x, vs[i]? = some (some x) → v = x := fun x hx => by rw [h] at hx; injection hx with hx; injection hx
theorem un {vs : List (Option Value)} {i : Nat} {v : Value} (h : vs[i]? = some none) : ∀ x, vs[i]? = some (some x) → v = x := fun x hx => by rw [h] at hx; cases hx
theorem ret1 {fn : Func} {R : Ending → World → Prop} {A : Act} {w : World} {n s : Nat} {v : Value} {L : List (Nat × Value)} (F : Fr A n L) (hr : fn.results = #[.tmp s]) (hv : lookS L s = some v) (h : R (.returned v) w) : bodyPost P fn R .ret A w := by
  have e := F.look hv
  exact ⟨F.df, v, by simp [results, hr, e, go_sem], h⟩
theorem ret2 {fn : Func} {R : Ending → World → Prop} {A : Act} {w : World} {n s t : Nat} {v x : Value} {L : List (Nat × Value)} (F : Fr A n L) (hr : fn.results = #[.tmp s, .tmp t]) (hv : lookS L s = some v) (hx : lookS L t = some x) (h : R (.returned (.tuple #[v, x])) w) : bodyPost P fn R .ret A w := by
  have e := F.look hv
  have e2 := F.look hx
  exact ⟨F.df, _, by simp [results, hr, e, e2, go_sem], h⟩
theorem ret3 {fn : Func} {R : Ending → World → Prop} {A : Act} {w : World} {n s t r : Nat} {v x y : Value} {L : List (Nat × Value)} (F : Fr A n L) (hr : fn.results = #[.tmp s, .tmp t, .tmp r]) (hv : lookS L s = some v) (hx : lookS L t = some x) (hy : lookS L r = some y) (h : R (.returned (.tuple #[v, x, y])) w) : bodyPost P fn R .ret A w := by
  have e := F.look hv
  have e2 := F.look hx
  have e3 := F.look hy
  exact ⟨F.df, _, by simp [results, hr, e, e2, e3, go_sem], h⟩
end X
end
section
open Go.RowKit
theorem Try.agg3 (w : World) : (isAgg 3).run Try.prog w = .ok false w := by kernel_rfl
theorem Try.siz3 (w : World) : (sizeOf 3).run Try.prog w = .ok 1 w := by kernel_rfl
theorem Try.agg4 (w : World) : (isAgg 4).run Try.prog w = .ok false w := by kernel_rfl
theorem Try.siz4 (w : World) : (sizeOf 4).run Try.prog w = .ok 1 w := by kernel_rfl
theorem Try.agg9 (w : World) : (isAgg 9).run Try.prog w = .ok false w := by kernel_rfl
theorem Try.siz9 (w : World) : (sizeOf 9).run Try.prog w = .ok 1 w := by kernel_rfl
theorem Try.agg22 (w : World) : (isAgg 22).run Try.prog w = .ok false w := by kernel_rfl
theorem Try.siz22 (w : World) : (sizeOf 22).run Try.prog w = .ok 1 w := by kernel_rfl
theorem Try.agg23 (w : World) : (isAgg 23).run Try.prog w = .ok false w := by kernel_rfl
theorem Try.siz23 (w : World) : (sizeOf 23).run Try.prog w = .ok 1 w := by kernel_rfl
theorem Try.agg26 (w : World) : (isAgg 26).run Try.prog w = .ok false w := by kernel_rfl
theorem Try.siz26 (w : World) : (sizeOf 26).run Try.prog w = .ok 1 w := by kernel_rfl
theorem Try.agg31 (w : World) : (isAgg 31).run Try.prog w = .ok false w := by kernel_rfl
theorem Try.siz31 (w : World) : (sizeOf 31).run Try.prog w = .ok 1 w := by kernel_rfl
theorem Try.agg53 (w : World) : (isAgg 53).run Try.prog w = .ok false w := by kernel_rfl
theorem Try.siz53 (w : World) : (sizeOf 53).run Try.prog w = .ok 1 w := by kernel_rfl
theorem Try.agg25 (w : World) : (isAgg 25).run Try.prog w = .ok true w := by kernel_rfl
theorem Try.siz25 (w : World) : (sizeOf 25).run Try.prog w = .ok 2 w := by kernel_rfl
theorem Try.agg28 (w : World) : (isAgg 28).run Try.prog w = .ok true w := by kernel_rfl
theorem Try.siz28 (w : World) : (sizeOf 28).run Try.prog w = .ok 2 w := by kernel_rfl
theorem Try.agg41 (w : World) : (isAgg 41).run Try.prog w = .ok true w := by kernel_rfl
theorem Try.siz41 (w : World) : (sizeOf 41).run Try.prog w = .ok 5 w := by kernel_rfl
theorem Try.agg46 (w : World) : (isAgg 46).run Try.prog w = .ok true w := by kernel_rfl
theorem Try.siz46 (w : World) : (sizeOf 46).run Try.prog w = .ok 4 w := by kernel_rfl
theorem Try.agg55 (w : World) : (isAgg 55).run Try.prog w = .ok true w := by kernel_rfl
theorem Try.siz55 (w : World) : (sizeOf 55).run Try.prog w = .ok 2 w := by kernel_rfl
theorem Try.agg70 (w : World) : (isAgg 70).run Try.prog w = .ok true w := by kernel_rfl
theorem Try.siz70 (w : World) : (sizeOf 70).run Try.prog w = .ok 4 w := by kernel_rfl
end
section
open Go.RowKit

/-- the slice v, of the call's own, holds the numbers xs -/
def OwnI (w : World) (B : Nat) (v : Value) (xs : List Int) : Prop := w.ownsRow B 3 1 v xs.length (xs.map (Value.int .i64))
theorem OwnI.nil (w : World) (B : Nat) : OwnI w B (.slice none 0 0) [] := World.ownsRow_nil w B 3 1
theorem OwnI.gr {w w' : World} {B : Nat} {v : Value} {xs : List Int} (h : OwnI w B v xs) (g : Gr w w') : OwnI w' B v xs := ownsRow_only h (g.only (fun _ => False)) (noc_none w)
theorem OwnI.ints {w : World} {B : Nat} {v : Value} {xs : List Int} (h : OwnI w B v xs) (hl : xs.length < 1152921504606846976) : ∃ a c, v = .slice a xs.length c ∧ Ints w a xs.length xs ∧ xs.length ≤ c := by
  rcases h.2 with ⟨rfl, h0⟩ | ⟨g, cap, cur, rfl, _, h3, hnc, _⟩
  · exact ⟨none, 0, by rw [h0], ⟨rfl, hl, fun j hj => by omega⟩, by omega⟩
  · refine ⟨some ⟨g, 0, none⟩, cap, rfl, ⟨rfl, hl, fun j hj => ?_⟩, hnc⟩
    exact ⟨⟨g, 0, none⟩, rfl, (Array.getElem?_eq_some_iff.1 h3).1, World.ownsRow.cells h (g := g) rfl j _ (by simp [hj])⟩
/-- append of one number to the list that a call collects -/
theorem wp_pushI {o : Oper} {a : Act} {w1 W : World} {K : Act → World → Prop} {Q : Exit → Act → World → Prop} {s x : Operand} {v : Value} {xs : List Int} {g : Nat} {z : Int}
    (ho : o.op = .call { callee := .builtin .append, args := #[s, x], argTypes := #[26, 26] }) (hs : a.eval s = v) (hx : a.eval x = .slice (some ⟨g, 0, none⟩) 1 1)
    (hg : W.heap[g]? = some (.cells #[.int .i64 z] 3)) (hO : OwnI W w1.heap.size v xs) (h1 : Gr w1 W) (hl : xs.length ≤ 1000000)
    (h : ∀ v' w', OwnI w' w1.heap.size v' (xs ++ [z]) → Gr w1 w' → K (a.put o.dst v') w') : o.wp Try.prog a W K Q := by
  obtain ⟨i0, hi, hz0, hz1, hz2⟩ := info_parts Try.info3
  refine wp_append_own W s x 26 ho w1.heap.size 3 i0 (.int .i64 0) 1 8 Try.underlying26 hi hz0 hz1 hz2 rfl (by decide) v xs.length (xs.map (Value.int .i64)) hs hO ⟨g, 0, none⟩ 1 1 [.int .i64 z] hx rfl (one_cell_at hg) (fun u hu => by simp at hu; subst hu; rfl) (by unfold maxLen; omega) (by omega) h1.size (fun v' w' hown' hgrow _ => ?_)
  have hO' := only_grown hgrow
  have hb : ∀ b, v.ownBlock = some b → w1.heap.size ≤ b := fun b e => by
    rcases hO.2 with ⟨rfl, _⟩ | ⟨g, cap, cur, rfl, h2, _⟩
    · simp [Value.ownBlock] at e
    · simp [Value.ownBlock] at e; subst e; exact h2
  refine h v' w' ?_ (((h1.only (fun b => w1.heap.size ≤ b)).trans (hO'.mono' (fun i e => hb i e))).gr (fun i hi e => by omega))
  unfold OwnI
  simpa using hown'
theorem wpList_pushI {ops : Array Oper} {rest : List Oper} {o : Oper} {a : Act} {w1 W : World} {Q : Exit → Act → World → Prop} (hgd : o.guard = none) {s x : Operand} {v : Value} {xs : List Int} {g : Nat} {z : Int}
    (ho : o.op = .call { callee := .builtin .append, args := #[s, x], argTypes := #[26, 26] }) (hs : a.eval s = v) (hx : a.eval x = .slice (some ⟨g, 0, none⟩) 1 1)
    (hg : W.heap[g]? = some (.cells #[.int .i64 z] 3)) (hO : OwnI W w1.heap.size v xs) (h1 : Gr w1 W) (hl : xs.length ≤ 1000000)
    (h : ∀ v' w', OwnI w' w1.heap.size v' (xs ++ [z]) → Gr w1 w' → wpList Try.prog ops Q rest (a.put o.dst v') w') : wpList Try.prog ops Q (o :: rest) a W :=
  wpList_plain hgd fun _ hK => wp_pushI ho hs hx hg hO h1 hl (fun v' w' k1 k2 => hK _ _ (h v' w' k1 k2))
end
section
open Go.RowKit
namespace X
variable {P : Program} {ops : Array Oper} {Q : Exit → Act → World → Prop} {o : Oper} {rest : List Oper} {A : Act} {W W' : World} {n : Nat} {L : List (Nat × Value)} {D : List Deferred}

def putS (L : List (Nat × Value)) : Option Nat → Value → List (Nat × Value)
  | some d, v => (d, v) :: L.filter (fun p => !(p.1 == d))
  | none, _ => L
def delS (L : List (Nat × Value)) : Option Nat → List (Nat × Value)
  | some d => L.filter (fun p => !(p.1 == d))
  | none => L
theorem _root_.Go.Proofs.Ytlilojpnhmfnaaa.Fr.put (h : Fr A n L D) {o : Option Nat} {v : Value} (hd : (match o with | some d => decide (d < n) | none => true) = true) : Fr (A.put o v) n (putS L o v) D := by
  cases o with
  | none => exact h
  | some d =>
    simp only [decide_eq_true_eq] at hd
    refine ⟨by simp [Act.put, h.sz], h.df, fun s x hm => ?_⟩
    simp only [putS, List.mem_cons, Prod.mk.injEq, List.mem_filter] at hm
    rcases hm with ⟨rfl, rfl⟩ | ⟨h1, h2⟩
    · simp only [Act.put]
      rw [Array.getElem?_setIfInBounds_self_of_lt (by rw [h.sz]; exact hd)]
    · have hne : d ≠ s := by intro e; subst e; simp at h2
      simp only [Act.put]
      rw [Array.getElem?_setIfInBounds_ne hne]
      exact h.get s x h1
theorem _root_.Go.Proofs.Ytlilojpnhmfnaaa.Fr.del (h : Fr A n L D) {o : Option Nat} {v : Value} (hd : (match o with | some d => decide (d < n) | none => true) = true) : Fr (A.put o v) n (delS L o) D := by
  cases o with
  | none => exact h
  | some d =>
    have := h.put (o := some d) (v := v) hd
    exact ⟨this.sz, this.df, fun s x hm => this.get s x (List.mem_cons_of_mem _ hm)⟩
theorem _root_.Go.Proofs.Ytlilojpnhmfnaaa.Fr.yl (h : Fr A n L D) {j d : Nat} {b : Bool} (hj : ((ops[j]?).bind fun o : Oper => o.dst) = some d) (hv : lookS L d = some (.bool b)) : yielded ops A.tmps j = some b := by
  cases hoj : ops[j]? with
  | none => rw [hoj] at hj; simp at hj
  | some oj =>
    rw [hoj] at hj
    have hdj : oj.dst = some d := by simpa using hj
    simp [yielded, hoj, hdj, h.look hv]

/-- an operation that gives a value -/
theorem pval {v : Value} (F : Fr A n L D) (hw : Region.wanted o (yielded ops A.tmps) = true) (hd : (match o.dst with | some d => decide (d < n) | none => true) = true) (hrun : (execOp A.eval o).run P W = .ok (.value v) W') (h : ∀ A', Fr A' n (putS L o.dst v) D → wpList P ops Q rest A' W') : wpList P ops Q (o :: rest) A W := by
  refine wpList_step fun K hK => ?_
  rw [if_pos hw]
  unfold Oper.wp
  rw [hrun]
  exact hK _ _ (h _ (F.put hd))
/-- an operation that gives none -/
theorem punit (F : Fr A n L D) (hw : Region.wanted o (yielded ops A.tmps) = true) (hd : (match o.dst with | some d => decide (d < n) | none => true) = true) (hrun : (execOp A.eval o).run P W = .ok .skip W') (h : ∀ A', Fr A' n (delS L o.dst) D → wpList P ops Q rest A' W') : wpList P ops Q (o :: rest) A W := by
  refine wpList_step fun K hK => ?_
  rw [if_pos hw]
  unfold Oper.wp
  rw [hrun]
  exact hK _ _ (h _ (F.del hd))
theorem pskip (F : Fr A n L D) (hw : Region.wanted o (yielded ops A.tmps) = false) (hd : (match o.dst with | some d => decide (d < n) | none => true) = true) (h : ∀ A', Fr A' n (delS L o.dst) D → wpList P ops Q rest A' W) : wpList P ops Q (o :: rest) A W := by
  refine wpList_step fun K hK => ?_
  rw [if_neg (by rw [hw]; decide)]
  exact hK _ _ (h _ (F.del hd))
theorem pcall {f : FuncId} {args : Array Value} {T : Ending → World → Prop} (F : Fr A n L D) (hw : Region.wanted o (yielded ops A.tmps) = true) (hd : (match o.dst with | some d => decide (d < n) | none => true) = true) (hrun : (execOp A.eval o).run P W = .ok (.enter f args) W) (hc : Calls P f args W T)
    (h : ∀ e W', T e W' → ∃ v, e = .returned v ∧ ∀ A', Fr A' n (putS L o.dst v) D → wpList P ops Q rest A' W') : wpList P ops Q (o :: rest) A W := by
  refine wpList_step fun K hK => ?_
  rw [if_pos hw]
  unfold Oper.wp
  rw [hrun]
  refine hc.mono fun e W' hT => ?_
  obtain ⟨v, rfl, h2⟩ := h e W' hT
  exact hK _ _ (h2 _ (F.put hd))
/-- behind a law that ends at the act with the value laid down -/
theorem pput {d : Option Nat} {v : Value} (F : Fr A n L D) (hd : (match d with | some d => decide (d < n) | none => true) = true) (h : ∀ A', Fr A' n (putS L d v) D → wpList P ops Q rest A' W) : wpList P ops Q rest (A.put d v) W := h _ (F.put hd)

theorem bs {ρ : Operand → Value} {t : TypeId} {m : Nat} {xs : Array (Nat × Operand)} {vs : List (Nat × Value)} {v : Value} (ho : o.op = .buildSlice t m xs) (hx : xs.toList.map (fun p => (p.1, ρ p.2)) = vs) (hr : (Instr.buildSlice t m vs.toArray).run P W = .ok v W') : (execOp ρ o).run P W = .ok (.value v) W' := by
  unfold execOp; rw [ho]
  have : (xs.map fun (i, x) => (i, ρ x)) = vs.toArray := by
    cases xs with
    | mk l => subst hx; simp
  simp only [this]; exact run_v hr
theorem kc {ρ : Operand → Value} {x : Operand} (v : Value) (h : ρ x = v) : ρ x = v := h
theorem c5 {W : World} {p : Addr} {v0 v1 v2 v3 v4 : Value} (h0 : W.cell? (p.add 0) = some v0) (h1 : W.cell? (p.add 1) = some v1) (h2 : W.cell? (p.add 2) = some v2) (h3 : W.cell? (p.add 3) = some v3) (h4 : W.cell? (p.add 4) = some v4) : ∀ j v, [v0, v1, v2, v3, v4][j]? = some v → W.cell? (p.add j) = some v := fun j v h => by
  match j with
  | 0 => simp at h; subst h; exact h0
  | 1 => simp at h; subst h; exact h1
  | 2 => simp at h; subst h; exact h2
  | 3 => simp at h; subst h; exact h3
  | 4 => simp at h; subst h; exact h4
  | j + 5 => simp at h
theorem b1 {ρ : Operand → Value} {x : Operand} {v : Value} (h : ρ x = v) : [(0, x)].map (fun p : Nat × Operand => (p.1, ρ p.2)) = [(0, v)] := by simp [h]
theorem b2 {ρ : Operand → Value} {x y : Operand} {v z : Value} (h : ρ x = v) (k : ρ y = z) : [(0, x), (1, y)].map (fun p : Nat × Operand => (p.1, ρ p.2)) = [(0, v), (1, z)] := by simp [h, k]
end X
theorem Try.bs26a (z : Int) (W : World) : (Instr.buildSlice 26 1 #[(0, .int .i64 z)]).run Try.prog W = .ok (.slice (some ⟨W.heap.size, 0, none⟩) 1 1) (W.alloc (.cells #[.int .i64 z] 3)) := by kernel_rfl
theorem Try.bs22a (a : Option Addr) (n c : Nat) (W : World) : (Instr.buildSlice 22 1 #[(0, .slice a n c)]).run Try.prog W = .ok (.slice (some ⟨W.heap.size, 0, none⟩) 1 1) (W.alloc (.cells #[.slice a n c] 26)) := by kernel_rfl
theorem Try.bs22b (a b : Option Addr) (n c m d : Nat) (W : World) : (Instr.buildSlice 22 2 #[(0, .slice a n c), (1, .slice b m d)]).run Try.prog W = .ok (.slice (some ⟨W.heap.size, 0, none⟩) 2 2) (W.alloc (.cells #[.slice a n c, .slice b m d] 26)) := by kernel_rfl
end
section
open Go.RowKit
namespace Y
variable {ro : Option Nat} {P : Program} {ops : Array Oper} {Q : Exit → Act → World → Prop} {o : Oper} {rest : List Oper} {A : Act} {W W' : World} {n : Nat} {L : List (Nat × Value)} {D : List Deferred}

/-- no fence but for the round -/
def FW (ro : Option Nat) : Fence := { Fence.wide with round := ro }
theorem seq {x y : Code} (h : x.wpIn (FW ro) 0 P (Exit.then (y.wpIn (FW ro) 0 P Q) Q) A W) : (Code.seq x y).wpIn (FW ro) 0 P Q A W := wpIn_seq h
theorem skip (h : Q .normal A W) : Code.skip.wpIn (FW ro) 0 P Q A W := wpIn_skip h
theorem exit {id : Nat} (h : Q (.exit id) A W) : (Code.exit id).wpIn (FW ro) 0 P Q A W := wpIn_exit h
theorem ret (h : Q .ret A W) : Code.ret.wpIn (FW ro) 0 P Q A W := wpIn_ret h
theorem block {id : Nat} {c : Code} (h : c.wpIn (FW ro) 0 P (Exit.inBlock id Q) A W) : (Code.block id c).wpIn (FW ro) 0 P Q A W := wpIn_block h
theorem condT {c : Operand} {x y : Code} (hc : A.eval c = .bool true) (h : x.wpIn (FW ro) 0 P Q A W) : (Code.cond c x y).wpIn (FW ro) 0 P Q A W := wpIn_cond_true hc h
theorem condF {c : Operand} {x y : Code} (hc : A.eval c = .bool false) (h : y.wpIn (FW ro) 0 P Q A W) : (Code.cond c x y).wpIn (FW ro) 0 P Q A W := wpIn_cond_false hc h
theorem loop {c : Code} (I : Nat → Act → World → Prop) (n₀ : Nat) (h₀ : I n₀ A W)
    (round : ∀ n a w, I n a w → c.wpIn (FW ro) 0 P (Exit.then (fun a' w' => ∃ n', n' < n ∧ I n' a' w') Q) a w) : (Code.loop c).wpIn (FW ro) 0 P Q A W := by
  refine wpIn_loop (fun a w => ∃ n, I n a w) (fun a w => leastOf (fun n => I n a w)) ⟨n₀, h₀⟩ ?_
  intro a w hI
  refine wpIn_mono (round _ a w (leastOf_spec hI).1) ?_
  intro e a' w' hq
  cases e with
  | normal =>
    obtain ⟨n', hlt, hI'⟩ := hq
    exact show (∃ n, I n a' w') ∧ leastOf (fun n => I n a' w') < leastOf (fun n => I n a w) from ⟨⟨n', hI'⟩, Nat.lt_of_le_of_lt ((leastOf_spec ⟨n', hI'⟩).2 n' hI') hlt⟩
  | exit id => exact hq
  | goto l => exact hq
  | ret => exact hq
  | panic ch => exact hq
  | outgrown => exact hq
theorem lit {id : Nat} {l : List Oper} (hd : (l.all fun o => match o.op with | .defer _ => false | _ => true) = true) (h : wpL P l.toArray Q l A W) : (Code.region id l.toArray false).wpIn (FW ro) 0 P Q A W := wpIn_region_L hd h
theorem nil (h : Q .normal A W) : wpL P ops Q [] A W := h

/-- an operation that gives a value -/
theorem pval {v : Value} (F : Fr A n L D) (hw : Region.wanted o (yielded ops A.tmps) = true) (hd : (match o.dst with | some d => decide (d < n) | none => true) = true) (hrun : (execOp A.eval o).run P W = .ok (.value v) W') (h : ∀ A', Fr A' n (X.putS L o.dst v) D → wpL P ops Q rest A' W') : wpL P ops Q (o :: rest) A W := by
  refine wpL_step fun K hK => ?_
  rw [if_pos hw]
  unfold Oper.wp
  rw [hrun]
  exact hK _ _ (h _ (F.put hd))
/-- an operation that gives none -/
theorem punit (F : Fr A n L D) (hw : Region.wanted o (yielded ops A.tmps) = true) (hd : (match o.dst with | some d => decide (d < n) | none => true) = true) (hrun : (execOp A.eval o).run P W = .ok .skip W') (h : ∀ A', Fr A' n (X.delS L o.dst) D → wpL P ops Q rest A' W') : wpL P ops Q (o :: rest) A W := by
  refine wpL_step fun K hK => ?_
  rw [if_pos hw]
  unfold Oper.wp
  rw [hrun]
  exact hK _ _ (h _ (F.del hd))
theorem pskip (F : Fr A n L D) (hw : Region.wanted o (yielded ops A.tmps) = false) (hd : (match o.dst with | some d => decide (d < n) | none => true) = true) (h : ∀ A', Fr A' n (X.putS L o.dst undef) D → wpL P ops Q rest A' W) : wpL P ops Q (o :: rest) A W := by
  refine wpL_step fun K hK => ?_
  rw [if_neg (by rw [hw]; decide)]
  exact hK _ _ (h _ (F.put hd))
/-- the guard has not been carried out itself -/
theorem w3 {y : Nat → Option Bool} {j : Nat} {b : Bool} (hg : o.guard = some (j, b)) (hy : y j = none) : Region.wanted o y = false := by simp [Region.wanted, hg, hy]
theorem yn_of {ops : Array Oper} {tmps : Array Value} {j d : Nat} (hj : ((ops[j]?).bind fun o : Oper => o.dst) = some d) (h : tmps.getD d undef = undef) : yielded ops tmps j = none := by
  cases hoj : ops[j]? with
  | none => rw [hoj] at hj; simp at hj
  | some oj =>
    rw [hoj] at hj
    have hdj : oj.dst = some d := by simpa using hj
    cases hd : tmps[d]? with
    | none => simp [yielded, hoj, hdj, hd]
    | some v =>
      have : v = undef := by simpa [hd] using h
      subst this
      simp [yielded, hoj, hdj, hd, undef]
theorem _root_.Go.Proofs.Ytlilojpnhmfnaaa.Fr.yn (F : Fr A n L D) {j d : Nat} (hj : ((ops[j]?).bind fun o : Oper => o.dst) = some d) (hv : lookS L d = some undef) : yielded ops A.tmps j = none := yn_of hj (F.ev d undef hv)
theorem pcall {f : FuncId} {args : Array Value} {T : Ending → World → Prop} (F : Fr A n L D) (hw : Region.wanted o (yielded ops A.tmps) = true) (hd : (match o.dst with | some d => decide (d < n) | none => true) = true) (hrun : (execOp A.eval o).run P W = .ok (.enter f args) W) (hc : Calls P f args W T)
    (h : ∀ e W', T e W' → ∃ v, e = .returned v ∧ ∀ A', Fr A' n (X.putS L o.dst v) D → wpL P ops Q rest A' W') : wpL P ops Q (o :: rest) A W := by
  refine wpL_step fun K hK => ?_
  rw [if_pos hw]
  unfold Oper.wp
  rw [hrun]
  refine hc.mono fun e W' hT => ?_
  obtain ⟨v, rfl, h2⟩ := h e W' hT
  exact hK _ _ (h2 _ (F.put hd))
/-- an operation by a law at Oper.wp -/
theorem plaw {T : Value → World → Prop} (F : Fr A n L D) (hw : Region.wanted o (yielded ops A.tmps) = true) (hd : (match o.dst with | some d => decide (d < n) | none => true) = true)
    (hlaw : ∀ K : Act → World → Prop, (∀ v W', T v W' → K (A.put o.dst v) W') → o.wp P A W K Q)
    (h : ∀ v W', T v W' → ∀ A', Fr A' n (X.putS L o.dst v) D → wpL P ops Q rest A' W') : wpL P ops Q (o :: rest) A W := by
  refine wpL_step fun K hK => ?_
  rw [if_pos hw]
  exact hlaw K (fun v W' hT => hK _ _ (h v W' hT _ (F.put hd)))

/-- a property of a value that lasts while memory only grows -/
structure MP where
  p : Value → World → Prop
  up : ∀ v W W', p v W → Gr W W' → p v W'
/-- not carried out -/
def MP.un : MP := ⟨fun v _ => v = undef, fun _ _ _ h _ => h⟩
/-- what is held in a region: memory has only grown; some operations' values have their properties -/
def RP (w : World) (Pr : List (Nat × MP)) : (Nat → Bool) → (Nat → Value) → World → Prop := fun done u W => Gr w W ∧ ∀ i q, Pr.lookup i = some q → done i = true → q.p (u i) W
section
variable {w : World} {Pr : List (Nat × MP)} {done : Nat → Bool} {u : Nat → Value}
theorem RP.step {i : Nat} {v : Value} (h : RP w Pr done u W) (g : Gr W W') (hi : Pr.lookup i = none) : RP w Pr (upd done i) (fun j => if j = i then v else u j) W' := by
  refine ⟨h.1.trans g, fun j q hj hd => ?_⟩
  by_cases e : j = i
  · subst e; rw [hi] at hj; cases hj
  · rw [upd_ne e] at hd
    simp only [if_neg e]
    exact q.up _ _ _ (h.2 j q hj hd) g
theorem RP.new {i : Nat} {v : Value} {q : MP} (h : RP w Pr done u W) (g : Gr W W') (hi : Pr.lookup i = some q) (hq : q.p v W') : RP w Pr (upd done i) (fun j => if j = i then v else u j) W' := by
  refine ⟨h.1.trans g, fun j q' hj hd => ?_⟩
  by_cases e : j = i
  · subst e; rw [hi] at hj; injection hj with hj; subst hj; simpa using hq
  · rw [upd_ne e] at hd
    simp only [if_neg e]
    exact q'.up _ _ _ (h.2 j q' hj hd) g
theorem _root_.Go.Proofs.Ytlilojpnhmfnaaa.Ste.yn {l : List Oper} {vs : List (Option Value)} {L : List (Nat × Value)} {i : Nat} {A : Act} (h : Ste l vs L i A done u) {j d : Nat} (hj : ((l[j]?).bind fun o : Oper => o.dst) = some d) (hu : u j = undef) : yielded l.toArray A.tmps j = none :=
  yn_of (by simpa using hj) ((h.own j d hj).trans hu)
/-- an operation that is not wanted -/
theorem RP.skipU {i : Nat} (h : RP w Pr done u W) (hi : Pr.lookup i = some MP.un) : RP w Pr (upd done i) (fun j => if j = i then undef else u j) W := RP.new (q := MP.un) h (Gr.refl _) hi rfl
theorem RP.skip {i : Nat} (h : RP w Pr done u W) (hi : Pr.lookup i = none) : RP w Pr (upd done i) (fun j => if j = i then undef else u j) W := h.step (Gr.refl _) hi
theorem RP.get {i : Nat} (h : RP w Pr done u W) (q : MP) (hi : Pr.lookup i = some q) (hd : done i = true) : q.p (u i) W := h.2 i q hi hd
end
theorem region {id : Nat} {l : List Oper} {d : Bool} {w : World} {a : Act} (F : Fr a n L D) (vs : List (Option Value)) (Pr : List (Nat × MP)) (hm : P.follows .mixedOrders = true) (ok : RegOk l vs n)
    (hstep : AllIdx (StepX P l vs L Q (RP w Pr)) l 0)
    (hfin : ∀ (A : Act) (u : Nat → Value) (W : World), A.tmps.size = n → A.defers = D → (∀ s v, lastAt l vs L s = some v → A.tmps[s]? = some v) → (∀ j d, ((l[j]?).bind fun o : Oper => o.dst) = some d → A.tmps[d]? = some (u j)) → RP w Pr (fun j => decide (j < l.length)) u W → Q .normal A W) :
    (Code.region id l.toArray d).wpIn (FW ro) 0 P Q a w :=
  region_xi F vs (RP w Pr) hm ok (fun _ => ⟨⟨Gr.refl _, fun _ _ _ h => by cases h⟩, ⟨Gr.drew _, fun _ _ _ h => by cases h⟩⟩) hstep hfin
theorem _root_.Go.Proofs.Ytlilojpnhmfnaaa.Fr.add (F : Fr A n L D) {d : Nat} {v z : Value} (h : A.tmps[d]? = some v) (e : v = z) : Fr A n ((d, z) :: L) D := by
  subst e
  refine ⟨F.sz, F.df, fun s x hm => ?_⟩
  rcases List.mem_cons.1 hm with hm | hm
  · injection hm with h1 h2; subst h1 h2; exact h
  · exact F.get s x hm

/-- a function's contract from its body -/
theorem calls {f : FuncId} {fn : Func} {c : Code} {args : Array Value} {w : World} {R : Ending → World → Prop} (N : Nat) (hf : P.funcs[f]? = some fn) (hb : fn.body = some c) (hN : args.size + (fn.ntmps - args.size) = N)
    (h : ∀ A, Fr A N (X.argL args.toList 0) → c.wpIn (FW none) 0 P (bodyPostM Fence.wide 0 P fn R) A w) : Calls P f args w R := by
  refine callsIn_wide.1 (callsIn_of_wp_marks (F := Fence.wide) (n := 0) hf hb trivial ?_)
  refine h _ ⟨by simpa using hN, rfl, fun s v hm => ?_⟩
  obtain ⟨_, h2⟩ := X.argL_mem hm
  rw [Nat.sub_zero] at h2
  have hlt := (List.getElem?_eq_some_iff.1 h2).1
  show (args ++ Array.replicate (fn.ntmps - args.size) undef)[s]? = some v
  rw [Array.getElem?_append_left (by simpa using hlt)]
  simpa using h2
/-- the results -/
theorem rs1 {fn : Func} {s : Nat} {v : Value} (F : Fr A n L D) (hr : fn.results = #[.tmp s]) (hv : lookS L s = some v) : (results fn A.tmps).run P W = .ok v W := by
  have e := F.look hv
  simp [results, hr, e, go_sem]
theorem rs2 {fn : Func} {s t : Nat} {v x : Value} (F : Fr A n L D) (hr : fn.results = #[.tmp s, .tmp t]) (hv : lookS L s = some v) (hx : lookS L t = some x) : (results fn A.tmps).run P W = .ok (.tuple #[v, x]) W := by
  have e := F.look hv
  have e2 := F.look hx
  simp [results, hr, e, e2, go_sem]
theorem rs3 {fn : Func} {s t r : Nat} {v x y : Value} (F : Fr A n L D) (hr : fn.results = #[.tmp s, .tmp t, .tmp r]) (hv : lookS L s = some v) (hx : lookS L t = some x) (hy : lookS L r = some y) : (results fn A.tmps).run P W = .ok (.tuple #[v, x, y]) W := by
  have e := F.look hv
  have e2 := F.look hx
  have e3 := F.look hy
  simp [results, hr, e, e2, e3, go_sem]
/-- the first one lies in a cell -/
theorem rc2 {fn : Func} {s t : Nat} {ty : TypeId} {p : Addr} {v x : Value} (F : Fr A n L D) (hr : fn.results = #[.cell s ty, .tmp t]) (hA : (isAgg ty).run P W = .ok false W) (hp : lookS L s = some (.pointer (some p))) (hv : W.cell? p = some v) (hx : lookS L t = some x) : (results fn A.tmps).run P W = .ok (.tuple #[v, x]) W := by
  have e := F.look hp
  have e2 := F.look hx
  simp [results, hr, e, e2, go_sem, Instr.loadAt, loadVar, Instr.sureAddr, hA, hv]
theorem ret0 {fn : Func} {R : Ending → World → Prop} {v : Value} (F : Fr A n L) (hr : (results fn A.tmps).run P W = .ok v W) (h : R (.returned v) W) : bodyPostM Fence.wide 0 P fn R .ret A W := marks_ret0 hr F.df h
theorem ret1 {fn : Func} {R : Ending → World → Prop} {v : Value} {k : Nat} (F : Fr A n L [{ target := .collected k, args := #[] }]) (hk : W.heap[k]? = some (.deferred (some []))) (hr : (results fn A.tmps).run P (W.putObj k (.deferred none)) = .ok v (W.putObj k (.deferred none))) (h : R (.returned v) (W.putObj k (.deferred none))) : bodyPostM Fence.wide 0 P fn R .ret A W := marks_ret1 F.df hk hr h
theorem _root_.Go.Proofs.Ytlilojpnhmfnaaa.Gr.putObj {a b : World} (h : Gr a b) {r : Nat} (hp : a.heap.size ≤ r) (x : Obj) : Gr a (b.putObj r x) :=
  (Only.putObj (h.only (fun _ => False)) (.inr hp) x).gr (fun _ _ h => h)
/-- two bools -/
theorem eqlB {t : TypeId} {x y : Operand} (hu : P.underlying t = some .bool) {p q b : Bool} (hb : (p == q) = b) : (do eqGuard .eql t x y (.bool p) (.bool q); binOp .eql t (.bool p) (.bool q) : Sem Value).run P W = .ok (.bool b) W := by
  subst hb
  obtain ⟨d, hd⟩ : ∃ d, Op.maxDepth = d + 1 := ⟨_, rfl⟩
  simp [eqGuard, binOp, Op.equal, hd, Op.equalIn, run_underlying hu, go_sem]
theorem neqB {t : TypeId} {x y : Operand} (hu : P.underlying t = some .bool) {p q b : Bool} (hb : (p != q) = b) : (do eqGuard .neq t x y (.bool p) (.bool q); binOp .neq t (.bool p) (.bool q) : Sem Value).run P W = .ok (.bool b) W := by
  subst hb
  obtain ⟨d, hd⟩ : ∃ d, Op.maxDepth = d + 1 := ⟨_, rfl⟩
  simp [eqGuard, binOp, Op.equal, hd, Op.equalIn, run_underlying hu, go_sem, bne]
/-- nil, and not -/
theorem nilT {t e : TypeId} {x y : Operand} (hu : P.underlying t = some (.slice e)) : (do eqGuard .eql t x y (.slice none 0 0) (.slice none 0 0); binOp .eql t (.slice none 0 0) (.slice none 0 0) : Sem Value).run P W = .ok (.bool true) W := by
  obtain ⟨d, hd⟩ : ∃ d, Op.maxDepth = d + 1 := ⟨_, rfl⟩
  simp [eqGuard, binOp, Op.equal, hd, Op.equalIn, run_underlying hu, go_sem]
theorem nilF {t e : TypeId} {x y : Operand} (hu : P.underlying t = some (.slice e)) {a : Addr} {k c : Nat} : (do eqGuard .eql t x y (.slice (some a) k c) (.slice none 0 0); binOp .eql t (.slice (some a) k c) (.slice none 0 0) : Sem Value).run P W = .ok (.bool false) W := by
  obtain ⟨d, hd⟩ : ∃ d, Op.maxDepth = d + 1 := ⟨_, rfl⟩
  simp [eqGuard, binOp, Op.equal, hd, Op.equalIn, run_underlying hu, go_sem]
/-- a new variable; a new slice -/
theorem al {ρ : Operand → Value} {t : TypeId} {v : Value} (ho : o.op = .alloc t) (hr : (Instr.alloc t true (.tuple #[])).run P W = .ok v W') : (execOp ρ o).run P W = .ok (.value v) W' := by
  unfold execOp; rw [ho]; exact X.run_v hr
theorem mk {ρ : Operand → Value} {t : TypeId} {x y : Operand} {p q v : Value} (ho : o.op = .makeSlice t x y) (hx : ρ x = p) (hy : ρ y = q) (hr : (Instr.makeSlice t p q).run P W = .ok v W') : (execOp ρ o).run P W = .ok (.value v) W' := by
  unfold execOp; rw [ho]; simp only [hx, hy]; exact X.run_v hr
theorem pput {d : Option Nat} {v : Value} (F : Fr A n L D) (hd : (match d with | some d => decide (d < n) | none => true) = true) (h : ∀ A', Fr A' n (X.putS L d v) D → wpL P ops Q rest A' W) : wpL P ops Q rest (A.put d v) W := h _ (F.put hd)
theorem wpL_plain (hg : o.guard = none) {a : Act} {w : World} (h : ∀ K : Act → World → Prop, (∀ a w, wpL P ops Q rest a w → K a w) → o.wp P a w K Q) : wpL P ops Q (o :: rest) a w :=
  wpL_step fun K hK => by rw [if_pos (X.w0 hg)]; exact h K hK
/-- a cell that is written -/
theorem st1 {t : TypeId} {p : Addr} {v v0 : Value} (hS : (sizeOf t).run P W = .ok 1 W) (hv : v.cells = #[v]) (hv1 : v.oneCell' = true) (hc : W.cell? p = some v0) (hf : W.frozen? p = false) : (Instr.storeAt t (.pointer (some p)) v).run P W = .ok () (W.setCell p v) := by
  have h := run_store P W p v .plain hv1
  rw [hc, hf] at h
  simp only [Bool.false_eq_true, if_false] at h
  unfold Value.cells at hv
  simp [Instr.storeAt, storeVar, Instr.sureAddr, hS, hv, storeCells, Value.cells, go_sem, h]
end Y
end
section
open Go.RowKit
namespace Y
variable {P : Program} {W W' : World}

theorem addr_add (g i j : Nat) : (⟨g, i, none⟩ : Addr).add j = ⟨g, i + j, none⟩ := by
  unfold Addr.add; split
  · subst_vars; rfl
  · rfl
/-- a block of N cells: what each holds -/
def Own (W : World) (b N : Nat) (val : Nat → Value) : Prop := ∃ cs t, W.heap[b]? = some (.cells cs t (0, 0)) ∧ cs.size = N ∧ ∀ k, k < N → cs[k]? = some (val k)
section
variable {b N : Nat} {val : Nat → Value}
theorem Own.lt (h : Own W b N val) : b < W.heap.size := by
  obtain ⟨_, _, h, _⟩ := h
  exact (Array.getElem?_eq_some_iff.1 h).1
theorem Own.only {S : Nat → Prop} (h : Own W b N val) (g : Only S W W') (hs : ¬ S b) : Own W' b N val := by
  have hlt := h.lt
  obtain ⟨cs, t, h1, h2⟩ := h
  exact ⟨cs, t, (g.block b hlt hs).trans h1, h2⟩
theorem Own.gr (h : Own W b N val) (g : Gr W W') : Own W' b N val := h.only (g.only (fun _ => False)) (fun h => h)
theorem Own.cell (h : Own W b N val) {k : Nat} (hk : k < N) : W.cell? ⟨b, k, none⟩ = some (val k) := by
  obtain ⟨cs, t, h1, _, h3⟩ := h
  exact cell_at h1 (h3 k hk)
theorem Own.fz (h : Own W b N val) (k : Nat) : W.frozen? ⟨b, k, none⟩ = false := by
  obtain ⟨cs, t, h1, _⟩ := h
  unfold World.frozen?
  simp [h1]
theorem Own.set (h : Own W b N val) {k : Nat} (v : Value) : Own (W.setCell ⟨b, k, none⟩ v) b N (fun j => if j = k then v else val j) := by
  obtain ⟨cs, t, h1, h2, h3⟩ := h
  refine ⟨cs.setIfInBounds k v, t, heap_setCell_same W b k cs t v h1, by simpa using h2, fun j hj => ?_⟩
  show _ = some (if j = k then v else val j)
  by_cases e : j = k
  · subst e; rw [if_pos rfl, Array.getElem?_setIfInBounds_self_of_lt (by omega)]
  · rw [if_neg e, Array.getElem?_setIfInBounds_ne (Ne.symm e)]; exact h3 j hj
theorem Own.congr {val' : Nat → Value} (h : Own W b N val) (he : ∀ k, k < N → val k = val' k) : Own W b N val' := by
  obtain ⟨cs, t, h1, h2, h3⟩ := h
  exact ⟨cs, t, h1, h2, fun k hk => by rw [h3 k hk, he k hk]⟩
theorem Own.new {cs : Array Value} {t : TypeId} (h : W.heap[b]? = some (.cells cs t)) (hn : cs.size = N) (hv : ∀ k, k < N → cs[k]? = some (val k)) : Own W b N val := ⟨cs, t, h, hn, hv⟩
theorem set_only (W : World) (b k : Nat) (v : Value) : Only (fun x => x = b) W (W.setCell ⟨b, k, none⟩ v) := Only.setCell (S := fun x => x = b) (Only.refl _ _) (p := ⟨b, k, none⟩) (.inl rfl) v
/-- what was there before the block was made stays -/
theorem Only.up {wb : World} (g : Gr wb W) (h : Only (fun x => x = b) W W') (hb : wb.heap.size ≤ b) : Gr wb W' :=
  ((g.only (fun x => wb.heap.size ≤ x)).trans (h.mono' (fun i e => by subst e; exact hb))).gr (fun i hi e => by omega)

/-- a cell that is written -/
theorem Own.st1 {t : TypeId} {k : Nat} {v : Value} (h : Own W b N val) (hS : (sizeOf t).run P W = .ok 1 W) (hv : v.cells = #[v]) (hv1 : v.oneCell' = true) (hk : k < N) :
    ∃ W', (Instr.storeAt t (.pointer (some ⟨b, k, none⟩)) v).run P W = .ok () W' ∧ Own W' b N (fun j => if j = k then v else val j) ∧ Only (fun x => x = b) W W' :=
  ⟨_, Y.st1 hS hv hv1 (h.cell hk) (h.fz k), h.set v, set_only _ _ _ _⟩
/-- a struct of three numbers that is written -/
theorem Own.st3 {t : TypeId} {k : Nat} {x y z : Int} (h : Own W b N val) (hS : (sizeOf t).run P W = .ok 3 W) (hk : k + 2 < N) :
    ∃ W', (Instr.storeAt t (.pointer (some ⟨b, k, none⟩)) (.agg #[.int .i64 x, .int .i64 y, .int .i64 z])).run P W = .ok () W' ∧ Own W' b N (fun j => if j = k + 2 then .int .i64 z else if j = k + 1 then .int .i64 y else if j = k then .int .i64 x else val j) ∧ Only (fun x => x = b) W W' := by
  have h0 := h.set (k := k) (.int .i64 x)
  have h1 := h0.set (k := k + 1) (.int .i64 y)
  have h2 := h1.set (k := k + 2) (.int .i64 z)
  refine ⟨_, ?_, h2, ((set_only _ _ _ _).trans (set_only _ _ _ _)).trans (set_only _ _ _ _)⟩
  have c0 := h.cell (k := k) (by omega)
  have f0 := h.fz k
  have c1 := h0.cell (k := k + 1) (by omega)
  have f1 := h0.fz (k + 1)
  have c2 := h1.cell (k := k + 2) (by omega)
  have f2 := h1.fz (k + 2)
  have e0 : (⟨b, k, none⟩ : Addr).add 0 = ⟨b, k, none⟩ := rfl
  have e1 : (⟨b, k, none⟩ : Addr).add 1 = ⟨b, k + 1, none⟩ := rfl
  have e2 : (⟨b, k, none⟩ : Addr).add 2 = ⟨b, k + 2, none⟩ := rfl
  simp [Instr.storeAt, storeVar, Instr.sureAddr, hS, storeCells, Value.cells, go_sem, e0, e1, e2, c0, f0, c1, f1, c2, f2]
end
/-- a new variable of three numbers, zero -/
def MP.var3 (B : Nat) : MP := ⟨fun v W => ∃ b, v = .pointer (some ⟨b, 0, none⟩) ∧ Own W b 3 (fun _ => .int .i64 0) ∧ B ≤ b, fun _ _ _ ⟨b, h1, h2, h3⟩ g => ⟨b, h1, h2.gr g, h3⟩⟩
theorem var3_new {W : World} {b : Nat} {t : TypeId} (h : W.heap[b]? = some (.cells #[.int .i64 0, .int .i64 0, .int .i64 0] t)) : Own W b 3 (fun _ => .int .i64 0) := Own.new h rfl (fun k hk => by
  have : k = 0 ∨ k = 1 ∨ k = 2 := by omega
  rcases this with rfl | rfl | rfl <;> rfl)
theorem c3 {W : World} {p : Addr} {v0 v1 v2 : Value} (h0 : W.cell? (p.add 0) = some v0) (h1 : W.cell? (p.add 1) = some v1) (h2 : W.cell? (p.add 2) = some v2) : ∀ j v, [v0, v1, v2][j]? = some v → W.cell? (p.add j) = some v := fun j v h => by
  match j with
  | 0 => simp at h; subst h; exact h0
  | 1 => simp at h; subst h; exact h1
  | 2 => simp at h; subst h; exact h2
  | j + 3 => simp at h
theorem bd {o : Oper} {ρ : Operand → Value} {t : TypeId} {xs : Array (Nat × Operand)} {vs : List (Nat × Value)} {v : Value} (ho : o.op = .build t xs) (hx : xs.toList.map (fun p => (p.1, ρ p.2)) = vs) (hr : (Instr.build t vs.toArray).run P W = .ok v W') : (execOp ρ o).run P W = .ok (.value v) W' := by
  unfold execOp; rw [ho]
  have : (xs.map fun (i, x) => (i, ρ x)) = vs.toArray := by
    cases xs with
    | mk l => subst hx; simp
  simp only [this]; exact X.run_v hr
theorem b3 {ρ : Operand → Value} {x y z : Operand} {v1 v2 v3 : Value} (h1 : ρ x = v1) (h2 : ρ y = v2) (h3 : ρ z = v3) : [(0, x), (1, y), (2, z)].map (fun p : Nat × Operand => (p.1, ρ p.2)) = [(0, v1), (1, v2), (2, v3)] := by simp [h1, h2, h3]

/-- what is held in a region whose last operation is its only store -/
def RT (w : World) (Pr : List (Nat × MP)) (s : Nat) (T : (Nat → Value) → World → Prop) : (Nat → Bool) → (Nat → Value) → World → Prop := fun done u W => (done s = false → RP w Pr done u W) ∧ (done s = true → T u W)
theorem RT.of {w : World} {Pr : List (Nat × MP)} {s i : Nat} {T : (Nat → Value) → World → Prop} {done : Nat → Bool} {u : Nat → Value} (hs : done s = false) (hi : (s == i) = false) (h : RP w Pr (upd done i) u W) : RT w Pr s T (upd done i) u W :=
  ⟨fun _ => h, fun h2 => by rw [upd_ne (by simpa using hi), hs] at h2; cases h2⟩
theorem RT.fin {w : World} {Pr : List (Nat × MP)} {s : Nat} {T : (Nat → Value) → World → Prop} {done : Nat → Bool} {u : Nat → Value} (h : T u W) : RT w Pr s T (upd done s) u W :=
  ⟨fun h2 => absurd h2 (by rw [upd_self]; decide), fun _ => h⟩
theorem regionS {ro : Option Nat} {n : Nat} {L : List (Nat × Value)} {D : List Deferred} {Q : Exit → Act → World → Prop} {id : Nat} {l : List Oper} {d : Bool} {w : World} {a : Act} (F : Fr a n L D) (vs : List (Option Value)) (Pr : List (Nat × MP)) (s : Nat) (T : (Nat → Value) → World → Prop) (hm : P.follows .mixedOrders = true) (ok : RegOk l vs n) (hsl : s < l.length)
    (hstep : AllIdx (StepX P l vs L Q (RT w Pr s T)) l 0)
    (hfin : ∀ (A : Act) (u : Nat → Value) (W : World), A.tmps.size = n → A.defers = D → (∀ s v, lastAt l vs L s = some v → A.tmps[s]? = some v) → (∀ j d, ((l[j]?).bind fun o : Oper => o.dst) = some d → A.tmps[d]? = some (u j)) → T u W → Q .normal A W) :
    (Code.region id l.toArray d).wpIn (FW ro) 0 P Q a w :=
  region_xi F vs (RT w Pr s T) hm ok (fun _ => ⟨⟨fun _ => ⟨Gr.refl _, fun _ _ _ h => by cases h⟩, fun h => by cases h⟩, ⟨fun _ => ⟨Gr.drew _, fun _ _ _ h => by cases h⟩, fun h => by cases h⟩⟩) hstep
    (fun A u W h1 h2 h3 h4 h5 => hfin A u W h1 h2 h3 h4 (h5.2 (by simpa using hsl)))
end Y
theorem X.quoI {P : Program} {W : World} {t : TypeId} (_hu : P.underlying t = some (.int .i64)) {x y : Operand} {p q z : Int} (hz : p / q = z) (h0 : 0 ≤ p ∧ p ≤ 9223372036854775807) (h1 : 0 < q) : (do eqGuard .quo t x y (.int .i64 p) (.int .i64 q); binOp .quo t (.int .i64 p) (.int .i64 q) : Sem Value).run P W = .ok (.int .i64 z) W := by
  have hd : p.tdiv q = p / q := Int.tdiv_eq_ediv_of_nonneg h0.1
  have h2 : 0 ≤ p / q := Int.ediv_nonneg h0.1 (by omega)
  have h3 : p / q ≤ p := Int.ediv_le_self q h0.1
  have hne : ¬ q = 0 := by omega
  subst hz
  have hw := IntWalk.i64_in (p / q) ⟨by omega, by omega⟩
  simp [eqGuard, binOp, Op.intDiv, go_sem, hne, hd, hw]
end
section
open Go.RowKit

/-- **A RANGE OVER A FUNCTION.** D: the heap's size where the loop begins. -/
theorem range_rule2 {P : Program} {α : Type} {g : Operand} {ps : Array Tmp} {assign body : Code} {Q : Exit → Act → World → Prop} {a : Act} {w : World} {gf : Nat} {lb : Array Value}
    (hg : a.eval g = .func (.func gf) #[] lb) (eg : ∀ args w, (callFunc gf args).run P w = .ok (.enter gf args) w)
    (I : List α → World → Prop) (Ix : Code → World → Prop) (Y : Nat → Prop) (E : List α → α → Array Value → World → Prop) (S : List α → Prop) (a₁ : Array Value → Act)
    (hY0 : ¬ Y w.heap.size) (hY1 : ¬ Y (w.heap.size + 1))
    (hI : ∀ xs W o, I xs W → I xs (W.putObj (w.heap.size + 1) (.loop o))) (hIx : ∀ c W o, Ix c W → Ix c (W.putObj (w.heap.size + 1) (.loop o)))
    (hEs : ∀ pre x args W, E pre x args W → args.size = ps.size) (hEp : ∀ pre x args W o, E pre x args W → E pre x args (W.putObj (w.heap.size + 1) (.loop o)))
    (h0 : I [] w) (hIa : ∀ xs W o, I xs W → I xs (W.alloc o))
    (hassign : ∀ (l : Nat) (pre : List α) (x : α) (args : Array Value) (W : World) (K : Act → World → Prop), E pre x args W → K (a₁ args) W →
      assign.wpIn (Fence.wide.inRound l) 0 P (Exit.then K (fun _ _ _ => False)) { tmps := (ps.zip args).foldl (fun t (p, v) => t.setIfInBounds p v) a.tmps, defers := [] } W)
    (hbody : ∀ (pre : List α) (x : α) (args : Array Value) (W : World), I pre W → E pre x args W → w.heap.size + 1 < W.heap.size → body.wpIn (Fence.wide.inRound (w.heap.size + 1)) 0 P (roundQ Y I Ix (pre ++ [x]) W) (a₁ args) W)
    (hiter : ∀ (L : Loop), L.state = .ready → L.pending = none →
      (∀ pre x args W, Between w.heap.size L I pre W → E pre x args W → YieldAt Fence.wide 0 P (w.heap.size + 1) args W fun e W' =>
        (e = .returned (.bool true) ∧ Between w.heap.size L I (pre ++ [x]) W' ∧ Only Y W W') ∨ (e = .returned (.bool false) ∧ Left w.heap.size L Ix W')) →
      Between w.heap.size L I [] ((w.alloc (.deferred (some []))).alloc (.loop L)) →
      CallsIn Fence.wide 0 P gf (#[.func (.yield (w.heap.size + 1)) #[] #[]] ++ lb) ((w.alloc (.deferred (some []))).alloc (.loop L)) fun e W' =>
        (∃ v, e = .returned v) ∧ ((∃ xs, S xs ∧ Between w.heap.size L I xs W') ∨ Left w.heap.size L Ix W'))
    (hdone : ∀ (xs : List α) (W : World), S xs → I xs W → W.heap[w.heap.size]? = some (.deferred (some [])) → Q .normal { a with defers := { target := .collected w.heap.size, args := #[] } :: a.defers } W)
    (hstop : ∀ (c : Code) (W : World), Ix c W → W.heap[w.heap.size]? = some (.deferred (some [])) → c.wpIn Fence.wide 0 P Q { a with defers := { target := .collected w.heap.size, args := #[] } :: a.defers } W) :
    (Code.rangeFunc g ps assign body).wp P Q a w := by
  refine (wpIn_wide (n := 0)).1 ?_
  refine wpIn_rangeFunc ?_
  intro fn hfn
  obtain ⟨L, hL⟩ : ∃ L : Loop, L = { state := .ready, pending := none, fn, tmps := a.tmps, params := ps, assign, body, defers := w.heap.size } := ⟨_, rfl⟩
  obtain ⟨W1, hW1⟩ : ∃ W1, (w.alloc (.deferred (some []))).alloc (.loop L) = W1 := ⟨_, rfl⟩
  have hL1 : W1.heap[w.heap.size + 1]? = some (.loop L) := by
    rw [← hW1]; have := World.alloc_heap_new (w.alloc (.deferred (some []))) (.loop L); rwa [World.size_alloc] at this
  have hK1 : W1.heap[w.heap.size]? = some (.deferred (some [])) := by
    rw [← hW1]; exact (Below.heap_alloc _ _ _ (by simp)).trans (World.alloc_heap_new w _)
  have hI1 : I [] W1 := by rw [← hW1]; exact hIa _ _ _ (hIa _ _ _ h0)
  refine ⟨w.heap.size + 1, [{ target := .collected w.heap.size, args := #[] }], W1, { target := .fn (.func gf) lb, args := #[.func (.yield (w.heap.size + 1)) #[] #[]] }, W1, gf,
    #[.func (.yield (w.heap.size + 1)) #[] #[]] ++ lb, W1, ?_, ?_, fun _ _ => trivial, ?_, fun h => by simp [Fence.wide] at h, ?_⟩
  · rw [← hW1, hL]; exact run_enterLoop_outer _ _ _ _ _
  · simp only [resolve, hg]
    simp [go_sem]
  · simp [invoke, go_sem, eg]
  · have hit := hiter L (by rw [hL]) (by rw [hL])
    rw [hW1] at hit
    refine (hit ?_ ⟨hI1, hL1, hK1⟩).mono ?_
    · rintro pre x args W ⟨hi, hl, hk⟩ hE
      have hlt : w.heap.size + 1 < W.heap.size := (Array.getElem?_eq_some_iff.1 hl).1
      have hy := run_yield (P := P) (args := args) hl (by rw [hL]; exact hEs pre x args W hE)
      rw [hL] at hy
      refine ⟨fn, _, assign, body, hy, roundIn_of_wpIn (F := Fence.wide) trivial (hassign _ pre x args W _ hE ⟨_, run_beginRound hl (by rw [hL]), ?_⟩)⟩
      have hl2 : (W.putObj (w.heap.size + 1) (.loop { L with state := .busy })).heap[w.heap.size + 1]? = some (.loop { L with state := .busy }) := World.putObj_heap_same hlt
      have hk2 : (W.putObj (w.heap.size + 1) (.loop { L with state := .busy })).heap[w.heap.size]? = some (.deferred (some [])) := (World.putObj_heap_other (by omega)).trans hk
      have hsz2 : (W.putObj (w.heap.size + 1) (.loop { L with state := .busy })).heap.size = W.heap.size := by simp
      refine wpIn_mono (hbody pre x args _ (hI _ _ _ hi) (hEp _ _ _ _ _ hE) (by rw [hsz2]; exact hlt)) ?_
      have hrest : ∀ (W3 : World) (o : Loop), Only Y (W.putObj (w.heap.size + 1) (.loop { L with state := .busy })) W3 → (W3.putObj (w.heap.size + 1) (.loop o)).heap[w.heap.size]? = some (.deferred (some [])) := fun W3 o ho =>
        (World.putObj_heap_other (by omega)).trans ((ho.block _ (by rw [hsz2]; omega) hY0).trans hk2)
      have hl3 : ∀ (W3 : World), Only Y (W.putObj (w.heap.size + 1) (.loop { L with state := .busy })) W3 → W3.heap[w.heap.size + 1]? = some (.loop { L with state := .busy }) := fun W3 ho =>
        (ho.block _ (by rw [hsz2]; omega) hY1).trans hl2
      rintro e a3 W3 hp
      cases e with
      | normal =>
        obtain ⟨ho, hi3⟩ := hp
        have hl4 := hl3 W3 ho
        have hlt4 : w.heap.size + 1 < W3.heap.size := (Array.getElem?_eq_some_iff.1 hl4).1
        have hrun := run_endRound (P := P) none hl4
        have hLL : ({ ({ L with state := .busy } : Loop) with state := if (none : Option Code).isNone then .ready else .done, pending := none } : Loop) = L := by rw [hL]; rfl
        rw [hLL] at hrun
        refine ⟨_, _, hrun, .inl ⟨rfl, ⟨hI _ _ _ hi3, World.putObj_heap_same hlt4, hrest W3 L ho⟩, ?_⟩⟩
        refine ⟨ho.os, ho.tape, ho.output, by have := ho.size; simp at this ⊢; exact this, fun b hb hn => ?_⟩
        by_cases e : b = w.heap.size + 1
        · subst e; rw [World.putObj_heap_same hlt4, hl]
        · rw [World.putObj_heap_other e, ho.block b (by rw [hsz2]; exact hb) hn, World.putObj_heap_other e]
      | ret =>
        obtain ⟨ho, hi3⟩ := hp
        have hl4 := hl3 W3 ho
        have hlt4 : w.heap.size + 1 < W3.heap.size := (Array.getElem?_eq_some_iff.1 hl4).1
        have hrun := run_endRound (P := P) (some .ret) hl4
        exact ⟨_, _, hrun, .inr ⟨rfl, .ret, hIx _ _ _ hi3, World.putObj_heap_same hlt4, hrest W3 _ ho⟩⟩
      | exit id =>
        obtain ⟨ho, hi3⟩ := hp
        have hl4 := hl3 W3 ho
        have hlt4 : w.heap.size + 1 < W3.heap.size := (Array.getElem?_eq_some_iff.1 hl4).1
        have hrun := run_endRound (P := P) (some (.exit id)) hl4
        exact ⟨_, _, hrun, .inr ⟨rfl, .exit id, hIx _ _ _ hi3, World.putObj_heap_same hlt4, hrest W3 _ ho⟩⟩
      | goto t => exact hp.elim
      | panic ch => exact hp.elim
      | outgrown => exact hp.elim
    · rintro e W2 ⟨⟨v, rfl⟩, (⟨xs, hS, hi, hl, hk⟩ | ⟨c, hi, hl, hk⟩)⟩
      · refine ⟨L.pending, _, run_endLoop (P := P) hl (by rw [hL]; simp), ?_⟩
        have : L.pending = none := by rw [hL]
        rw [this]
        exact hdone xs _ hS (hI _ _ _ hi) ((World.putObj_heap_other (by omega)).trans hk)
      · refine ⟨some c, _, run_endLoop (P := P) hl (by simp), ?_⟩
        exact hstop c _ (hIx _ _ _ hi) ((World.putObj_heap_other (by omega)).trans hk)

/-- what a round is handed -/
def SArg2 (wB w : World) (S : Nat → Prop) (f : Fl) (lo hi : List Int) (n : Nat) (pre : List (List Int)) (x : List Int) (args : Array Value) (W : World) : Prop :=
  ∃ ad c, args = #[.slice (some ad) n c] ∧ Ints W (some ad) n x ∧ w.heap.size + 4 < ad.block ∧ (∃ rest, enum f lo hi n [] = pre ++ x :: rest) ∧ StOk f x ∧ worksB f x = true ∧ Only S wB W ∧ Is3 W ad.block

theorem range_states2 {g : Operand} {pt : Tmp} {assign body : Code} {Q : Exit → Act → World → Prop} {a : Act} {w wB : World} {S Y : Nat → Prop} {f : Fl} {ta ca fa toa : Option Addr} {tn tc cn cc n fc toc : Nat} {lo hi : List Int} {bfr bfl bto : Nat}
    (hg : a.eval g = .func (.func 90) #[] #[.pointer (some ⟨bfr, 0, none⟩), .pointer (some ⟨bfl, 0, none⟩), .pointer (some ⟨bto, 0, none⟩)])
    (hb : SBase wB S f ta tn ca cn fa toa n lo hi) (hbase : Only S wB w) (hYS : ∀ b, Y b → S b) (hYlt : ∀ b, Y b → b < w.heap.size)
    (c1 : w.cell? ⟨bfr, 0, none⟩ = some (.slice fa n fc)) (c2 : w.cell? ⟨bfl, 0, none⟩ = some (.slice ta tn tc)) (c3 : w.cell? ⟨bfl, 1, none⟩ = some (.slice ca cn cc)) (c4 : w.cell? ⟨bto, 0, none⟩ = some (.slice toa n toc))
    (n1 : ¬ Y bfr) (n2 : ¬ Y bfl) (n3 : ¬ Y bto) (I : List (List Int) → World → Prop) (Ix : Code → World → Prop)
    (h0 : I [] w) (hI : ∀ xs W W', I xs W → Only (fun b => b = w.heap.size + 1 ∨ b = w.heap.size + 4) W W' → I xs W')
    (hIx : ∀ c W W', Ix c W → Only (fun b => b = w.heap.size + 1) W W' → Ix c W') (a₁ : Value → Act)
    (hassign : ∀ (l : Nat) (v : Value) (W : World) (K : Act → World → Prop), K (a₁ v) W → assign.wpIn (Fence.wide.inRound l) 0 Try.prog (Exit.then K (fun _ _ _ => False)) { tmps := a.tmps.setIfInBounds pt v, defers := [] } W)
    (hbody : ∀ (pre : List (List Int)) (x : List Int) (ad : Addr) (c : Nat) (W : World), I pre W → Only S wB W → Ints W (some ad) n x → w.heap.size + 4 < ad.block → Is3 W ad.block → (∃ rest, enum f lo hi n [] = pre ++ x :: rest) → StOk f x → worksB f x = true →
      body.wpIn (Fence.wide.inRound (w.heap.size + 1)) 0 Try.prog (roundQ Y I Ix (pre ++ [x]) W) (a₁ (.slice (some ad) n c)) W)
    (hdone : ∀ (W : World), I (enum f lo hi n []) W → W.heap[w.heap.size]? = some (.deferred (some [])) → Q .normal { a with defers := { target := .collected w.heap.size, args := #[] } :: a.defers } W)
    (hstop : ∀ (c : Code) (W : World), Ix c W → W.heap[w.heap.size]? = some (.deferred (some [])) → c.wpIn Fence.wide 0 Try.prog Q { a with defers := { target := .collected w.heap.size, args := #[] } :: a.defers } W) :
    (Code.rangeFunc g #[pt] assign body).wp Try.prog Q a w := by
  have hsz := hbase.size
  refine range_rule2 (P := Try.prog) (α := List Int) (gf := 90) (lb := #[.pointer (some ⟨bfr, 0, none⟩), .pointer (some ⟨bfl, 0, none⟩), .pointer (some ⟨bto, 0, none⟩)]) hg (Go.Proofs.enters_of Try.func90 (by kernel_rfl) rfl)
    I Ix Y (SArg2 wB w S f lo hi n) (fun xs => xs = enum f lo hi n []) (fun args => a₁ (args.getD 0 undef)) (fun h => by have := hYlt _ h; omega) (fun h => by have := hYlt _ h; omega)
    (fun xs W o h => hI xs W _ h ((putObj_only _ _ _).mono' (fun i e => .inl e))) (fun c W o h => hIx c W _ h (putObj_only _ _ _))
    (fun pre x args W h => by obtain ⟨ad, c, rfl, _⟩ := h; rfl)
    (fun pre x args W o h => by
      obtain ⟨ad, c, h1, h2, h3, h4, h5, h6, h7, h8⟩ := h
      exact ⟨ad, c, h1, h2.onlyAt (putObj_only _ _ _) (fun ad' e hS => by cases e; omega), h3, h4, h5, h6, h7.trans ((putObj_only _ _ _).mono' (fun i e => by subst e; exact hb.new _ (by omega))), h8.only (putObj_only _ _ _) (by omega)⟩)
    h0 (fun xs W o h => hI xs W _ h (alloc_only _ _ _)) (fun l pre x args W K hE hK => by
      obtain ⟨ad, c, rfl, _⟩ := hE
      have h1 := hassign l (.slice (some ad) n c) W K hK
      simpa using h1)
    (fun pre x args W hi hE _ => by
      obtain ⟨ad, c, rfl, h2, h3, h4, h5, h6, h7, h8⟩ := hE
      exact hbody pre x ad c W hi h7 h2 h3 h8 h4 h5 h6) ?_ (fun xs W hS hi hk => by subst hS; exact hdone W hi hk) hstop
  intro L hLs hLp hyield hstart
  obtain ⟨W0, hW0⟩ : ∃ W0, (w.alloc (.deferred (some []))).alloc (.loop L) = W0 := ⟨_, rfl⟩
  have g0 : Gr w W0 := by rw [← hW0]; exact (Gr.alloc _ _).allocR _
  have s0 : W0.heap.size = w.heap.size + 2 := by rw [← hW0]; simp
  rw [hW0] at hstart ⊢
  refine callsIn_wide.2 ?_
  have hcall := states1_any wB W0 S Y (Between w.heap.size L I) (Left w.heap.size L Ix) f ta ca fa toa tn tc cn cc n fc toc lo hi bfr bfl bto (w.heap.size + 1) hb (hbase.thenGr g0) hYS (fun b h => Nat.lt_of_lt_of_le (hYlt b h) g0.size)
    ((g0.cell (lt_cell c1)).trans c1) ((g0.cell (lt_cell c2)).trans c2) ((g0.cell (lt_cell c3)).trans c3) ((g0.cell (lt_cell c4)).trans c4) n1 n2 n3 hstart
    (fun done W W' h ho => by
      rw [s0] at ho
      obtain ⟨hi, hl, hk⟩ := h
      have l1 := (Array.getElem?_eq_some_iff.1 hl).1
      have l2 := (Array.getElem?_eq_some_iff.1 hk).1
      exact ⟨hI _ _ _ hi (ho.mono' (fun i e => .inr e)), (ho.block _ l1 (by omega)).trans hl, (ho.block _ l2 (by omega)).trans hk⟩)
    (fun W W' h g => by
      obtain ⟨c, hi, hl, hk⟩ := h
      have l1 := (Array.getElem?_eq_some_iff.1 hl).1
      have l2 := (Array.getElem?_eq_some_iff.1 hk).1
      exact ⟨c, hIx _ _ _ hi (g.only _), (g.below.block _ l1).trans hl, (g.below.block _ l2).trans hk⟩)
    (fun done x rest W ad c hj hon hin h3 hp hall hst hw => by
      have hE : SArg2 wB w S f lo hi n done x #[.slice (some ad) n c] W := ⟨ad, c, rfl, hin, by omega, ⟨rest, hall⟩, hst, hw, hon, h3⟩
      exact (hyield done x _ W hj hE).mono (fun e W' h => by
        rcases h with ⟨h1, h2, h3⟩ | ⟨h1, h2⟩
        · exact .inl ⟨h1, h2, h3⟩
        · exact .inr ⟨h1, h2⟩))
  refine hcall.mono (fun e W' h => ?_)
  obtain ⟨hv, h | h⟩ := h
  · exact ⟨hv, .inl ⟨_, rfl, h⟩⟩
  · exact ⟨hv, .inr h⟩
end
section
open Go.RowKit

/-- all states that work and go on from pre by k more computers -/
def enumR (f : Fl) : Nat → List Int → List (List Int)
  | 0, pre => if worksB f pre then [pre] else []
  | k + 1, pre => (List.range ((f.times[pre.length]?.getD []).length + 1)).flatMap fun (i : Nat) => enumR f k (pre ++ [(i : Int)])
def zeros (f : Fl) : List Int := List.replicate f.times.length 0
def newestV (f : Fl) : List Int := f.times.map fun l => (l.length : Int)
theorem enumR_eq (f : Fl) : ∀ (k : Nat) (pre : List Int), pre.length + k = f.times.length → enumR f k pre = enum f (zeros f) (newestV f) k pre := by
  intro k
  induction k with
  | zero => intro pre _; rfl
  | succ k ih =>
    intro pre h
    have hl : pre.length < f.times.length := by omega
    have h0 : (zeros f)[pre.length]?.getD 0 = 0 := by simp [zeros, hl]
    have h1 : (newestV f)[pre.length]?.getD 0 = ((f.times[pre.length]?.getD []).length : Int) := by simp [newestV, hl]
    simp only [enumR, enum, h0, h1]
    rw [show ((((f.times[pre.length]?.getD []).length : Int) - 0 + 1).toNat) = (f.times[pre.length]?.getD []).length + 1 by omega]
    congr 1
    funext i
    rw [ih (pre ++ [(i : Int)]) (by simp; omega)]
    simp

/-- the part of a level that is done -/
def enumTo2 (f : Fl) (k : Nat) (pre : List Int) (i : Nat) : List (List Int) := (List.range i).flatMap fun (j : Nat) => enumR f k (pre ++ [(j : Int)])
theorem enumTo2_succ (f : Fl) (k : Nat) (pre : List Int) (i : Nat) : enumTo2 f k pre (i + 1) = enumTo2 f k pre i ++ enumR f k (pre ++ [(i : Int)]) := by
  unfold enumTo2; rw [List.range_succ, List.flatMap_append]; simp

/-- the beginning of a state is valid -/
def PreOk (f : Fl) (pre : List Int) : Prop := ∀ c, c < pre.length → 0 ≤ pre[c]?.getD 0 ∧ pre[c]?.getD 0 ≤ ((f.times[c]?.getD []).length : Int)
theorem PreOk.st {f : Fl} {pre : List Int} (h : PreOk f pre) (hl : pre.length = f.times.length) : StOk f pre := ⟨hl, fun c hc => h c (by omega)⟩
theorem PreOk.snoc {f : Fl} {pre : List Int} (h : PreOk f pre) {i : Nat} (hi : i ≤ (f.times[pre.length]?.getD []).length) : PreOk f (pre ++ [(i : Int)]) := by
  intro c hc
  by_cases e : c = pre.length
  · subst e; simp; exact hi
  · have hc' : c < pre.length := by simp at hc; omega
    rw [List.getElem?_append_left hc']; exact h c hc'
theorem PreOk.nil (f : Fl) : PreOk f [] := fun c hc => by simp at hc
theorem enumR_ok {f : Fl} : ∀ (k : Nat) (pre : List Int), pre.length + k = f.times.length → PreOk f pre → ∀ x ∈ enumR f k pre, StOk f x ∧ worksB f x = true := by
  intro k
  induction k with
  | zero =>
    intro pre hl hp x hx
    simp only [enumR] at hx
    split at hx
    · simp at hx; subst hx; exact ⟨hp.st (by omega), by assumption⟩
    · simp at hx
  | succ k ih =>
    intro pre hl hp x hx
    simp only [enumR, List.mem_flatMap, List.mem_range] at hx
    obtain ⟨i, hi, hx⟩ := hx
    exact ih _ (by simp; omega) (hp.snoc (by omega)) x hx
theorem flatMap_len {α β : Type} (g : α → List β) (b : Nat) : ∀ (l : List α), (∀ x ∈ l, (g x).length ≤ b) → (l.flatMap g).length ≤ l.length * b := by
  intro l
  induction l with
  | nil => intro _; simp
  | cons a l ih =>
    intro h
    rw [List.flatMap_cons, List.length_append, List.length_cons, Nat.succ_mul]
    have := h a (by simp)
    have := ih (fun x hx => h x (by simp [hx]))
    omega
theorem enumR_len {f : Fl} (hok : FlOk f) : ∀ (k : Nat) (pre : List Int), pre.length + k = f.times.length → (enumR f k pre).length ≤ 4 ^ k := by
  intro k
  induction k with
  | zero => intro pre _; simp only [enumR]; split <;> simp
  | succ k ih =>
    intro pre hl
    have h3 := hok.row pre.length (by omega)
    have h1 := flatMap_len (fun (i : Nat) => enumR f k (pre ++ [(i : Int)])) (4 ^ k) (List.range ((f.times[pre.length]?.getD []).length + 1)) (fun i _ => ih _ (by simp; omega))
    simp only [enumR]
    rw [List.length_range] at h1
    have h2 : ((f.times[pre.length]?.getD []).length + 1) * 4 ^ k ≤ 4 * 4 ^ k := Nat.mul_le_mul_right _ (by omega)
    rw [Nat.pow_succ]; omega
theorem enumTo2_len {f : Fl} (hok : FlOk f) {k : Nat} {pre : List Int} (hl : pre.length + (k + 1) = f.times.length) {i : Nat} (hi : i ≤ (f.times[pre.length]?.getD []).length + 1) : (enumTo2 f k pre i).length ≤ 4096 := by
  have h3 := hok.row pre.length (by omega)
  have h6 := hok.n6
  have h1 := flatMap_len (fun (j : Nat) => enumR f k (pre ++ [(j : Int)])) (4 ^ k) (List.range i) (fun j _ => enumR_len hok k _ (by simp; omega))
  rw [List.length_range] at h1
  have h2 : i * 4 ^ k ≤ 4 * 4 ^ k := Nat.mul_le_mul_right _ (by omega)
  have h4 : 4 ^ k ≤ 4 ^ 5 := Nat.pow_le_pow_right (by omega) (by omega)
  have h5 : (4 : Nat) ^ 5 = 1024 := by decide
  unfold enumTo2; omega

theorem OutR.mono {w : World} {B B' : Nat} {v : Value} {L : List (List Int)} (h : OutR w B' v L) (hb : B ≤ B') : OutR w B v L := by
  obtain ⟨xs, h1, h2⟩ := h
  refine ⟨xs, ⟨h1.1, ?_⟩, h2⟩
  rcases h1.2 with h3 | ⟨g, cap, cur, e, h4, h5⟩
  · exact .inl h3
  · exact .inr ⟨g, cap, cur, e, Nat.le_trans hb h4, h5⟩
/-- append of a whole list of states to the list that a call collects -/
theorem wp_pushAll {o : Oper} {a : Act} {w1 W : World} {K : Act → World → Prop} {Q : Exit → Act → World → Prop} {s x : Operand} {v v2 : Value} {L M : List (List Int)} {B2 : Nat}
    (ho : o.op = .call { callee := .builtin .append, args := #[s, x], argTypes := #[22, 22] }) (hs : a.eval s = v) (hx : a.eval x = v2)
    (hO : OutR W w1.heap.size v L) (hM : OutR W B2 v2 M) (h1 : Gr w1 W) (hl : L.length ≤ 1000000) (hm : M.length ≤ 1000000)
    (h : ∀ v' w', OutR w' w1.heap.size v' (L ++ M) → Gr w1 w' → K (a.put o.dst v') w') : o.wp Try.prog a W K Q := by
  obtain ⟨i0, hi, hz0, hz1, hz2⟩ := info_parts Try.info26
  obtain ⟨ov, hown, hrw⟩ := hO
  obtain ⟨mv, hmown, hmrw⟩ := hM
  by_cases hm0 : M.length = 0
  · have hM0 : M = [] := List.eq_nil_of_length_eq_zero hm0
    subst hM0
    obtain ⟨pa, pc, rfl⟩ : ∃ pa pc, v2 = .slice pa 0 pc := by
      rcases hmown.2 with ⟨rfl, _⟩ | ⟨g, cap, cur, rfl, _⟩
      · exact ⟨_, _, rfl⟩
      · exact ⟨_, _, rfl⟩
    have hsrc := src_none W pa pc
    rw [← hz1] at hsrc
    obtain ⟨va, vn, vc, rfl, hvn⟩ : ∃ va vn vc, v = .slice va vn vc ∧ vn ≤ vc := by
      rcases hown.2 with ⟨rfl, _⟩ | ⟨g, cap, cur, rfl, _, _, hnc, _⟩
      · exact ⟨_, _, _, rfl, Nat.le_refl _⟩
      · exact ⟨_, _, _, rfl, hnc⟩
    have hrun := run_append_nothing (P := Try.prog) W 22 22 o.type 26 i0 Try.underlying22 hi va vn vc hvn _ hsrc
    unfold Oper.wp execOp
    simp only [ho, resolve, invoke, builtin, Sem.run_bind, Sem.run_pure, Result.andThen_ok, List.map_toArray, List.map_cons, List.map_nil, hs, hx, hrun]
    rw [← List.append_nil L] at hown hrw
    exact h _ _ ⟨ov, hown, hrw⟩ h1
  · rcases hmown.2 with ⟨_, h0⟩ | ⟨g, cap, cur, rfl, hge, hg, hnc, _, hcs, ht⟩
    · omega
    · have hml : mv.length = M.length := by simpa using hmown.1
      refine wp_append_own W s x 22 ho w1.heap.size 26 i0 (.slice none 0 0) 1 24 Try.underlying22 hi hz0 hz1 hz2 rfl (by decide) v L.length ov hs hown ⟨g, 0, none⟩ M.length cap mv hx (by rw [hml, Nat.mul_one]) (fun j u hu => hmown.cells (g := g) rfl j u hu) (fun u hu => ?_) (by unfold maxLen; omega) (by omega) h1.size (fun v' w' hown' hgrow _ => ?_)
      · obtain ⟨j, hj, e⟩ := List.mem_iff_getElem.1 hu
        obtain ⟨ad, n, c, k1, _, _⟩ := hmrw j (by omega)
        rw [List.getElem?_eq_getElem hj, e] at k1
        cases k1; rfl
      · have hO' := only_grown hgrow
        have hb : ∀ b, v.ownBlock = some b → w1.heap.size ≤ b ∧ ¬ Is3 W b := fun b e => own_block hown e
        have hob : ∀ ad' : Addr, Is3 W ad'.block → ¬ (v.ownBlock = some ad'.block) := fun ad' h e => (hb _ e).2 h
        have hxl : ov.length = L.length := by simpa using hown.1
        refine h v' w' ⟨ov ++ mv, by simpa using hown', fun j hj => ?_⟩ (((h1.only (fun b => w1.heap.size ≤ b)).trans (hO'.mono' (fun i e => (hb i e).1))).gr (fun i hi e => by omega))
        by_cases hjl : j < L.length
        · obtain ⟨ad, n, c, k1, k2, k3⟩ := hrw j hjl
          refine ⟨ad, n, c, by rw [List.getElem?_append_left (by omega)]; exact k1, ?_, k3.only hO' (hob ad k3)⟩
          rw [List.getElem?_append_left hjl]
          exact k2.onlyAt hO' (fun ad2 e => by cases e; exact hob ad k3)
        · have hj2 : j - L.length < M.length := by simp at hj; omega
          obtain ⟨ad, n, c, k1, k2, k3⟩ := hmrw (j - L.length) hj2
          refine ⟨ad, n, c, by rw [List.getElem?_append_right (by omega), hxl]; exact k1, ?_, k3.only hO' (hob ad k3)⟩
          rw [List.getElem?_append_right (by omega)]
          exact k2.onlyAt hO' (fun ad2 e => by cases e; exact hob ad k3)

/-- 'append([]int(nil), xs...)', of none, too -/
theorem wp_copy0 {o : Oper} {a : Act} {W : World} {K : Act → World → Prop} {Q : Exit → Act → World → Prop} {s x : Operand} {sa : Option Addr} {n c : Nat} {y : List Int} {B : Nat}
    (ho : o.op = .call { callee := .builtin .append, args := #[s, x], argTypes := #[26, 26] }) (hs : a.eval s = .slice none 0 0) (hx : a.eval x = .slice sa n c) (hy : Ints W sa n y) (hn : n ≤ 1000000) (hB : B ≤ W.heap.size)
    (h : ∀ v w', OwnI w' B v y → Gr W w' → K (a.put o.dst v) w') : o.wp Try.prog a W K Q := by
  obtain ⟨i0, hi, hz0, hz1, hz2⟩ := info_parts Try.info3
  by_cases h0 : n = 0
  · subst h0
    have hy0 : y = [] := List.eq_nil_of_length_eq_zero hy.len
    subst hy0
    have hsrc : Src Try.prog 1 26 (.slice sa 0 c) 0 [] W := by
      refine ⟨.inl ⟨3, Try.underlying26⟩, fun w' => ?_, ?_, ?_, rfl, fun u hu => by simp at hu⟩
      · simp [Builtin.lenOf]
      · cases sa <;> simp [Builtin.firstCells, loadCells, loadCellsFrom]
      · cases sa <;> simp [Builtin.firstCells, loadCells, loadCellsFrom]
    rw [← hz1] at hsrc
    have hrun := run_append_nothing (P := Try.prog) W 26 26 o.type 3 i0 Try.underlying26 hi none 0 0 (Nat.le_refl _) _ hsrc
    unfold Oper.wp execOp
    simp only [ho, resolve, invoke, builtin, Sem.run_bind, Sem.run_pure, Result.andThen_ok, List.map_toArray, List.map_cons, List.map_nil, hs, hx, hrun]
    exact h _ _ (OwnI.nil _ _) (Gr.refl _)
  · obtain ⟨ad, rfl, hab, _⟩ := hy.at (j := 0) (by omega)
    refine wp_append_own W s x 26 ho B 3 i0 (.int .i64 0) 1 8 Try.underlying26 hi hz0 hz1 hz2 rfl (by decide) _ 0 [] hs (World.ownsRow_nil W _ 3 1) ad n c (y.map (Value.int .i64)) hx (by rw [List.length_map, hy.len, Nat.mul_one]) hy.cells (ints_one y) (by unfold maxLen; omega) (by omega) hB (fun v' w' hown' hgrow _ => ?_)
    refine h v' w' ?_ ((only_grown hgrow).gr (fun i hi e => by simp [Value.ownBlock] at e))
    unfold OwnI
    rw [hy.len]; simpa using hown'

/-- what holds in the region that goes on by one computer -/
structure R81 (w3 w0 : World) (pre : List Int) (v : Int) (vv : Value) (acc rec : List (List Int)) (done : Nat → Bool) (u : Nat → Value) (W : World) : Prop where
  gr : done 8 = false → Gr w3 W
  cp : done 6 = false → done 3 = true → OwnI W w3.heap.size (u 3) pre
  one : done 6 = false → done 5 = true → ∃ g, u 5 = .slice (some ⟨g, 0, none⟩) 1 1 ∧ W.heap[g]? = some (.cells #[.int .i64 v] 3 (0, 0))
  ext : done 7 = false → done 6 = true → OwnI W w3.heap.size (u 6) (pre ++ [v])
  rc : done 8 = false → done 7 = true → ∃ B2, OutR W B2 (u 7) rec
  fin : done 8 = true → OutR W w0.heap.size (u 8) (acc ++ rec) ∧ Gr w0 W
  out : done 9 = true → u 9 = u 8
  old : done 9 = false → u 9 = vv
section
variable {w3 w0 : World} {pre : List Int} {v : Int} {vv : Value} {acc rec : List (List Int)} {done : Nat → Bool} {u : Nat → Value} {W : World}
theorem R81.start (w3 w0 : World) (pre : List Int) (v : Int) (vv : Value) (acc rec : List (List Int)) (u : Nat → Value) (h9 : u 9 = vv) : R81 w3 w0 pre v vv acc rec (fun _ => false) u w3.drew :=
  ⟨(fun _ => Gr.drew _), (fun _ h => by cases h), (fun _ h => by cases h), (fun _ h => by cases h), (fun _ h => by cases h), (fun h => by cases h), (fun h => by cases h), (fun _ => h9)⟩
theorem R81.quiet (h : R81 w3 w0 pre v vv acc rec done u W) {i : Nat} (h3 : 3 ≠ i) (h5 : 5 ≠ i) (h6 : 6 ≠ i) (h7 : 7 ≠ i) (h8 : 8 ≠ i) (h9 : 9 ≠ i) {x : Value} : R81 w3 w0 pre v vv acc rec (upd done i) (fun j => if j = i then x else u j) W := by
  refine ⟨?_, ?_, ?_, ?_, ?_, ?_, ?_, ?_⟩ <;> simp only [upd_ne h3, upd_ne h5, upd_ne h6, upd_ne h7, upd_ne h8, upd_ne h9, if_neg h3, if_neg h5, if_neg h6, if_neg h7, if_neg h8, if_neg h9]
  · exact h.gr
  · exact h.cp
  · exact h.one
  · exact h.ext
  · exact h.rc
  · exact h.fin
  · exact h.out
  · exact h.old
theorem R81.copied (h : R81 w3 w0 pre v vv acc rec done u W) (d6 : done 6 = false) (d7 : done 7 = false) (d8 : done 8 = false) (d9 : done 9 = false) (ho : u 9 = vv) {x : Value} {W' : World} (hx : OwnI W' w3.heap.size x pre) (g : Gr W W') :
    R81 w3 w0 pre v vv acc rec (upd done 3) (fun j => if j = 3 then x else u j) W' := by
  refine ⟨(fun _ => (h.gr d8).trans g), (fun _ _ => by simpa using hx), (fun a b => ?_), (fun a b => ?_), (fun a b => ?_), (fun a => ?_), (fun a => ?_), (fun _ => by simpa using ho)⟩
  · rw [upd_ne (by decide)] at b
    obtain ⟨g0, e, hb⟩ := h.one d6 b
    have hlt := (Array.getElem?_eq_some_iff.1 hb).1
    exact ⟨g0, by simpa using e, ((g.below.block _ hlt)).trans hb⟩
  · rw [upd_ne (by decide), d6] at b; cases b
  · rw [upd_ne (by decide), d7] at b; cases b
  · rw [upd_ne (by decide), d8] at a; cases a
  · rw [upd_ne (by decide), d9] at a; cases a
theorem R81.made (h : R81 w3 w0 pre v vv acc rec done u W) (d6 : done 6 = false) (d7 : done 7 = false) (d8 : done 8 = false) (d9 : done 9 = false) (ho : u 9 = vv) :
    R81 w3 w0 pre v vv acc rec (upd done 5) (fun j => if j = 5 then .slice (some ⟨W.heap.size, 0, none⟩) 1 1 else u j) (W.alloc (.cells #[.int .i64 v] 3)) := by
  have g := Gr.alloc W (.cells #[.int .i64 v] 3)
  refine ⟨(fun _ => (h.gr d8).trans g), (fun a b => ?_), (fun _ _ => ⟨W.heap.size, by simp, World.alloc_heap_new _ _⟩), (fun a b => ?_), (fun a b => ?_), (fun a => ?_), (fun a => ?_), (fun _ => by simpa using ho)⟩
  · rw [upd_ne (by decide)] at b
    simpa using (h.cp d6 b).gr g
  · rw [upd_ne (by decide), d6] at b; cases b
  · rw [upd_ne (by decide), d7] at b; cases b
  · rw [upd_ne (by decide), d8] at a; cases a
  · rw [upd_ne (by decide), d9] at a; cases a
theorem R81.snoc (d7 : done 7 = false) (d8 : done 8 = false) (d9 : done 9 = false) (ho : u 9 = vv) {x : Value} {W' : World} (hx : OwnI W' w3.heap.size x (pre ++ [v])) (g : Gr w3 W') :
    R81 w3 w0 pre v vv acc rec (upd done 6) (fun j => if j = 6 then x else u j) W' := by
  refine ⟨(fun _ => g), (fun a _ => by rw [upd_self] at a; cases a), (fun a _ => by rw [upd_self] at a; cases a), (fun _ _ => by simpa using hx), (fun a b => ?_), (fun a => ?_), (fun a => ?_), (fun _ => by simpa using ho)⟩
  · rw [upd_ne (by decide), d7] at b; cases b
  · rw [upd_ne (by decide), d8] at a; cases a
  · rw [upd_ne (by decide), d9] at a; cases a
theorem R81.called (h : R81 w3 w0 pre v vv acc rec done u W) (d6 : done 6 = true) (d8 : done 8 = false) (d9 : done 9 = false) (ho : u 9 = vv) {x : Value} {W' : World} {B2 : Nat} (hx : OutR W' B2 x rec) (g : Gr W W') :
    R81 w3 w0 pre v vv acc rec (upd done 7) (fun j => if j = 7 then x else u j) W' := by
  refine ⟨(fun _ => (h.gr d8).trans g), (fun a _ => by rw [upd_ne (by decide), d6] at a; cases a), (fun a _ => by rw [upd_ne (by decide), d6] at a; cases a), (fun a _ => by rw [upd_self] at a; cases a), (fun _ _ => ⟨B2, by simpa using hx⟩), (fun a => ?_), (fun a => ?_), (fun _ => by simpa using ho)⟩
  · rw [upd_ne (by decide), d8] at a; cases a
  · rw [upd_ne (by decide), d9] at a; cases a
theorem R81.joined (d6 : done 6 = true) (d7 : done 7 = true) (d9 : done 9 = false) (ho : u 9 = vv) {x : Value} {W' : World} (hx : OutR W' w0.heap.size x (acc ++ rec)) (hg : Gr w0 W') :
    R81 w3 w0 pre v vv acc rec (upd done 8) (fun j => if j = 8 then x else u j) W' := by
  refine ⟨(fun a => by rw [upd_self] at a; cases a), (fun a _ => by rw [upd_ne (by decide), d6] at a; cases a), (fun a _ => by rw [upd_ne (by decide), d6] at a; cases a), (fun a _ => by rw [upd_ne (by decide), d7] at a; cases a), (fun a _ => by rw [upd_self] at a; cases a), (fun _ => ⟨by simpa using hx, hg⟩), (fun a => ?_), (fun _ => by simpa using ho)⟩
  rw [upd_ne (by decide), d9] at a; cases a
theorem R81.last (h : R81 w3 w0 pre v vv acc rec done u W) (d6 : done 6 = true) (d7 : done 7 = true) (d8 : done 8 = true) : R81 w3 w0 pre v vv acc rec (upd done 9) (fun j => if j = 9 then u 8 else u j) W := by
  refine ⟨(fun a => by rw [upd_ne (by decide), d8] at a; cases a), (fun a _ => by rw [upd_ne (by decide), d6] at a; cases a), (fun a _ => by rw [upd_ne (by decide), d6] at a; cases a), (fun a _ => by rw [upd_ne (by decide), d7] at a; cases a), (fun a _ => by rw [upd_ne (by decide), d8] at a; cases a), (fun _ => ?_), (fun _ => by simp), (fun a => by rw [upd_self] at a; cases a)⟩
  have := h.fin d8
  exact ⟨by simpa using this.1, this.2⟩
end
end
section
open Go.RowKit
namespace Y

/-- a slice that holds these numbers -/
def MP.ints (n : Nat) (xs : List Int) : MP := ⟨fun v W => ∃ a c, v = .slice a n c ∧ Ints W a n xs, fun _ _ _ ⟨a, c, h1, h2⟩ g => ⟨a, c, h1, h2.gr g⟩⟩
/-- a new slice of two numbers -/
def MP.two (x y : Int) : MP := ⟨fun v W => ∃ b, v = .slice (some ⟨b, 0, none⟩) 2 2 ∧ W.cell? ⟨b, 0, none⟩ = some (.int .i64 x) ∧ W.cell? ⟨b, 1, none⟩ = some (.int .i64 y),
  fun _ _ _ ⟨b, h1, h2, h3⟩ g => ⟨b, h1, (g.cell (lt_cell h2)).trans h2, (g.cell (lt_cell h3)).trans h3⟩⟩
/-- a slice, in new memory, that holds these numbers -/
def New (B : Nat) (a : Option Addr) : Prop := ∀ ad, a = some ad → B ≤ ad.block
def MP.intsF (B n : Nat) (xs : List Int) : MP := ⟨fun v W => ∃ a c, v = .slice a n c ∧ Ints W a n xs ∧ New B a, fun _ _ _ ⟨a, c, h1, h2, h3⟩ g => ⟨a, c, h1, h2.gr g, h3⟩⟩
/-- the iterator of states -/
def MP.iter (B : Nat) (ta : Option Addr) (tn tc : Nat) (ca : Option Addr) (cn cc n : Nat) (lo hi : List Int) (Pl Ph : Option Addr → Prop) : MP :=
  ⟨fun v W => ∃ bfr bfl bto fa fc toa toc, v = .func (.func 90) #[] #[.pointer (some ⟨bfr, 0, none⟩), .pointer (some ⟨bfl, 0, none⟩), .pointer (some ⟨bto, 0, none⟩)] ∧ W.cell? ⟨bfl, 0, none⟩ = some (.slice ta tn tc) ∧ W.cell? ⟨bfl, 1, none⟩ = some (.slice ca cn cc) ∧ W.cell? ⟨bfr, 0, none⟩ = some (.slice fa n fc) ∧ W.cell? ⟨bto, 0, none⟩ = some (.slice toa n toc) ∧ Ints W fa n lo ∧ Ints W toa n hi ∧ Pl fa ∧ Ph toa ∧ B ≤ bfr ∧ B ≤ bfl ∧ B ≤ bto,
   fun _ _ _ ⟨bfr, bfl, bto, fa, fc, toa, toc, h, h0, h1, h2, h3, h4, h5, h6⟩ g => ⟨bfr, bfl, bto, fa, fc, toa, toc, h, (g.cell (lt_cell h0)).trans h0, (g.cell (lt_cell h1)).trans h1, (g.cell (lt_cell h2)).trans h2, (g.cell (lt_cell h3)).trans h3, h4.gr g, h5.gr g, h6⟩⟩

theorem states_iter (B : Nat) (Pl Ph : Option Addr → Prop) (ta ca fa toa : Option Addr) (tn tc cn cc n fc toc : Nat) (lo hi : List Int) (w : World) (h1 : Ints w fa n lo) (h2 : Ints w toa n hi) (p1 : Pl fa) (p2 : Ph toa) (hB : B ≤ w.heap.size) :
    Calls Try.prog 59 #[.agg #[.slice ta tn tc, .slice ca cn cc], .slice fa n fc, .slice toa n toc] w (fun e w' => ∃ v, e = .returned v ∧ (MP.iter B ta tn tc ca cn cc n lo hi Pl Ph).p v w' ∧ Gr w w') := by
  refine (states_any ta ca fa toa tn tc cn cc n fc n toc w).mono ?_
  intro e w' h
  obtain ⟨g, _, i0, i1, i2, i3⟩ := NewIter.facts h
  exact ⟨_, h.1, ⟨_, _, _, fa, fc, toa, toc, rfl, i0, i1, i2, i3, h1.gr g, h2.gr g, p1, p2, by omega, by omega, by omega⟩, g⟩

theorem ppushI {ops : Array Oper} {rest : List Oper} {o : Oper} {a : Act} {w1 W : World} {Q : Exit → Act → World → Prop} (hgd : o.guard = none) {s x : Operand} {v : Value} {xs : List Int} {g : Nat} {z : Int}
    (ho : o.op = .call { callee := .builtin .append, args := #[s, x], argTypes := #[26, 26] }) (hs : a.eval s = v) (hx : a.eval x = .slice (some ⟨g, 0, none⟩) 1 1)
    (hg : W.heap[g]? = some (.cells #[.int .i64 z] 3)) (hO : OwnI W w1.heap.size v xs) (h1 : Gr w1 W) (hl : xs.length ≤ 1000000)
    (h : ∀ v' w', OwnI w' w1.heap.size v' (xs ++ [z]) → Gr w1 w' → wpL Try.prog ops Q rest (a.put o.dst v') w') : wpL Try.prog ops Q (o :: rest) a W :=
  wpL_plain hgd fun _ hK => wp_pushI ho hs hx hg hO h1 hl (fun v' w' k1 k2 => hK _ _ (h v' w' k1 k2))

theorem _root_.Go.Proofs.Ytlilojpnhmfnaaa.Try.bs26b (x y : Int) (W : World) : (Instr.buildSlice 26 2 #[(0, .int .i64 x), (1, .int .i64 y)]).run Try.prog W = .ok (.slice (some ⟨W.heap.size, 0, none⟩) 2 2) (W.alloc (.cells #[.int .i64 x, .int .i64 y] 3)) := by kernel_rfl
/-- a variable's cell may be written -/
def Fz (W : World) (b : Nat) : Prop := b < W.heap.size ∧ W.frozen? ⟨b, 0, none⟩ = false
theorem Fz.gr {W W' : World} {b : Nat} (h : Fz W b) (g : Gr W W') : Fz W' b := ⟨Nat.lt_of_lt_of_le h.1 g.size, (g.frozen (p := ⟨b, 0, none⟩) h.1).trans h.2⟩
theorem Fz.new {W : World} {b : Nat} {cs : Array Value} {t : TypeId} (h : W.heap[b]? = some (.cells cs t)) : Fz W b := ⟨(Array.getElem?_eq_some_iff.1 h).1, by simp [World.frozen?, h]⟩
/-- one variable is turned; all else that was there stays -/
structure RC (wR : World) (bn : Nat) (v : Value) (W : World) : Prop where
  on : Only (fun b => b = bn ∨ wR.heap.size ≤ b) wR W
  lt : bn < wR.heap.size
  c : W.cell? ⟨bn, 0, none⟩ = some v
  fz : W.frozen? ⟨bn, 0, none⟩ = false
theorem RC.keep {wR W W' : World} {bn k : Nat} {v : Value} (h : RC wR bn v W) (hk : wR.heap.size ≤ k) (g : Only (fun b => b = k + 1 ∨ b = k + 4) W W') : RC wR bn v W' := by
  have h1 := lt_cell h.c
  have hlt := h.lt
  have hb := g.block bn h1 (by omega)
  exact ⟨h.on.trans (g.mono' (fun i e => .inr (by omega))), h.lt, (World.cell?_of_block hb).trans h.c, by have := h.fz; unfold World.frozen? at this ⊢; simp only at this ⊢; rw [hb]; exact this⟩
theorem RC.gr {wR W W' : World} {bn : Nat} {v : Value} (h : RC wR bn v W) (g : Gr W W') : RC wR bn v W' :=
  ⟨h.on.thenGr g, h.lt, (g.cell (lt_cell h.c)).trans h.c, (g.frozen (p := ⟨bn, 0, none⟩) (lt_cell h.c)).trans h.fz⟩
theorem RC.set {wR W : World} {bn : Nat} {v : Value} (h : RC wR bn v W) (v' : Value) : RC wR bn v' (W.setCell ⟨bn, 0, none⟩ v') := by
  have hc := h.c
  have hf := h.fz
  exact ⟨h.on.trans (Only.setCell (Only.refl _ _) (.inl (.inl rfl)) _), h.lt, by simp [go_sem, hc], by simpa using hf⟩
theorem RC.setOnly {wR W W' : World} {bn : Nat} {v : Value} (h : RC wR bn v W') (g : Gr W W') (v' : Value) : Only (fun b => b = bn) W (W'.setCell ⟨bn, 0, none⟩ v') := (g.only _).trans (Only.setCell (S := fun b => b = bn) (Only.refl _ _) (p := ⟨bn, 0, none⟩) (.inl rfl) _)
theorem New.lo {B : Nat} {a : Option Addr} (h : New B a) {B' : Nat} (hb : B' ≤ B) : New B' a := fun ad e => Nat.le_trans hb (h ad e)

theorem RC.grow {w wR W : World} {bn : Nat} {v : Value} (h : RC wR bn v W) (G : Gr w wR) (h0 : w.heap.size ≤ bn) : Gr w W :=
  ((G.only (fun b => w.heap.size ≤ b)).trans (h.on.mono' (fun i e => by have := G.size; omega))).gr (fun i hi e => by omega)
/-- as RC, behind the range, with the block of its mark -/
structure RM (wR : World) (bn : Nat) (v : Value) (W : World) : Prop where
  rc : RC wR bn v W
  mark : W.heap[wR.heap.size]? = some (.deferred (some []))
theorem RM.set {wR W : World} {bn : Nat} {v : Value} (h : RM wR bn v W) (v' : Value) : RM wR bn v' (W.setCell ⟨bn, 0, none⟩ v') := by
  have hlt := h.rc.lt
  exact ⟨h.rc.set v', ((RC.setOnly h.rc (Gr.refl _) v').block _ (Array.getElem?_eq_some_iff.1 h.mark).1 (by omega)).trans h.mark⟩
theorem RM.ret {P : Program} {fn : Func} {R : Ending → World → Prop} {A : Act} {W wR : World} {bn n s t : Nat} {ty : TypeId} {v x : Value} {L : List (Nat × Value)} (h : RM wR bn v W) (F : Fr A n L [{ target := .collected wR.heap.size, args := #[] }]) (hr : fn.results = #[.cell s ty, .tmp t]) (hA : ∀ w, (isAgg ty).run P w = .ok false w)
    (hp : lookS L s = some (.pointer (some ⟨bn, 0, none⟩))) (hx : lookS L t = some x) (hR : ∀ W2, RC wR bn v W2 → Only (fun b => b = wR.heap.size) W W2 → R (.returned (.tuple #[v, x])) W2) : bodyPostM Fence.wide 0 P fn R .ret A W := by
  have hlt := h.rc.lt
  have ho := putObj_only W wR.heap.size (.deferred none)
  have hb := ho.block bn (lt_cell h.rc.c) (by omega)
  have hrc : RC wR bn v (W.putObj wR.heap.size (.deferred none)) := ⟨h.rc.on.trans (ho.mono' (fun i e => .inr (by omega))), h.rc.lt, (World.cell?_of_block hb).trans h.rc.c, by have := h.rc.fz; unfold World.frozen? at this ⊢; simp only at this ⊢; rw [hb]; exact this⟩
  exact ret1 F h.mark (rc2 F hr (hA _) hp hrc.c hx) (hR _ hrc ho)
/-- the data of a whole fleet's states lie apart from one new variable -/
theorem sbase_all {w wR : World} {f : Fl} {ta ca fa toa : Option Addr} {tn cn n bn B : Nat} (hok : FlOk f) (hf : FlAt w ta tn ca cn f) (G : Gr w wR) (h0 : w.heap.size ≤ bn) (hB : bn < B) (hl : f.times.length = n) (hlo : Ints wR fa n (zeros f)) (h1 : New B fa) (hhi : Ints wR toa n (newestV f)) (h2 : New B toa) :
    SBase wR (fun b => b = bn ∨ wR.heap.size ≤ b) f ta tn ca cn fa toa n (zeros f) (newestV f) := by
  have hn1 := hok.n1
  have hlt : ∀ {a : Option Addr} {xs : List Int}, Ints wR a n xs → New B a → ∀ ad, a = some ad → ¬ (ad.block = bn ∨ wR.heap.size ≤ ad.block) := fun {a xs} h hN ad e => by
    obtain ⟨ad', e', hb, _⟩ := h.at (j := 0) (by omega)
    rw [e] at e'
    injection e' with e'
    subst e'
    have := hN ad e
    omega
  refine ⟨hok, hf.gr G, hlo, hhi, fun W g => ⟨hf.gr (((G.only (fun b => w.heap.size ≤ b)).trans (g.mono' (fun i e => by have := G.size; omega))).gr (fun i hi e => by omega)), hlo.onlyAt g (hlt hlo h1), hhi.onlyAt g (hlt hhi h2)⟩, fun b hb => .inr hb, by omega, hl.symm, fun c hc => ?_, fun c hc => ?_⟩
  · simp [zeros, show c < f.times.length by omega]
  · simp [newestV, show c < f.times.length by omega]

variable {N : Nat} {L : List (Nat × Value)} {g : Operand} {pt : Tmp} {body : Code} {Q : Exit → Act → World → Prop} {A : Act} {w wB : World} {S Y : Nat → Prop} {f : Fl} {ta ca fa toa : Option Addr} {tn tc cn cc n fc toc : Nat} {lo hi : List Int} {bfr bfl bto : Nat}
theorem fr_round (F : Fr A N L) {pt : Nat} (hp : pt < N) (v : Value) : Fr { tmps := A.tmps.setIfInBounds pt v, defers := [] } N (X.putS L (some pt) v) := by
  have h := F.put (o := some pt) (v := v) (by simpa using hp)
  exact ⟨h.sz, rfl, h.get⟩
theorem fr_mark (F : Fr A N L) (d : Deferred) : Fr { A with defers := d :: A.defers } N L [d] := ⟨F.sz, by rw [← F.df], F.get⟩

/-- 'for range states(..)' -/
theorem range0 (F : Fr A N L) (hp : pt < N)
    (hg : A.eval g = .func (.func 90) #[] #[.pointer (some ⟨bfr, 0, none⟩), .pointer (some ⟨bfl, 0, none⟩), .pointer (some ⟨bto, 0, none⟩)])
    (hb : SBase wB S f ta tn ca cn fa toa n lo hi) (hbase : Only S wB w) (hYS : ∀ b, Y b → S b) (hYlt : ∀ b, Y b → b < w.heap.size)
    (c1 : w.cell? ⟨bfr, 0, none⟩ = some (.slice fa n fc)) (c2 : w.cell? ⟨bfl, 0, none⟩ = some (.slice ta tn tc)) (c3 : w.cell? ⟨bfl, 1, none⟩ = some (.slice ca cn cc)) (c4 : w.cell? ⟨bto, 0, none⟩ = some (.slice toa n toc))
    (n1 : ¬ Y bfr) (n2 : ¬ Y bfl) (n3 : ¬ Y bto) (I : List (List Int) → World → Prop)
    (h0 : I [] w) (hI : ∀ xs W W', I xs W → Only (fun b => b = w.heap.size + 1 ∨ b = w.heap.size + 4) W W' → I xs W')
    (hbody : ∀ (pre : List (List Int)) (x : List Int) (ad : Addr) (c : Nat) (W : World) (A : Act), I pre W → Only S wB W → Ints W (some ad) n x → w.heap.size + 4 < ad.block → Is3 W ad.block → (∃ rest, enum f lo hi n [] = pre ++ x :: rest) → StOk f x → worksB f x = true → Fr A N (X.putS L (some pt) (.slice (some ad) n c)) →
      body.wpIn (FW (some (w.heap.size + 1))) 0 Try.prog (roundQ Y I (fun _ _ => False) (pre ++ [x]) W) A W)
    (hdone : ∀ (W : World) (A : Act), I (enum f lo hi n []) W → W.heap[w.heap.size]? = some (.deferred (some [])) → Fr A N L [{ target := .collected w.heap.size, args := #[] }] → Q .normal A W) :
    (Code.rangeFunc g #[pt] .skip body).wpIn (FW none) 0 Try.prog Q A w := by
  refine (wpIn_wide (n := 0)).2 ?_
  refine range_states2 (a := A) (a₁ := fun v => { tmps := A.tmps.setIfInBounds pt v, defers := [] }) hg hb hbase hYS hYlt c1 c2 c3 c4 n1 n2 n3 I (fun _ _ => False) h0 hI (fun _ _ _ h _ => h.elim) (fun l v W K hK => wpIn_skip hK) (fun pre x ad c W h1 h2 h3 h4 h5 h6 h7 h8 => ?_) (fun W h1 h2 => ?_) (fun _ _ h => h.elim)
  · exact hbody pre x ad c W _ h1 h2 h3 h4 h5 h6 h7 h8 (fr_round F hp _)
  · exact hdone W _ h1 h2 (fr_mark F _)
/-- 'for x := range states(..)' -/
theorem range1 {id d : Nat} {o : Oper} (F : Fr A N L) (hp : pt < N) (hd : d < N) (ho : o.op = .assign (.tmp pt)) (hgd : o.guard = none) (hdd : o.dst = some d)
    (hg : A.eval g = .func (.func 90) #[] #[.pointer (some ⟨bfr, 0, none⟩), .pointer (some ⟨bfl, 0, none⟩), .pointer (some ⟨bto, 0, none⟩)])
    (hb : SBase wB S f ta tn ca cn fa toa n lo hi) (hbase : Only S wB w) (hYS : ∀ b, Y b → S b) (hYlt : ∀ b, Y b → b < w.heap.size)
    (c1 : w.cell? ⟨bfr, 0, none⟩ = some (.slice fa n fc)) (c2 : w.cell? ⟨bfl, 0, none⟩ = some (.slice ta tn tc)) (c3 : w.cell? ⟨bfl, 1, none⟩ = some (.slice ca cn cc)) (c4 : w.cell? ⟨bto, 0, none⟩ = some (.slice toa n toc))
    (n1 : ¬ Y bfr) (n2 : ¬ Y bfl) (n3 : ¬ Y bto) (I : List (List Int) → World → Prop)
    (h0 : I [] w) (hI : ∀ xs W W', I xs W → Only (fun b => b = w.heap.size + 1 ∨ b = w.heap.size + 4) W W' → I xs W')
    (hbody : ∀ (pre : List (List Int)) (x : List Int) (ad : Addr) (c : Nat) (W : World) (A : Act), I pre W → Only S wB W → Ints W (some ad) n x → w.heap.size + 4 < ad.block → Is3 W ad.block → (∃ rest, enum f lo hi n [] = pre ++ x :: rest) → StOk f x → worksB f x = true → Fr A N (X.putS (X.putS L (some pt) (.slice (some ad) n c)) (some d) (.slice (some ad) n c)) →
      body.wpIn (FW (some (w.heap.size + 1))) 0 Try.prog (roundQ Y I (fun _ _ => False) (pre ++ [x]) W) A W)
    (hdone : ∀ (W : World) (A : Act), I (enum f lo hi n []) W → W.heap[w.heap.size]? = some (.deferred (some [])) → Fr A N L [{ target := .collected w.heap.size, args := #[] }] → Q .normal A W) :
    (Code.rangeFunc g #[pt] (.region id #[o] false) body).wpIn (FW none) 0 Try.prog Q A w := by
  refine (wpIn_wide (n := 0)).2 ?_
  refine range_states2 (a := A) (a₁ := fun v => ({ tmps := A.tmps.setIfInBounds pt v, defers := [] } : Act).put (some d) v) hg hb hbase hYS hYlt c1 c2 c3 c4 n1 n2 n3 I (fun _ _ => False) h0 hI (fun _ _ _ h _ => h.elim) (fun l v W K hK => ?_) (fun pre x ad c W h1 h2 h3 h4 h5 h6 h7 h8 => ?_) (fun W h1 h2 => ?_) (fun _ _ h => h.elim)
  · refine wpIn_region_L (ro := some l) (l := [o]) (by simp [ho]) ?_
    refine wpL_step fun K' hK' => ?_
    rw [if_pos (X.w0 hgd)]
    have hF := fr_round F hp v
    unfold Oper.wp
    rw [X.assign ho (hF.ev pt v (by simp [X.putS, lookS]))]
    refine hK' _ _ ?_
    rw [hdd]
    exact hK
  · exact hbody pre x ad c W _ h1 h2 h3 h4 h5 h6 h7 h8 ((fr_round F hp _).put (o := some d) (by simpa using hd))
  · exact hdone W _ h1 h2 (fr_mark F _)
end Y
end
end Go.Proofs.Ytlilojpnhmfnaaa
