/- Several texts of this claim in one file. (1) A walk by lemmas, within rounds and with marks too; regions whose values are known by a property. Nothing of the program is proved here. (2) Rules for a range over a function in which a round knows how far it has come. Nothing of the program is proved here. (3) The reference's list of all states that work: plain words; lists that are joined; the invariant of its region. (4) A walk by lemmas: properties of values, and a range over states. (5) Contracts: tags, the program's and the reference's. (6) Contracts: the reference's Tag. (7) Contracts: accept and Accept, the program's and the reference's. (8) Contracts: Works and the reference's. -/
import Derived.Test.YtlilojpnhmfnaaaBd6
import Derived.Test.YtlilojpnhmfnaaaBd4
import Derived.Deep.LoopGhost
import Derived.Test.YtlilojpnhmfnaaaBd3
import Derived.Deep.Upon
import Derived.Test.YtlilojpnhmfnaaaBd2
import Derived.IntWalk
import Derived.Deep.QuietTactic
import Derived.BigQuiet
namespace Go.Proofs.Ytlilojpnhmfnaaa
section
open Go.RowKit
namespace Y
variable {ro : Option Nat} {P : Program} {ops : Array Oper} {Q : Exit → Act → World → Prop} {o : Oper} {rest : List Oper} {A : Act} {W W' : World} {n : Nat} {L : List (Nat × Value)} {D : List Deferred}

/-- no fence but for the round -/
def FW (ro : Option Nat) : Fence := { Fence.wide with round := ro }
theorem seq {x y : Code} (h : x.wpIn (FW ro) 0 P (Exit.then (y.wpIn (FW ro) 0 P Q) Q) A W) : (Code.seq x y).wpIn (FW ro) 0 P Q A W := wpIn_seq h
theorem skip (h : Q .normal A W) : Code.skip.wpIn (FW ro) 0 P Q A W := wpIn_skip h
theorem exit {id : Nat} (h : Q (.exit id) A W) : (Code.exit id).wpIn (FW ro) 0 P Q A W := wpIn_exit h
theorem ret (h : Q .ret A W) : Code.ret.wpIn (FW ro) 0 P Q A W := wpIn_ret h
theorem block {id : Nat} {c : Code} (h : c.wpIn (FW ro) 0 P (Exit.inBlock id Q) A W) : (Code.block id c).wpIn (FW ro) 0 P Q A W := wpIn_block h
theorem condT {c : Operand} {x y : Code} (hc : A.eval c = .bool true) (h : x.wpIn (FW ro) 0 P Q A W) : (Code.cond c x y).wpIn (FW ro) 0 P Q A W := wpIn_cond_true hc h
theorem condF {c : Operand} {x y : Code} (hc : A.eval c = .bool false) (h : y.wpIn (FW ro) 0 P Q A W) : (Code.cond c x y).wpIn (FW ro) 0 P Q A W := wpIn_cond_false hc h
theorem loop {c : Code} (I : Nat → Act → World → Prop) (n₀ : Nat) (h₀ : I n₀ A W)
    (round : ∀ n a w, I n a w → c.wpIn (FW ro) 0 P (Exit.then (fun a' w' => ∃ n', n' < n ∧ I n' a' w') Q) a w) : (Code.loop c).wpIn (FW ro) 0 P Q A W := by
  refine wpIn_loop (fun a w => ∃ n, I n a w) (fun a w => leastOf (fun n => I n a w)) ⟨n₀, h₀⟩ ?_
  intro a w hI
  refine wpIn_mono (round _ a w (leastOf_spec hI).1) ?_
  intro e a' w' hq
  cases e with
  | normal =>
    obtain ⟨n', hlt, hI'⟩ := hq
    exact show (∃ n, I n a' w') ∧ leastOf (fun n => I n a' w') < leastOf (fun n => I n a w) from ⟨⟨n', hI'⟩, Nat.lt_of_le_of_lt ((leastOf_spec ⟨n', hI'⟩).2 n' hI') hlt⟩
  | exit id => exact hq
  | goto l => exact hq
  | ret => exact hq
  | panic ch => exact hq
  | outgrown => exact hq
theorem lit {id : Nat} {l : List Oper} (hd : (l.all fun o => match o.op with | .defer _ => false | _ => true) = true) (h : wpL P l.toArray Q l A W) : (Code.region id l.toArray false).wpIn (FW ro) 0 P Q A W := wpIn_region_L hd h
theorem nil (h : Q .normal A W) : wpL P ops Q [] A W := h

/-- an operation that gives a value -/
theorem pval {v : Value} (F : Fr A n L D) (hw : Region.wanted o (yielded ops A.tmps) = true) (hd : (match o.dst with | some d => decide (d < n) | none => true) = true) (hrun : (execOp A.eval o).run P W = .ok (.value v) W') (h : ∀ A', Fr A' n (X.putS L o.dst v) D → wpL P ops Q rest A' W') : wpL P ops Q (o :: rest) A W := by
  refine wpL_step fun K hK => ?_
  rw [if_pos hw]
  unfold Oper.wp
  rw [hrun]
  exact hK _ _ (h _ (F.put hd))
/-- an operation that gives none -/
theorem punit (F : Fr A n L D) (hw : Region.wanted o (yielded ops A.tmps) = true) (hd : (match o.dst with | some d => decide (d < n) | none => true) = true) (hrun : (execOp A.eval o).run P W = .ok .skip W') (h : ∀ A', Fr A' n (X.delS L o.dst) D → wpL P ops Q rest A' W') : wpL P ops Q (o :: rest) A W := by
  refine wpL_step fun K hK => ?_
  rw [if_pos hw]
  unfold Oper.wp
  rw [hrun]
  exact hK _ _ (h _ (F.del hd))
theorem pskip (F : Fr A n L D) (hw : Region.wanted o (yielded ops A.tmps) = false) (hd : (match o.dst with | some d => decide (d < n) | none => true) = true) (h : ∀ A', Fr A' n (X.delS L o.dst) D → wpL P ops Q rest A' W) : wpL P ops Q (o :: rest) A W := by
  refine wpL_step fun K hK => ?_
  rw [if_neg (by rw [hw]; decide)]
  exact hK _ _ (h _ (F.del hd))
theorem pcall {f : FuncId} {args : Array Value} {T : Ending → World → Prop} (F : Fr A n L D) (hw : Region.wanted o (yielded ops A.tmps) = true) (hd : (match o.dst with | some d => decide (d < n) | none => true) = true) (hrun : (execOp A.eval o).run P W = .ok (.enter f args) W) (hc : Calls P f args W T)
    (h : ∀ e W', T e W' → ∃ v, e = .returned v ∧ ∀ A', Fr A' n (X.putS L o.dst v) D → wpL P ops Q rest A' W') : wpL P ops Q (o :: rest) A W := by
  refine wpL_step fun K hK => ?_
  rw [if_pos hw]
  unfold Oper.wp
  rw [hrun]
  refine hc.mono fun e W' hT => ?_
  obtain ⟨v, rfl, h2⟩ := h e W' hT
  exact hK _ _ (h2 _ (F.put hd))
/-- an operation by a law at Oper.wp -/
theorem plaw {T : Value → World → Prop} (F : Fr A n L D) (hw : Region.wanted o (yielded ops A.tmps) = true) (hd : (match o.dst with | some d => decide (d < n) | none => true) = true)
    (hlaw : ∀ K : Act → World → Prop, (∀ v W', T v W' → K (A.put o.dst v) W') → o.wp P A W K Q)
    (h : ∀ v W', T v W' → ∀ A', Fr A' n (X.putS L o.dst v) D → wpL P ops Q rest A' W') : wpL P ops Q (o :: rest) A W := by
  refine wpL_step fun K hK => ?_
  rw [if_pos hw]
  exact hlaw K (fun v W' hT => hK _ _ (h v W' hT _ (F.put hd)))

/-- a property of a value that lasts while memory only grows -/
structure MP where
  p : Value → World → Prop
  up : ∀ v W W', p v W → Gr W W' → p v W'
/-- what is held in a region: memory has only grown; some operations' values have their properties -/
def RP (w : World) (Pr : List (Nat × MP)) : (Nat → Bool) → (Nat → Value) → World → Prop := fun done u W => Gr w W ∧ ∀ i q, Pr.lookup i = some q → done i = true → q.p (u i) W
section
variable {w : World} {Pr : List (Nat × MP)} {done : Nat → Bool} {u : Nat → Value}
theorem RP.step {i : Nat} {v : Value} (h : RP w Pr done u W) (g : Gr W W') (hi : Pr.lookup i = none) : RP w Pr (upd done i) (fun j => if j = i then v else u j) W' := by
  refine ⟨h.1.trans g, fun j q hj hd => ?_⟩
  by_cases e : j = i
  · subst e; rw [hi] at hj; cases hj
  · rw [upd_ne e] at hd
    simp only [if_neg e]
    exact q.up _ _ _ (h.2 j q hj hd) g
theorem RP.new {i : Nat} {v : Value} {q : MP} (h : RP w Pr done u W) (g : Gr W W') (hi : Pr.lookup i = some q) (hq : q.p v W') : RP w Pr (upd done i) (fun j => if j = i then v else u j) W' := by
  refine ⟨h.1.trans g, fun j q' hj hd => ?_⟩
  by_cases e : j = i
  · subst e; rw [hi] at hj; injection hj with hj; subst hj; simpa using hq
  · rw [upd_ne e] at hd
    simp only [if_neg e]
    exact q'.up _ _ _ (h.2 j q' hj hd) g
/-- an operation that is not wanted -/
theorem RP.skip {i : Nat} (h : RP w Pr done u W) (hi : Pr.lookup i = none) : RP w Pr (upd done i) (fun j => if j = i then undef else u j) W := h.step (Gr.refl _) hi
theorem RP.get {i : Nat} (h : RP w Pr done u W) (q : MP) (hi : Pr.lookup i = some q) (hd : done i = true) : q.p (u i) W := h.2 i q hi hd
end
theorem region {id : Nat} {l : List Oper} {d : Bool} {w : World} {a : Act} (F : Fr a n L D) (vs : List (Option Value)) (Pr : List (Nat × MP)) (hm : P.follows .mixedOrders = true) (ok : RegOk l vs n)
    (hstep : AllIdx (StepX P l vs L Q (RP w Pr)) l 0)
    (hfin : ∀ (A : Act) (u : Nat → Value) (W : World), A.tmps.size = n → A.defers = D → (∀ s v, lastAt l vs L s = some v → A.tmps[s]? = some v) → (∀ j d, ((l[j]?).bind fun o : Oper => o.dst) = some d → A.tmps[d]? = some (u j)) → RP w Pr (fun j => decide (j < l.length)) u W → Q .normal A W) :
    (Code.region id l.toArray d).wpIn (FW ro) 0 P Q a w :=
  region_xi F vs (RP w Pr) hm ok (fun _ => ⟨⟨Gr.refl _, fun _ _ _ h => by cases h⟩, ⟨Gr.drew _, fun _ _ _ h => by cases h⟩⟩) hstep hfin
theorem _root_.Go.Proofs.Ytlilojpnhmfnaaa.Fr.add (F : Fr A n L D) {d : Nat} {v z : Value} (h : A.tmps[d]? = some v) (e : v = z) : Fr A n ((d, z) :: L) D := by
  subst e
  refine ⟨F.sz, F.df, fun s x hm => ?_⟩
  rcases List.mem_cons.1 hm with hm | hm
  · injection hm with h1 h2; subst h1 h2; exact h
  · exact F.get s x hm

/-- a function's contract from its body -/
theorem calls {f : FuncId} {fn : Func} {c : Code} {args : Array Value} {w : World} {R : Ending → World → Prop} (N : Nat) (hf : P.funcs[f]? = some fn) (hb : fn.body = some c) (hN : args.size + (fn.ntmps - args.size) = N)
    (h : ∀ A, Fr A N (X.argL args.toList 0) → c.wpIn (FW none) 0 P (bodyPostM Fence.wide 0 P fn R) A w) : Calls P f args w R := by
  refine callsIn_wide.1 (callsIn_of_wp_marks (F := Fence.wide) (n := 0) hf hb trivial ?_)
  refine h _ ⟨by simpa using hN, rfl, fun s v hm => ?_⟩
  obtain ⟨_, h2⟩ := X.argL_mem hm
  rw [Nat.sub_zero] at h2
  have hlt := (List.getElem?_eq_some_iff.1 h2).1
  show (args ++ Array.replicate (fn.ntmps - args.size) undef)[s]? = some v
  rw [Array.getElem?_append_left (by simpa using hlt)]
  simpa using h2
/-- the results -/
theorem rs1 {fn : Func} {s : Nat} {v : Value} (F : Fr A n L D) (hr : fn.results = #[.tmp s]) (hv : lookS L s = some v) : (results fn A.tmps).run P W = .ok v W := by
  have e := F.look hv
  simp [results, hr, e, go_sem]
theorem rs2 {fn : Func} {s t : Nat} {v x : Value} (F : Fr A n L D) (hr : fn.results = #[.tmp s, .tmp t]) (hv : lookS L s = some v) (hx : lookS L t = some x) : (results fn A.tmps).run P W = .ok (.tuple #[v, x]) W := by
  have e := F.look hv
  have e2 := F.look hx
  simp [results, hr, e, e2, go_sem]
theorem rs3 {fn : Func} {s t r : Nat} {v x y : Value} (F : Fr A n L D) (hr : fn.results = #[.tmp s, .tmp t, .tmp r]) (hv : lookS L s = some v) (hx : lookS L t = some x) (hy : lookS L r = some y) : (results fn A.tmps).run P W = .ok (.tuple #[v, x, y]) W := by
  have e := F.look hv
  have e2 := F.look hx
  have e3 := F.look hy
  simp [results, hr, e, e2, e3, go_sem]
/-- the first one lies in a cell -/
theorem rc2 {fn : Func} {s t : Nat} {ty : TypeId} {p : Addr} {v x : Value} (F : Fr A n L D) (hr : fn.results = #[.cell s ty, .tmp t]) (hA : (isAgg ty).run P W = .ok false W) (hp : lookS L s = some (.pointer (some p))) (hv : W.cell? p = some v) (hx : lookS L t = some x) : (results fn A.tmps).run P W = .ok (.tuple #[v, x]) W := by
  have e := F.look hp
  have e2 := F.look hx
  simp [results, hr, e, e2, go_sem, Instr.loadAt, loadVar, Instr.sureAddr, hA, hv]
theorem ret0 {fn : Func} {R : Ending → World → Prop} {v : Value} (F : Fr A n L) (hr : (results fn A.tmps).run P W = .ok v W) (h : R (.returned v) W) : bodyPostM Fence.wide 0 P fn R .ret A W := marks_ret0 hr F.df h
theorem ret1 {fn : Func} {R : Ending → World → Prop} {v : Value} {k : Nat} (F : Fr A n L [{ target := .collected k, args := #[] }]) (hk : W.heap[k]? = some (.deferred (some []))) (hr : (results fn A.tmps).run P (W.putObj k (.deferred none)) = .ok v (W.putObj k (.deferred none))) (h : R (.returned v) (W.putObj k (.deferred none))) : bodyPostM Fence.wide 0 P fn R .ret A W := marks_ret1 F.df hk hr h
theorem _root_.Go.Proofs.Ytlilojpnhmfnaaa.Gr.putObj {a b : World} (h : Gr a b) {r : Nat} (hp : a.heap.size ≤ r) (x : Obj) : Gr a (b.putObj r x) :=
  (Only.putObj (h.only (fun _ => False)) (.inr hp) x).gr (fun _ _ h => h)
/-- two bools -/
theorem eqlB {t : TypeId} {x y : Operand} (hu : P.underlying t = some .bool) {p q b : Bool} (hb : (p == q) = b) : (do eqGuard .eql t x y (.bool p) (.bool q); binOp .eql t (.bool p) (.bool q) : Sem Value).run P W = .ok (.bool b) W := by
  subst hb
  obtain ⟨d, hd⟩ : ∃ d, Op.maxDepth = d + 1 := ⟨_, rfl⟩
  simp [eqGuard, binOp, Op.equal, hd, Op.equalIn, run_underlying hu, go_sem]
theorem neqB {t : TypeId} {x y : Operand} (hu : P.underlying t = some .bool) {p q b : Bool} (hb : (p != q) = b) : (do eqGuard .neq t x y (.bool p) (.bool q); binOp .neq t (.bool p) (.bool q) : Sem Value).run P W = .ok (.bool b) W := by
  subst hb
  obtain ⟨d, hd⟩ : ∃ d, Op.maxDepth = d + 1 := ⟨_, rfl⟩
  simp [eqGuard, binOp, Op.equal, hd, Op.equalIn, run_underlying hu, go_sem, bne]
/-- nil, and not -/
theorem nilT {t e : TypeId} {x y : Operand} (hu : P.underlying t = some (.slice e)) : (do eqGuard .eql t x y (.slice none 0 0) (.slice none 0 0); binOp .eql t (.slice none 0 0) (.slice none 0 0) : Sem Value).run P W = .ok (.bool true) W := by
  obtain ⟨d, hd⟩ : ∃ d, Op.maxDepth = d + 1 := ⟨_, rfl⟩
  simp [eqGuard, binOp, Op.equal, hd, Op.equalIn, run_underlying hu, go_sem]
theorem nilF {t e : TypeId} {x y : Operand} (hu : P.underlying t = some (.slice e)) {a : Addr} {k c : Nat} : (do eqGuard .eql t x y (.slice (some a) k c) (.slice none 0 0); binOp .eql t (.slice (some a) k c) (.slice none 0 0) : Sem Value).run P W = .ok (.bool false) W := by
  obtain ⟨d, hd⟩ : ∃ d, Op.maxDepth = d + 1 := ⟨_, rfl⟩
  simp [eqGuard, binOp, Op.equal, hd, Op.equalIn, run_underlying hu, go_sem]
/-- a new variable; a new slice -/
theorem al {ρ : Operand → Value} {t : TypeId} {v : Value} (ho : o.op = .alloc t) (hr : (Instr.alloc t true (.tuple #[])).run P W = .ok v W') : (execOp ρ o).run P W = .ok (.value v) W' := by
  unfold execOp; rw [ho]; exact X.run_v hr
theorem mk {ρ : Operand → Value} {t : TypeId} {x y : Operand} {p q v : Value} (ho : o.op = .makeSlice t x y) (hx : ρ x = p) (hy : ρ y = q) (hr : (Instr.makeSlice t p q).run P W = .ok v W') : (execOp ρ o).run P W = .ok (.value v) W' := by
  unfold execOp; rw [ho]; simp only [hx, hy]; exact X.run_v hr
theorem pput {d : Option Nat} {v : Value} (F : Fr A n L D) (hd : (match d with | some d => decide (d < n) | none => true) = true) (h : ∀ A', Fr A' n (X.putS L d v) D → wpL P ops Q rest A' W) : wpL P ops Q rest (A.put d v) W := h _ (F.put hd)
theorem wpL_plain (hg : o.guard = none) {a : Act} {w : World} (h : ∀ K : Act → World → Prop, (∀ a w, wpL P ops Q rest a w → K a w) → o.wp P a w K Q) : wpL P ops Q (o :: rest) a w :=
  wpL_step fun K hK => by rw [if_pos (X.w0 hg)]; exact h K hK
/-- a cell that is written -/
theorem st1 {t : TypeId} {p : Addr} {v v0 : Value} (hS : (sizeOf t).run P W = .ok 1 W) (hv : v.cells = #[v]) (hv1 : v.oneCell' = true) (hc : W.cell? p = some v0) (hf : W.frozen? p = false) : (Instr.storeAt t (.pointer (some p)) v).run P W = .ok () (W.setCell p v) := by
  have h := run_store P W p v .plain hv1
  rw [hc, hf] at h
  simp only [Bool.false_eq_true, if_false] at h
  unfold Value.cells at hv
  simp [Instr.storeAt, storeVar, Instr.sureAddr, hS, hv, storeCells, Value.cells, go_sem, h]
end Y
end
section
open Go.RowKit

/-- **A RANGE OVER A FUNCTION.** D: the heap's size where the loop begins. -/
theorem range_rule2 {P : Program} {α : Type} {g : Operand} {ps : Array Tmp} {assign body : Code} {Q : Exit → Act → World → Prop} {a : Act} {w : World} {gf : Nat} {lb : Array Value}
    (hg : a.eval g = .func (.func gf) #[] lb) (eg : ∀ args w, (callFunc gf args).run P w = .ok (.enter gf args) w)
    (I : List α → World → Prop) (Ix : Code → World → Prop) (Y : Nat → Prop) (E : List α → α → Array Value → World → Prop) (S : List α → Prop) (a₁ : Array Value → Act)
    (hY0 : ¬ Y w.heap.size) (hY1 : ¬ Y (w.heap.size + 1))
    (hI : ∀ xs W o, I xs W → I xs (W.putObj (w.heap.size + 1) (.loop o))) (hIx : ∀ c W o, Ix c W → Ix c (W.putObj (w.heap.size + 1) (.loop o)))
    (hEs : ∀ pre x args W, E pre x args W → args.size = ps.size) (hEp : ∀ pre x args W o, E pre x args W → E pre x args (W.putObj (w.heap.size + 1) (.loop o)))
    (h0 : I [] w) (hIa : ∀ xs W o, I xs W → I xs (W.alloc o))
    (hassign : ∀ (l : Nat) (pre : List α) (x : α) (args : Array Value) (W : World) (K : Act → World → Prop), E pre x args W → K (a₁ args) W →
      assign.wpIn (Fence.wide.inRound l) 0 P (Exit.then K (fun _ _ _ => False)) { tmps := (ps.zip args).foldl (fun t (p, v) => t.setIfInBounds p v) a.tmps, defers := [] } W)
    (hbody : ∀ (pre : List α) (x : α) (args : Array Value) (W : World), I pre W → E pre x args W → w.heap.size + 1 < W.heap.size → body.wpIn (Fence.wide.inRound (w.heap.size + 1)) 0 P (roundQ Y I Ix (pre ++ [x]) W) (a₁ args) W)
    (hiter : ∀ (L : Loop), L.state = .ready → L.pending = none →
      (∀ pre x args W, Between w.heap.size L I pre W → E pre x args W → YieldAt Fence.wide 0 P (w.heap.size + 1) args W fun e W' =>
        (e = .returned (.bool true) ∧ Between w.heap.size L I (pre ++ [x]) W' ∧ Only Y W W') ∨ (e = .returned (.bool false) ∧ Left w.heap.size L Ix W')) →
      Between w.heap.size L I [] ((w.alloc (.deferred (some []))).alloc (.loop L)) →
      CallsIn Fence.wide 0 P gf (#[.func (.yield (w.heap.size + 1)) #[] #[]] ++ lb) ((w.alloc (.deferred (some []))).alloc (.loop L)) fun e W' =>
        (∃ v, e = .returned v) ∧ ((∃ xs, S xs ∧ Between w.heap.size L I xs W') ∨ Left w.heap.size L Ix W'))
    (hdone : ∀ (xs : List α) (W : World), S xs → I xs W → W.heap[w.heap.size]? = some (.deferred (some [])) → Q .normal { a with defers := { target := .collected w.heap.size, args := #[] } :: a.defers } W)
    (hstop : ∀ (c : Code) (W : World), Ix c W → W.heap[w.heap.size]? = some (.deferred (some [])) → c.wpIn Fence.wide 0 P Q { a with defers := { target := .collected w.heap.size, args := #[] } :: a.defers } W) :
    (Code.rangeFunc g ps assign body).wp P Q a w := by
  refine (wpIn_wide (n := 0)).1 ?_
  refine wpIn_rangeFunc ?_
  intro fn hfn
  obtain ⟨L, hL⟩ : ∃ L : Loop, L = { state := .ready, pending := none, fn, tmps := a.tmps, params := ps, assign, body, defers := w.heap.size } := ⟨_, rfl⟩
  obtain ⟨W1, hW1⟩ : ∃ W1, (w.alloc (.deferred (some []))).alloc (.loop L) = W1 := ⟨_, rfl⟩
  have hL1 : W1.heap[w.heap.size + 1]? = some (.loop L) := by
    rw [← hW1]; have := World.alloc_heap_new (w.alloc (.deferred (some []))) (.loop L); rwa [World.size_alloc] at this
  have hK1 : W1.heap[w.heap.size]? = some (.deferred (some [])) := by
    rw [← hW1]; exact (Below.heap_alloc _ _ _ (by simp)).trans (World.alloc_heap_new w _)
  have hI1 : I [] W1 := by rw [← hW1]; exact hIa _ _ _ (hIa _ _ _ h0)
  refine ⟨w.heap.size + 1, [{ target := .collected w.heap.size, args := #[] }], W1, { target := .fn (.func gf) lb, args := #[.func (.yield (w.heap.size + 1)) #[] #[]] }, W1, gf,
    #[.func (.yield (w.heap.size + 1)) #[] #[]] ++ lb, W1, ?_, ?_, fun _ _ => trivial, ?_, fun h => by simp [Fence.wide] at h, ?_⟩
  · rw [← hW1, hL]; exact run_enterLoop_outer _ _ _ _ _
  · simp only [resolve, hg]
    simp [go_sem]
  · simp [invoke, go_sem, eg]
  · have hit := hiter L (by rw [hL]) (by rw [hL])
    rw [hW1] at hit
    refine (hit ?_ ⟨hI1, hL1, hK1⟩).mono ?_
    · rintro pre x args W ⟨hi, hl, hk⟩ hE
      have hlt : w.heap.size + 1 < W.heap.size := (Array.getElem?_eq_some_iff.1 hl).1
      have hy := run_yield (P := P) (args := args) hl (by rw [hL]; exact hEs pre x args W hE)
      rw [hL] at hy
      refine ⟨fn, _, assign, body, hy, roundIn_of_wpIn (F := Fence.wide) trivial (hassign _ pre x args W _ hE ⟨_, run_beginRound hl (by rw [hL]), ?_⟩)⟩
      have hl2 : (W.putObj (w.heap.size + 1) (.loop { L with state := .busy })).heap[w.heap.size + 1]? = some (.loop { L with state := .busy }) := World.putObj_heap_same hlt
      have hk2 : (W.putObj (w.heap.size + 1) (.loop { L with state := .busy })).heap[w.heap.size]? = some (.deferred (some [])) := (World.putObj_heap_other (by omega)).trans hk
      have hsz2 : (W.putObj (w.heap.size + 1) (.loop { L with state := .busy })).heap.size = W.heap.size := by simp
      refine wpIn_mono (hbody pre x args _ (hI _ _ _ hi) (hEp _ _ _ _ _ hE) (by rw [hsz2]; exact hlt)) ?_
      have hrest : ∀ (W3 : World) (o : Loop), Only Y (W.putObj (w.heap.size + 1) (.loop { L with state := .busy })) W3 → (W3.putObj (w.heap.size + 1) (.loop o)).heap[w.heap.size]? = some (.deferred (some [])) := fun W3 o ho =>
        (World.putObj_heap_other (by omega)).trans ((ho.block _ (by rw [hsz2]; omega) hY0).trans hk2)
      have hl3 : ∀ (W3 : World), Only Y (W.putObj (w.heap.size + 1) (.loop { L with state := .busy })) W3 → W3.heap[w.heap.size + 1]? = some (.loop { L with state := .busy }) := fun W3 ho =>
        (ho.block _ (by rw [hsz2]; omega) hY1).trans hl2
      rintro e a3 W3 hp
      cases e with
      | normal =>
        obtain ⟨ho, hi3⟩ := hp
        have hl4 := hl3 W3 ho
        have hlt4 : w.heap.size + 1 < W3.heap.size := (Array.getElem?_eq_some_iff.1 hl4).1
        have hrun := run_endRound (P := P) none hl4
        have hLL : ({ ({ L with state := .busy } : Loop) with state := if (none : Option Code).isNone then .ready else .done, pending := none } : Loop) = L := by rw [hL]; rfl
        rw [hLL] at hrun
        refine ⟨_, _, hrun, .inl ⟨rfl, ⟨hI _ _ _ hi3, World.putObj_heap_same hlt4, hrest W3 L ho⟩, ?_⟩⟩
        refine ⟨ho.os, ho.tape, ho.output, by have := ho.size; simp at this ⊢; exact this, fun b hb hn => ?_⟩
        by_cases e : b = w.heap.size + 1
        · subst e; rw [World.putObj_heap_same hlt4, hl]
        · rw [World.putObj_heap_other e, ho.block b (by rw [hsz2]; exact hb) hn, World.putObj_heap_other e]
      | ret =>
        obtain ⟨ho, hi3⟩ := hp
        have hl4 := hl3 W3 ho
        have hlt4 : w.heap.size + 1 < W3.heap.size := (Array.getElem?_eq_some_iff.1 hl4).1
        have hrun := run_endRound (P := P) (some .ret) hl4
        exact ⟨_, _, hrun, .inr ⟨rfl, .ret, hIx _ _ _ hi3, World.putObj_heap_same hlt4, hrest W3 _ ho⟩⟩
      | exit id =>
        obtain ⟨ho, hi3⟩ := hp
        have hl4 := hl3 W3 ho
        have hlt4 : w.heap.size + 1 < W3.heap.size := (Array.getElem?_eq_some_iff.1 hl4).1
        have hrun := run_endRound (P := P) (some (.exit id)) hl4
        exact ⟨_, _, hrun, .inr ⟨rfl, .exit id, hIx _ _ _ hi3, World.putObj_heap_same hlt4, hrest W3 _ ho⟩⟩
      | goto t => exact hp.elim
      | panic ch => exact hp.elim
      | outgrown => exact hp.elim
    · rintro e W2 ⟨⟨v, rfl⟩, (⟨xs, hS, hi, hl, hk⟩ | ⟨c, hi, hl, hk⟩)⟩
      · refine ⟨L.pending, _, run_endLoop (P := P) hl (by rw [hL]; simp), ?_⟩
        have : L.pending = none := by rw [hL]
        rw [this]
        exact hdone xs _ hS (hI _ _ _ hi) ((World.putObj_heap_other (by omega)).trans hk)
      · refine ⟨some c, _, run_endLoop (P := P) hl (by simp), ?_⟩
        exact hstop c _ (hIx _ _ _ hi) ((World.putObj_heap_other (by omega)).trans hk)

/-- what a round is handed -/
def SArg2 (wB w : World) (S : Nat → Prop) (f : Fl) (lo hi : List Int) (n : Nat) (pre : List (List Int)) (x : List Int) (args : Array Value) (W : World) : Prop :=
  ∃ ad c, args = #[.slice (some ad) n c] ∧ Ints W (some ad) n x ∧ w.heap.size + 4 < ad.block ∧ (∃ rest, enum f lo hi n [] = pre ++ x :: rest) ∧ StOk f x ∧ worksB f x = true ∧ Only S wB W ∧ Is3 W ad.block

theorem range_states2 {g : Operand} {pt : Tmp} {assign body : Code} {Q : Exit → Act → World → Prop} {a : Act} {w wB : World} {S Y : Nat → Prop} {f : Fl} {ta ca fa toa : Option Addr} {tn tc cn cc n fc toc : Nat} {lo hi : List Int} {bfr bfl bto : Nat}
    (hg : a.eval g = .func (.func 90) #[] #[.pointer (some ⟨bfr, 0, none⟩), .pointer (some ⟨bfl, 0, none⟩), .pointer (some ⟨bto, 0, none⟩)])
    (hb : SBase wB S f ta tn ca cn fa toa n lo hi) (hbase : Only S wB w) (hYS : ∀ b, Y b → S b) (hYlt : ∀ b, Y b → b < w.heap.size)
    (c1 : w.cell? ⟨bfr, 0, none⟩ = some (.slice fa n fc)) (c2 : w.cell? ⟨bfl, 0, none⟩ = some (.slice ta tn tc)) (c3 : w.cell? ⟨bfl, 1, none⟩ = some (.slice ca cn cc)) (c4 : w.cell? ⟨bto, 0, none⟩ = some (.slice toa n toc))
    (n1 : ¬ Y bfr) (n2 : ¬ Y bfl) (n3 : ¬ Y bto) (I : List (List Int) → World → Prop) (Ix : Code → World → Prop)
    (h0 : I [] w) (hI : ∀ xs W W', I xs W → Only (fun b => b = w.heap.size + 1 ∨ b = w.heap.size + 4) W W' → I xs W')
    (hIx : ∀ c W W', Ix c W → Only (fun b => b = w.heap.size + 1) W W' → Ix c W') (a₁ : Value → Act)
    (hassign : ∀ (l : Nat) (v : Value) (W : World) (K : Act → World → Prop), K (a₁ v) W → assign.wpIn (Fence.wide.inRound l) 0 Try.prog (Exit.then K (fun _ _ _ => False)) { tmps := a.tmps.setIfInBounds pt v, defers := [] } W)
    (hbody : ∀ (pre : List (List Int)) (x : List Int) (ad : Addr) (c : Nat) (W : World), I pre W → Only S wB W → Ints W (some ad) n x → w.heap.size + 4 < ad.block → Is3 W ad.block → (∃ rest, enum f lo hi n [] = pre ++ x :: rest) → StOk f x → worksB f x = true →
      body.wpIn (Fence.wide.inRound (w.heap.size + 1)) 0 Try.prog (roundQ Y I Ix (pre ++ [x]) W) (a₁ (.slice (some ad) n c)) W)
    (hdone : ∀ (W : World), I (enum f lo hi n []) W → W.heap[w.heap.size]? = some (.deferred (some [])) → Q .normal { a with defers := { target := .collected w.heap.size, args := #[] } :: a.defers } W)
    (hstop : ∀ (c : Code) (W : World), Ix c W → W.heap[w.heap.size]? = some (.deferred (some [])) → c.wpIn Fence.wide 0 Try.prog Q { a with defers := { target := .collected w.heap.size, args := #[] } :: a.defers } W) :
    (Code.rangeFunc g #[pt] assign body).wp Try.prog Q a w := by
  have hsz := hbase.size
  refine range_rule2 (P := Try.prog) (α := List Int) (gf := 90) (lb := #[.pointer (some ⟨bfr, 0, none⟩), .pointer (some ⟨bfl, 0, none⟩), .pointer (some ⟨bto, 0, none⟩)]) hg (Go.Proofs.enters_of Try.func90 (by kernel_rfl) rfl)
    I Ix Y (SArg2 wB w S f lo hi n) (fun xs => xs = enum f lo hi n []) (fun args => a₁ (args.getD 0 undef)) (fun h => by have := hYlt _ h; omega) (fun h => by have := hYlt _ h; omega)
    (fun xs W o h => hI xs W _ h ((putObj_only _ _ _).mono' (fun i e => .inl e))) (fun c W o h => hIx c W _ h (putObj_only _ _ _))
    (fun pre x args W h => by obtain ⟨ad, c, rfl, _⟩ := h; rfl)
    (fun pre x args W o h => by
      obtain ⟨ad, c, h1, h2, h3, h4, h5, h6, h7, h8⟩ := h
      exact ⟨ad, c, h1, h2.onlyAt (putObj_only _ _ _) (fun ad' e hS => by cases e; omega), h3, h4, h5, h6, h7.trans ((putObj_only _ _ _).mono' (fun i e => by subst e; exact hb.new _ (by omega))), h8.only (putObj_only _ _ _) (by omega)⟩)
    h0 (fun xs W o h => hI xs W _ h (alloc_only _ _ _)) (fun l pre x args W K hE hK => by
      obtain ⟨ad, c, rfl, _⟩ := hE
      have h1 := hassign l (.slice (some ad) n c) W K hK
      simpa using h1)
    (fun pre x args W hi hE _ => by
      obtain ⟨ad, c, rfl, h2, h3, h4, h5, h6, h7, h8⟩ := hE
      exact hbody pre x ad c W hi h7 h2 h3 h8 h4 h5 h6) ?_ (fun xs W hS hi hk => by subst hS; exact hdone W hi hk) hstop
  intro L hLs hLp hyield hstart
  obtain ⟨W0, hW0⟩ : ∃ W0, (w.alloc (.deferred (some []))).alloc (.loop L) = W0 := ⟨_, rfl⟩
  have g0 : Gr w W0 := by rw [← hW0]; exact (Gr.alloc _ _).allocR _
  have s0 : W0.heap.size = w.heap.size + 2 := by rw [← hW0]; simp
  rw [hW0] at hstart ⊢
  refine callsIn_wide.2 ?_
  have hcall := states1_any wB W0 S Y (Between w.heap.size L I) (Left w.heap.size L Ix) f ta ca fa toa tn tc cn cc n fc toc lo hi bfr bfl bto (w.heap.size + 1) hb (hbase.thenGr g0) hYS (fun b h => Nat.lt_of_lt_of_le (hYlt b h) g0.size)
    ((g0.cell (lt_cell c1)).trans c1) ((g0.cell (lt_cell c2)).trans c2) ((g0.cell (lt_cell c3)).trans c3) ((g0.cell (lt_cell c4)).trans c4) n1 n2 n3 hstart
    (fun done W W' h ho => by
      rw [s0] at ho
      obtain ⟨hi, hl, hk⟩ := h
      have l1 := (Array.getElem?_eq_some_iff.1 hl).1
      have l2 := (Array.getElem?_eq_some_iff.1 hk).1
      exact ⟨hI _ _ _ hi (ho.mono' (fun i e => .inr e)), (ho.block _ l1 (by omega)).trans hl, (ho.block _ l2 (by omega)).trans hk⟩)
    (fun W W' h g => by
      obtain ⟨c, hi, hl, hk⟩ := h
      have l1 := (Array.getElem?_eq_some_iff.1 hl).1
      have l2 := (Array.getElem?_eq_some_iff.1 hk).1
      exact ⟨c, hIx _ _ _ hi (g.only _), (g.below.block _ l1).trans hl, (g.below.block _ l2).trans hk⟩)
    (fun done x rest W ad c hj hon hin h3 hp hall hst hw => by
      have hE : SArg2 wB w S f lo hi n done x #[.slice (some ad) n c] W := ⟨ad, c, rfl, hin, by omega, ⟨rest, hall⟩, hst, hw, hon, h3⟩
      exact (hyield done x _ W hj hE).mono (fun e W' h => by
        rcases h with ⟨h1, h2, h3⟩ | ⟨h1, h2⟩
        · exact .inl ⟨h1, h2, h3⟩
        · exact .inr ⟨h1, h2⟩))
  refine hcall.mono (fun e W' h => ?_)
  obtain ⟨hv, h | h⟩ := h
  · exact ⟨hv, .inl ⟨_, rfl, h⟩⟩
  · exact ⟨hv, .inr h⟩
end
section
open Go.RowKit

/-- all states that work and go on from pre by k more computers -/
def enumR (f : Fl) : Nat → List Int → List (List Int)
  | 0, pre => if worksB f pre then [pre] else []
  | k + 1, pre => (List.range ((f.times[pre.length]?.getD []).length + 1)).flatMap fun (i : Nat) => enumR f k (pre ++ [(i : Int)])
def zeros (f : Fl) : List Int := List.replicate f.times.length 0
def newestV (f : Fl) : List Int := f.times.map fun l => (l.length : Int)
theorem enumR_eq (f : Fl) : ∀ (k : Nat) (pre : List Int), pre.length + k = f.times.length → enumR f k pre = enum f (zeros f) (newestV f) k pre := by
  intro k
  induction k with
  | zero => intro pre _; rfl
  | succ k ih =>
    intro pre h
    have hl : pre.length < f.times.length := by omega
    have h0 : (zeros f)[pre.length]?.getD 0 = 0 := by simp [zeros, hl]
    have h1 : (newestV f)[pre.length]?.getD 0 = ((f.times[pre.length]?.getD []).length : Int) := by simp [newestV, hl]
    simp only [enumR, enum, h0, h1]
    rw [show ((((f.times[pre.length]?.getD []).length : Int) - 0 + 1).toNat) = (f.times[pre.length]?.getD []).length + 1 by omega]
    congr 1
    funext i
    rw [ih (pre ++ [(i : Int)]) (by simp; omega)]
    simp

/-- the part of a level that is done -/
def enumTo2 (f : Fl) (k : Nat) (pre : List Int) (i : Nat) : List (List Int) := (List.range i).flatMap fun (j : Nat) => enumR f k (pre ++ [(j : Int)])
theorem enumTo2_succ (f : Fl) (k : Nat) (pre : List Int) (i : Nat) : enumTo2 f k pre (i + 1) = enumTo2 f k pre i ++ enumR f k (pre ++ [(i : Int)]) := by
  unfold enumTo2; rw [List.range_succ, List.flatMap_append]; simp

/-- the beginning of a state is valid -/
def PreOk (f : Fl) (pre : List Int) : Prop := ∀ c, c < pre.length → 0 ≤ pre[c]?.getD 0 ∧ pre[c]?.getD 0 ≤ ((f.times[c]?.getD []).length : Int)
theorem PreOk.st {f : Fl} {pre : List Int} (h : PreOk f pre) (hl : pre.length = f.times.length) : StOk f pre := ⟨hl, fun c hc => h c (by omega)⟩
theorem PreOk.snoc {f : Fl} {pre : List Int} (h : PreOk f pre) {i : Nat} (hi : i ≤ (f.times[pre.length]?.getD []).length) : PreOk f (pre ++ [(i : Int)]) := by
  intro c hc
  by_cases e : c = pre.length
  · subst e; simp; exact hi
  · have hc' : c < pre.length := by simp at hc; omega
    rw [List.getElem?_append_left hc']; exact h c hc'
theorem PreOk.nil (f : Fl) : PreOk f [] := fun c hc => by simp at hc
theorem enumR_ok {f : Fl} : ∀ (k : Nat) (pre : List Int), pre.length + k = f.times.length → PreOk f pre → ∀ x ∈ enumR f k pre, StOk f x ∧ worksB f x = true := by
  intro k
  induction k with
  | zero =>
    intro pre hl hp x hx
    simp only [enumR] at hx
    split at hx
    · simp at hx; subst hx; exact ⟨hp.st (by omega), by assumption⟩
    · simp at hx
  | succ k ih =>
    intro pre hl hp x hx
    simp only [enumR, List.mem_flatMap, List.mem_range] at hx
    obtain ⟨i, hi, hx⟩ := hx
    exact ih _ (by simp; omega) (hp.snoc (by omega)) x hx
theorem flatMap_len {α β : Type} (g : α → List β) (b : Nat) : ∀ (l : List α), (∀ x ∈ l, (g x).length ≤ b) → (l.flatMap g).length ≤ l.length * b := by
  intro l
  induction l with
  | nil => intro _; simp
  | cons a l ih =>
    intro h
    rw [List.flatMap_cons, List.length_append, List.length_cons, Nat.succ_mul]
    have := h a (by simp)
    have := ih (fun x hx => h x (by simp [hx]))
    omega
theorem enumR_len {f : Fl} (hok : FlOk f) : ∀ (k : Nat) (pre : List Int), pre.length + k = f.times.length → (enumR f k pre).length ≤ 4 ^ k := by
  intro k
  induction k with
  | zero => intro pre _; simp only [enumR]; split <;> simp
  | succ k ih =>
    intro pre hl
    have h3 := hok.row pre.length (by omega)
    have h1 := flatMap_len (fun (i : Nat) => enumR f k (pre ++ [(i : Int)])) (4 ^ k) (List.range ((f.times[pre.length]?.getD []).length + 1)) (fun i _ => ih _ (by simp; omega))
    simp only [enumR]
    rw [List.length_range] at h1
    have h2 : ((f.times[pre.length]?.getD []).length + 1) * 4 ^ k ≤ 4 * 4 ^ k := Nat.mul_le_mul_right _ (by omega)
    rw [Nat.pow_succ]; omega
theorem enumTo2_len {f : Fl} (hok : FlOk f) {k : Nat} {pre : List Int} (hl : pre.length + (k + 1) = f.times.length) {i : Nat} (hi : i ≤ (f.times[pre.length]?.getD []).length + 1) : (enumTo2 f k pre i).length ≤ 4096 := by
  have h3 := hok.row pre.length (by omega)
  have h6 := hok.n6
  have h1 := flatMap_len (fun (j : Nat) => enumR f k (pre ++ [(j : Int)])) (4 ^ k) (List.range i) (fun j _ => enumR_len hok k _ (by simp; omega))
  rw [List.length_range] at h1
  have h2 : i * 4 ^ k ≤ 4 * 4 ^ k := Nat.mul_le_mul_right _ (by omega)
  have h4 : 4 ^ k ≤ 4 ^ 5 := Nat.pow_le_pow_right (by omega) (by omega)
  have h5 : (4 : Nat) ^ 5 = 1024 := by decide
  unfold enumTo2; omega

theorem OutR.mono {w : World} {B B' : Nat} {v : Value} {L : List (List Int)} (h : OutR w B' v L) (hb : B ≤ B') : OutR w B v L := by
  obtain ⟨xs, h1, h2⟩ := h
  refine ⟨xs, ⟨h1.1, ?_⟩, h2⟩
  rcases h1.2 with h3 | ⟨g, cap, cur, e, h4, h5⟩
  · exact .inl h3
  · exact .inr ⟨g, cap, cur, e, Nat.le_trans hb h4, h5⟩
/-- append of a whole list of states to the list that a call collects -/
theorem wp_pushAll {o : Oper} {a : Act} {w1 W : World} {K : Act → World → Prop} {Q : Exit → Act → World → Prop} {s x : Operand} {v v2 : Value} {L M : List (List Int)} {B2 : Nat}
    (ho : o.op = .call { callee := .builtin .append, args := #[s, x], argTypes := #[22, 22] }) (hs : a.eval s = v) (hx : a.eval x = v2)
    (hO : OutR W w1.heap.size v L) (hM : OutR W B2 v2 M) (h1 : Gr w1 W) (hl : L.length ≤ 1000000) (hm : M.length ≤ 1000000)
    (h : ∀ v' w', OutR w' w1.heap.size v' (L ++ M) → Gr w1 w' → K (a.put o.dst v') w') : o.wp Try.prog a W K Q := by
  obtain ⟨i0, hi, hz0, hz1, hz2⟩ := info_parts Try.info26
  obtain ⟨ov, hown, hrw⟩ := hO
  obtain ⟨mv, hmown, hmrw⟩ := hM
  by_cases hm0 : M.length = 0
  · have hM0 : M = [] := List.eq_nil_of_length_eq_zero hm0
    subst hM0
    obtain ⟨pa, pc, rfl⟩ : ∃ pa pc, v2 = .slice pa 0 pc := by
      rcases hmown.2 with ⟨rfl, _⟩ | ⟨g, cap, cur, rfl, _⟩
      · exact ⟨_, _, rfl⟩
      · exact ⟨_, _, rfl⟩
    have hsrc := src_none W pa pc
    rw [← hz1] at hsrc
    obtain ⟨va, vn, vc, rfl, hvn⟩ : ∃ va vn vc, v = .slice va vn vc ∧ vn ≤ vc := by
      rcases hown.2 with ⟨rfl, _⟩ | ⟨g, cap, cur, rfl, _, _, hnc, _⟩
      · exact ⟨_, _, _, rfl, Nat.le_refl _⟩
      · exact ⟨_, _, _, rfl, hnc⟩
    have hrun := run_append_nothing (P := Try.prog) W 22 22 o.type 26 i0 Try.underlying22 hi va vn vc hvn _ hsrc
    unfold Oper.wp execOp
    simp only [ho, resolve, invoke, builtin, Sem.run_bind, Sem.run_pure, Result.andThen_ok, List.map_toArray, List.map_cons, List.map_nil, hs, hx, hrun]
    rw [← List.append_nil L] at hown hrw
    exact h _ _ ⟨ov, hown, hrw⟩ h1
  · rcases hmown.2 with ⟨_, h0⟩ | ⟨g, cap, cur, rfl, hge, hg, hnc, _, hcs, ht⟩
    · omega
    · have hml : mv.length = M.length := by simpa using hmown.1
      refine wp_append_own W s x 22 ho w1.heap.size 26 i0 (.slice none 0 0) 1 24 Try.underlying22 hi hz0 hz1 hz2 rfl (by decide) v L.length ov hs hown ⟨g, 0, none⟩ M.length cap mv hx (by rw [hml, Nat.mul_one]) (fun j u hu => hmown.cells (g := g) rfl j u hu) (fun u hu => ?_) (by unfold maxLen; omega) (by omega) h1.size (fun v' w' hown' hgrow _ => ?_)
      · obtain ⟨j, hj, e⟩ := List.mem_iff_getElem.1 hu
        obtain ⟨ad, n, c, k1, _, _⟩ := hmrw j (by omega)
        rw [List.getElem?_eq_getElem hj, e] at k1
        cases k1; rfl
      · have hO' := only_grown hgrow
        have hb : ∀ b, v.ownBlock = some b → w1.heap.size ≤ b ∧ ¬ Is3 W b := fun b e => own_block hown e
        have hob : ∀ ad' : Addr, Is3 W ad'.block → ¬ (v.ownBlock = some ad'.block) := fun ad' h e => (hb _ e).2 h
        have hxl : ov.length = L.length := by simpa using hown.1
        refine h v' w' ⟨ov ++ mv, by simpa using hown', fun j hj => ?_⟩ (((h1.only (fun b => w1.heap.size ≤ b)).trans (hO'.mono' (fun i e => (hb i e).1))).gr (fun i hi e => by omega))
        by_cases hjl : j < L.length
        · obtain ⟨ad, n, c, k1, k2, k3⟩ := hrw j hjl
          refine ⟨ad, n, c, by rw [List.getElem?_append_left (by omega)]; exact k1, ?_, k3.only hO' (hob ad k3)⟩
          rw [List.getElem?_append_left hjl]
          exact k2.onlyAt hO' (fun ad2 e => by cases e; exact hob ad k3)
        · have hj2 : j - L.length < M.length := by simp at hj; omega
          obtain ⟨ad, n, c, k1, k2, k3⟩ := hmrw (j - L.length) hj2
          refine ⟨ad, n, c, by rw [List.getElem?_append_right (by omega), hxl]; exact k1, ?_, k3.only hO' (hob ad k3)⟩
          rw [List.getElem?_append_right (by omega)]
          exact k2.onlyAt hO' (fun ad2 e => by cases e; exact hob ad k3)

/-- 'append([]int(nil), xs...)', of none, too -/
theorem wp_copy0 {o : Oper} {a : Act} {W : World} {K : Act → World → Prop} {Q : Exit → Act → World → Prop} {s x : Operand} {sa : Option Addr} {n c : Nat} {y : List Int} {B : Nat}
    (ho : o.op = .call { callee := .builtin .append, args := #[s, x], argTypes := #[26, 26] }) (hs : a.eval s = .slice none 0 0) (hx : a.eval x = .slice sa n c) (hy : Ints W sa n y) (hn : n ≤ 1000000) (hB : B ≤ W.heap.size)
    (h : ∀ v w', OwnI w' B v y → Gr W w' → K (a.put o.dst v) w') : o.wp Try.prog a W K Q := by
  obtain ⟨i0, hi, hz0, hz1, hz2⟩ := info_parts Try.info3
  by_cases h0 : n = 0
  · subst h0
    have hy0 : y = [] := List.eq_nil_of_length_eq_zero hy.len
    subst hy0
    have hsrc : Src Try.prog 1 26 (.slice sa 0 c) 0 [] W := by
      refine ⟨.inl ⟨3, Try.underlying26⟩, fun w' => ?_, ?_, ?_, rfl, fun u hu => by simp at hu⟩
      · simp [Builtin.lenOf]
      · cases sa <;> simp [Builtin.firstCells, loadCells, loadCellsFrom]
      · cases sa <;> simp [Builtin.firstCells, loadCells, loadCellsFrom]
    rw [← hz1] at hsrc
    have hrun := run_append_nothing (P := Try.prog) W 26 26 o.type 3 i0 Try.underlying26 hi none 0 0 (Nat.le_refl _) _ hsrc
    unfold Oper.wp execOp
    simp only [ho, resolve, invoke, builtin, Sem.run_bind, Sem.run_pure, Result.andThen_ok, List.map_toArray, List.map_cons, List.map_nil, hs, hx, hrun]
    exact h _ _ (OwnI.nil _ _) (Gr.refl _)
  · obtain ⟨ad, rfl, hab, _⟩ := hy.at (j := 0) (by omega)
    refine wp_append_own W s x 26 ho B 3 i0 (.int .i64 0) 1 8 Try.underlying26 hi hz0 hz1 hz2 rfl (by decide) _ 0 [] hs (World.ownsRow_nil W _ 3 1) ad n c (y.map (Value.int .i64)) hx (by rw [List.length_map, hy.len, Nat.mul_one]) hy.cells (ints_one y) (by unfold maxLen; omega) (by omega) hB (fun v' w' hown' hgrow _ => ?_)
    refine h v' w' ?_ ((only_grown hgrow).gr (fun i hi e => by simp [Value.ownBlock] at e))
    unfold OwnI
    rw [hy.len]; simpa using hown'

/-- what holds in the region that goes on by one computer -/
structure R81 (w3 w0 : World) (pre : List Int) (v : Int) (vv : Value) (acc rec : List (List Int)) (done : Nat → Bool) (u : Nat → Value) (W : World) : Prop where
  gr : done 8 = false → Gr w3 W
  cp : done 6 = false → done 3 = true → OwnI W w3.heap.size (u 3) pre
  one : done 6 = false → done 5 = true → ∃ g, u 5 = .slice (some ⟨g, 0, none⟩) 1 1 ∧ W.heap[g]? = some (.cells #[.int .i64 v] 3 (0, 0))
  ext : done 7 = false → done 6 = true → OwnI W w3.heap.size (u 6) (pre ++ [v])
  rc : done 8 = false → done 7 = true → ∃ B2, OutR W B2 (u 7) rec
  fin : done 8 = true → OutR W w0.heap.size (u 8) (acc ++ rec) ∧ Gr w0 W
  out : done 9 = true → u 9 = u 8
  old : done 9 = false → u 9 = vv
section
variable {w3 w0 : World} {pre : List Int} {v : Int} {vv : Value} {acc rec : List (List Int)} {done : Nat → Bool} {u : Nat → Value} {W : World}
theorem R81.start (w3 w0 : World) (pre : List Int) (v : Int) (vv : Value) (acc rec : List (List Int)) (u : Nat → Value) (h9 : u 9 = vv) : R81 w3 w0 pre v vv acc rec (fun _ => false) u w3.drew :=
  ⟨(fun _ => Gr.drew _), (fun _ h => by cases h), (fun _ h => by cases h), (fun _ h => by cases h), (fun _ h => by cases h), (fun h => by cases h), (fun h => by cases h), (fun _ => h9)⟩
theorem R81.quiet (h : R81 w3 w0 pre v vv acc rec done u W) {i : Nat} (h3 : 3 ≠ i) (h5 : 5 ≠ i) (h6 : 6 ≠ i) (h7 : 7 ≠ i) (h8 : 8 ≠ i) (h9 : 9 ≠ i) {x : Value} : R81 w3 w0 pre v vv acc rec (upd done i) (fun j => if j = i then x else u j) W := by
  refine ⟨?_, ?_, ?_, ?_, ?_, ?_, ?_, ?_⟩ <;> simp only [upd_ne h3, upd_ne h5, upd_ne h6, upd_ne h7, upd_ne h8, upd_ne h9, if_neg h3, if_neg h5, if_neg h6, if_neg h7, if_neg h8, if_neg h9]
  · exact h.gr
  · exact h.cp
  · exact h.one
  · exact h.ext
  · exact h.rc
  · exact h.fin
  · exact h.out
  · exact h.old
theorem R81.copied (h : R81 w3 w0 pre v vv acc rec done u W) (d6 : done 6 = false) (d7 : done 7 = false) (d8 : done 8 = false) (d9 : done 9 = false) (ho : u 9 = vv) {x : Value} {W' : World} (hx : OwnI W' w3.heap.size x pre) (g : Gr W W') :
    R81 w3 w0 pre v vv acc rec (upd done 3) (fun j => if j = 3 then x else u j) W' := by
  refine ⟨(fun _ => (h.gr d8).trans g), (fun _ _ => by simpa using hx), (fun a b => ?_), (fun a b => ?_), (fun a b => ?_), (fun a => ?_), (fun a => ?_), (fun _ => by simpa using ho)⟩
  · rw [upd_ne (by decide)] at b
    obtain ⟨g0, e, hb⟩ := h.one d6 b
    have hlt := (Array.getElem?_eq_some_iff.1 hb).1
    exact ⟨g0, by simpa using e, ((g.below.block _ hlt)).trans hb⟩
  · rw [upd_ne (by decide), d6] at b; cases b
  · rw [upd_ne (by decide), d7] at b; cases b
  · rw [upd_ne (by decide), d8] at a; cases a
  · rw [upd_ne (by decide), d9] at a; cases a
theorem R81.made (h : R81 w3 w0 pre v vv acc rec done u W) (d6 : done 6 = false) (d7 : done 7 = false) (d8 : done 8 = false) (d9 : done 9 = false) (ho : u 9 = vv) :
    R81 w3 w0 pre v vv acc rec (upd done 5) (fun j => if j = 5 then .slice (some ⟨W.heap.size, 0, none⟩) 1 1 else u j) (W.alloc (.cells #[.int .i64 v] 3)) := by
  have g := Gr.alloc W (.cells #[.int .i64 v] 3)
  refine ⟨(fun _ => (h.gr d8).trans g), (fun a b => ?_), (fun _ _ => ⟨W.heap.size, by simp, World.alloc_heap_new _ _⟩), (fun a b => ?_), (fun a b => ?_), (fun a => ?_), (fun a => ?_), (fun _ => by simpa using ho)⟩
  · rw [upd_ne (by decide)] at b
    simpa using (h.cp d6 b).gr g
  · rw [upd_ne (by decide), d6] at b; cases b
  · rw [upd_ne (by decide), d7] at b; cases b
  · rw [upd_ne (by decide), d8] at a; cases a
  · rw [upd_ne (by decide), d9] at a; cases a
theorem R81.snoc (d7 : done 7 = false) (d8 : done 8 = false) (d9 : done 9 = false) (ho : u 9 = vv) {x : Value} {W' : World} (hx : OwnI W' w3.heap.size x (pre ++ [v])) (g : Gr w3 W') :
    R81 w3 w0 pre v vv acc rec (upd done 6) (fun j => if j = 6 then x else u j) W' := by
  refine ⟨(fun _ => g), (fun a _ => by rw [upd_self] at a; cases a), (fun a _ => by rw [upd_self] at a; cases a), (fun _ _ => by simpa using hx), (fun a b => ?_), (fun a => ?_), (fun a => ?_), (fun _ => by simpa using ho)⟩
  · rw [upd_ne (by decide), d7] at b; cases b
  · rw [upd_ne (by decide), d8] at a; cases a
  · rw [upd_ne (by decide), d9] at a; cases a
theorem R81.called (h : R81 w3 w0 pre v vv acc rec done u W) (d6 : done 6 = true) (d8 : done 8 = false) (d9 : done 9 = false) (ho : u 9 = vv) {x : Value} {W' : World} {B2 : Nat} (hx : OutR W' B2 x rec) (g : Gr W W') :
    R81 w3 w0 pre v vv acc rec (upd done 7) (fun j => if j = 7 then x else u j) W' := by
  refine ⟨(fun _ => (h.gr d8).trans g), (fun a _ => by rw [upd_ne (by decide), d6] at a; cases a), (fun a _ => by rw [upd_ne (by decide), d6] at a; cases a), (fun a _ => by rw [upd_self] at a; cases a), (fun _ _ => ⟨B2, by simpa using hx⟩), (fun a => ?_), (fun a => ?_), (fun _ => by simpa using ho)⟩
  · rw [upd_ne (by decide), d8] at a; cases a
  · rw [upd_ne (by decide), d9] at a; cases a
theorem R81.joined (d6 : done 6 = true) (d7 : done 7 = true) (d9 : done 9 = false) (ho : u 9 = vv) {x : Value} {W' : World} (hx : OutR W' w0.heap.size x (acc ++ rec)) (hg : Gr w0 W') :
    R81 w3 w0 pre v vv acc rec (upd done 8) (fun j => if j = 8 then x else u j) W' := by
  refine ⟨(fun a => by rw [upd_self] at a; cases a), (fun a _ => by rw [upd_ne (by decide), d6] at a; cases a), (fun a _ => by rw [upd_ne (by decide), d6] at a; cases a), (fun a _ => by rw [upd_ne (by decide), d7] at a; cases a), (fun a _ => by rw [upd_self] at a; cases a), (fun _ => ⟨by simpa using hx, hg⟩), (fun a => ?_), (fun _ => by simpa using ho)⟩
  rw [upd_ne (by decide), d9] at a; cases a
theorem R81.last (h : R81 w3 w0 pre v vv acc rec done u W) (d6 : done 6 = true) (d7 : done 7 = true) (d8 : done 8 = true) : R81 w3 w0 pre v vv acc rec (upd done 9) (fun j => if j = 9 then u 8 else u j) W := by
  refine ⟨(fun a => by rw [upd_ne (by decide), d8] at a; cases a), (fun a _ => by rw [upd_ne (by decide), d6] at a; cases a), (fun a _ => by rw [upd_ne (by decide), d6] at a; cases a), (fun a _ => by rw [upd_ne (by decide), d7] at a; cases a), (fun a _ => by rw [upd_ne (by decide), d8] at a; cases a), (fun _ => ?_), (fun _ => by simp), (fun a => by rw [upd_self] at a; cases a)⟩
  have := h.fin d8
  exact ⟨by simpa using this.1, this.2⟩
end
end
section
open Go.RowKit
namespace Y

/-- a slice that holds these numbers -/
def MP.ints (n : Nat) (xs : List Int) : MP := ⟨fun v W => ∃ a c, v = .slice a n c ∧ Ints W a n xs, fun _ _ _ ⟨a, c, h1, h2⟩ g => ⟨a, c, h1, h2.gr g⟩⟩
/-- a new slice of two numbers -/
def MP.two (x y : Int) : MP := ⟨fun v W => ∃ b, v = .slice (some ⟨b, 0, none⟩) 2 2 ∧ W.cell? ⟨b, 0, none⟩ = some (.int .i64 x) ∧ W.cell? ⟨b, 1, none⟩ = some (.int .i64 y),
  fun _ _ _ ⟨b, h1, h2, h3⟩ g => ⟨b, h1, (g.cell (lt_cell h2)).trans h2, (g.cell (lt_cell h3)).trans h3⟩⟩
/-- a slice, in new memory, that holds these numbers -/
def New (B : Nat) (a : Option Addr) : Prop := ∀ ad, a = some ad → B ≤ ad.block
def MP.intsF (B n : Nat) (xs : List Int) : MP := ⟨fun v W => ∃ a c, v = .slice a n c ∧ Ints W a n xs ∧ New B a, fun _ _ _ ⟨a, c, h1, h2, h3⟩ g => ⟨a, c, h1, h2.gr g, h3⟩⟩
/-- the iterator of states -/
def MP.iter (B : Nat) (ta : Option Addr) (tn tc : Nat) (ca : Option Addr) (cn cc n : Nat) (lo hi : List Int) (Pl Ph : Option Addr → Prop) : MP :=
  ⟨fun v W => ∃ bfr bfl bto fa fc toa toc, v = .func (.func 90) #[] #[.pointer (some ⟨bfr, 0, none⟩), .pointer (some ⟨bfl, 0, none⟩), .pointer (some ⟨bto, 0, none⟩)] ∧ W.cell? ⟨bfl, 0, none⟩ = some (.slice ta tn tc) ∧ W.cell? ⟨bfl, 1, none⟩ = some (.slice ca cn cc) ∧ W.cell? ⟨bfr, 0, none⟩ = some (.slice fa n fc) ∧ W.cell? ⟨bto, 0, none⟩ = some (.slice toa n toc) ∧ Ints W fa n lo ∧ Ints W toa n hi ∧ Pl fa ∧ Ph toa ∧ B ≤ bfr ∧ B ≤ bfl ∧ B ≤ bto,
   fun _ _ _ ⟨bfr, bfl, bto, fa, fc, toa, toc, h, h0, h1, h2, h3, h4, h5, h6⟩ g => ⟨bfr, bfl, bto, fa, fc, toa, toc, h, (g.cell (lt_cell h0)).trans h0, (g.cell (lt_cell h1)).trans h1, (g.cell (lt_cell h2)).trans h2, (g.cell (lt_cell h3)).trans h3, h4.gr g, h5.gr g, h6⟩⟩

theorem states_iter (B : Nat) (Pl Ph : Option Addr → Prop) (ta ca fa toa : Option Addr) (tn tc cn cc n fc toc : Nat) (lo hi : List Int) (w : World) (h1 : Ints w fa n lo) (h2 : Ints w toa n hi) (p1 : Pl fa) (p2 : Ph toa) (hB : B ≤ w.heap.size) :
    Calls Try.prog 59 #[.agg #[.slice ta tn tc, .slice ca cn cc], .slice fa n fc, .slice toa n toc] w (fun e w' => ∃ v, e = .returned v ∧ (MP.iter B ta tn tc ca cn cc n lo hi Pl Ph).p v w' ∧ Gr w w') := by
  refine (states_any ta ca fa toa tn tc cn cc n fc n toc w).mono ?_
  intro e w' h
  obtain ⟨g, _, i0, i1, i2, i3⟩ := NewIter.facts h
  exact ⟨_, h.1, ⟨_, _, _, fa, fc, toa, toc, rfl, i0, i1, i2, i3, h1.gr g, h2.gr g, p1, p2, by omega, by omega, by omega⟩, g⟩

theorem ppushI {ops : Array Oper} {rest : List Oper} {o : Oper} {a : Act} {w1 W : World} {Q : Exit → Act → World → Prop} (hgd : o.guard = none) {s x : Operand} {v : Value} {xs : List Int} {g : Nat} {z : Int}
    (ho : o.op = .call { callee := .builtin .append, args := #[s, x], argTypes := #[26, 26] }) (hs : a.eval s = v) (hx : a.eval x = .slice (some ⟨g, 0, none⟩) 1 1)
    (hg : W.heap[g]? = some (.cells #[.int .i64 z] 3)) (hO : OwnI W w1.heap.size v xs) (h1 : Gr w1 W) (hl : xs.length ≤ 1000000)
    (h : ∀ v' w', OwnI w' w1.heap.size v' (xs ++ [z]) → Gr w1 w' → wpL Try.prog ops Q rest (a.put o.dst v') w') : wpL Try.prog ops Q (o :: rest) a W :=
  wpL_plain hgd fun _ hK => wp_pushI ho hs hx hg hO h1 hl (fun v' w' k1 k2 => hK _ _ (h v' w' k1 k2))

theorem _root_.Go.Proofs.Ytlilojpnhmfnaaa.Try.bs26b (x y : Int) (W : World) : (Instr.buildSlice 26 2 #[(0, .int .i64 x), (1, .int .i64 y)]).run Try.prog W = .ok (.slice (some ⟨W.heap.size, 0, none⟩) 2 2) (W.alloc (.cells #[.int .i64 x, .int .i64 y] 3)) := by kernel_rfl
/-- a variable's cell may be written -/
def Fz (W : World) (b : Nat) : Prop := b < W.heap.size ∧ W.frozen? ⟨b, 0, none⟩ = false
theorem Fz.gr {W W' : World} {b : Nat} (h : Fz W b) (g : Gr W W') : Fz W' b := ⟨Nat.lt_of_lt_of_le h.1 g.size, (g.frozen (p := ⟨b, 0, none⟩) h.1).trans h.2⟩
theorem Fz.new {W : World} {b : Nat} {cs : Array Value} {t : TypeId} (h : W.heap[b]? = some (.cells cs t)) : Fz W b := ⟨(Array.getElem?_eq_some_iff.1 h).1, by simp [World.frozen?, h]⟩
/-- one variable is turned; all else that was there stays -/
structure RC (wR : World) (bn : Nat) (v : Value) (W : World) : Prop where
  on : Only (fun b => b = bn ∨ wR.heap.size ≤ b) wR W
  lt : bn < wR.heap.size
  c : W.cell? ⟨bn, 0, none⟩ = some v
  fz : W.frozen? ⟨bn, 0, none⟩ = false
theorem RC.keep {wR W W' : World} {bn k : Nat} {v : Value} (h : RC wR bn v W) (hk : wR.heap.size ≤ k) (g : Only (fun b => b = k + 1 ∨ b = k + 4) W W') : RC wR bn v W' := by
  have h1 := lt_cell h.c
  have hlt := h.lt
  have hb := g.block bn h1 (by omega)
  exact ⟨h.on.trans (g.mono' (fun i e => .inr (by omega))), h.lt, (World.cell?_of_block hb).trans h.c, by have := h.fz; unfold World.frozen? at this ⊢; simp only at this ⊢; rw [hb]; exact this⟩
theorem RC.gr {wR W W' : World} {bn : Nat} {v : Value} (h : RC wR bn v W) (g : Gr W W') : RC wR bn v W' :=
  ⟨h.on.thenGr g, h.lt, (g.cell (lt_cell h.c)).trans h.c, (g.frozen (p := ⟨bn, 0, none⟩) (lt_cell h.c)).trans h.fz⟩
theorem RC.set {wR W : World} {bn : Nat} {v : Value} (h : RC wR bn v W) (v' : Value) : RC wR bn v' (W.setCell ⟨bn, 0, none⟩ v') := by
  have hc := h.c
  have hf := h.fz
  exact ⟨h.on.trans (Only.setCell (Only.refl _ _) (.inl (.inl rfl)) _), h.lt, by simp [go_sem, hc], by simpa using hf⟩
theorem RC.setOnly {wR W W' : World} {bn : Nat} {v : Value} (h : RC wR bn v W') (g : Gr W W') (v' : Value) : Only (fun b => b = bn) W (W'.setCell ⟨bn, 0, none⟩ v') := (g.only _).trans (Only.setCell (S := fun b => b = bn) (Only.refl _ _) (p := ⟨bn, 0, none⟩) (.inl rfl) _)
theorem New.lo {B : Nat} {a : Option Addr} (h : New B a) {B' : Nat} (hb : B' ≤ B) : New B' a := fun ad e => Nat.le_trans hb (h ad e)

theorem RC.grow {w wR W : World} {bn : Nat} {v : Value} (h : RC wR bn v W) (G : Gr w wR) (h0 : w.heap.size ≤ bn) : Gr w W :=
  ((G.only (fun b => w.heap.size ≤ b)).trans (h.on.mono' (fun i e => by have := G.size; omega))).gr (fun i hi e => by omega)
/-- as RC, behind the range, with the block of its mark -/
structure RM (wR : World) (bn : Nat) (v : Value) (W : World) : Prop where
  rc : RC wR bn v W
  mark : W.heap[wR.heap.size]? = some (.deferred (some []))
theorem RM.set {wR W : World} {bn : Nat} {v : Value} (h : RM wR bn v W) (v' : Value) : RM wR bn v' (W.setCell ⟨bn, 0, none⟩ v') := by
  have hlt := h.rc.lt
  exact ⟨h.rc.set v', ((RC.setOnly h.rc (Gr.refl _) v').block _ (Array.getElem?_eq_some_iff.1 h.mark).1 (by omega)).trans h.mark⟩
theorem RM.ret {P : Program} {fn : Func} {R : Ending → World → Prop} {A : Act} {W wR : World} {bn n s t : Nat} {ty : TypeId} {v x : Value} {L : List (Nat × Value)} (h : RM wR bn v W) (F : Fr A n L [{ target := .collected wR.heap.size, args := #[] }]) (hr : fn.results = #[.cell s ty, .tmp t]) (hA : ∀ w, (isAgg ty).run P w = .ok false w)
    (hp : lookS L s = some (.pointer (some ⟨bn, 0, none⟩))) (hx : lookS L t = some x) (hR : ∀ W2, RC wR bn v W2 → Only (fun b => b = wR.heap.size) W W2 → R (.returned (.tuple #[v, x])) W2) : bodyPostM Fence.wide 0 P fn R .ret A W := by
  have hlt := h.rc.lt
  have ho := putObj_only W wR.heap.size (.deferred none)
  have hb := ho.block bn (lt_cell h.rc.c) (by omega)
  have hrc : RC wR bn v (W.putObj wR.heap.size (.deferred none)) := ⟨h.rc.on.trans (ho.mono' (fun i e => .inr (by omega))), h.rc.lt, (World.cell?_of_block hb).trans h.rc.c, by have := h.rc.fz; unfold World.frozen? at this ⊢; simp only at this ⊢; rw [hb]; exact this⟩
  exact ret1 F h.mark (rc2 F hr (hA _) hp hrc.c hx) (hR _ hrc ho)
/-- the data of a whole fleet's states lie apart from one new variable -/
theorem sbase_all {w wR : World} {f : Fl} {ta ca fa toa : Option Addr} {tn cn n bn B : Nat} (hok : FlOk f) (hf : FlAt w ta tn ca cn f) (G : Gr w wR) (h0 : w.heap.size ≤ bn) (hB : bn < B) (hl : f.times.length = n) (hlo : Ints wR fa n (zeros f)) (h1 : New B fa) (hhi : Ints wR toa n (newestV f)) (h2 : New B toa) :
    SBase wR (fun b => b = bn ∨ wR.heap.size ≤ b) f ta tn ca cn fa toa n (zeros f) (newestV f) := by
  have hn1 := hok.n1
  have hlt : ∀ {a : Option Addr} {xs : List Int}, Ints wR a n xs → New B a → ∀ ad, a = some ad → ¬ (ad.block = bn ∨ wR.heap.size ≤ ad.block) := fun {a xs} h hN ad e => by
    obtain ⟨ad', e', hb, _⟩ := h.at (j := 0) (by omega)
    rw [e] at e'
    injection e' with e'
    subst e'
    have := hN ad e
    omega
  refine ⟨hok, hf.gr G, hlo, hhi, fun W g => ⟨hf.gr (((G.only (fun b => w.heap.size ≤ b)).trans (g.mono' (fun i e => by have := G.size; omega))).gr (fun i hi e => by omega)), hlo.onlyAt g (hlt hlo h1), hhi.onlyAt g (hlt hhi h2)⟩, fun b hb => .inr hb, by omega, hl.symm, fun c hc => ?_, fun c hc => ?_⟩
  · simp [zeros, show c < f.times.length by omega]
  · simp [newestV, show c < f.times.length by omega]

variable {N : Nat} {L : List (Nat × Value)} {g : Operand} {pt : Tmp} {body : Code} {Q : Exit → Act → World → Prop} {A : Act} {w wB : World} {S Y : Nat → Prop} {f : Fl} {ta ca fa toa : Option Addr} {tn tc cn cc n fc toc : Nat} {lo hi : List Int} {bfr bfl bto : Nat}
theorem fr_round (F : Fr A N L) {pt : Nat} (hp : pt < N) (v : Value) : Fr { tmps := A.tmps.setIfInBounds pt v, defers := [] } N (X.putS L (some pt) v) := by
  have h := F.put (o := some pt) (v := v) (by simpa using hp)
  exact ⟨h.sz, rfl, h.get⟩
theorem fr_mark (F : Fr A N L) (d : Deferred) : Fr { A with defers := d :: A.defers } N L [d] := ⟨F.sz, by rw [← F.df], F.get⟩

/-- 'for range states(..)' -/
theorem range0 (F : Fr A N L) (hp : pt < N)
    (hg : A.eval g = .func (.func 90) #[] #[.pointer (some ⟨bfr, 0, none⟩), .pointer (some ⟨bfl, 0, none⟩), .pointer (some ⟨bto, 0, none⟩)])
    (hb : SBase wB S f ta tn ca cn fa toa n lo hi) (hbase : Only S wB w) (hYS : ∀ b, Y b → S b) (hYlt : ∀ b, Y b → b < w.heap.size)
    (c1 : w.cell? ⟨bfr, 0, none⟩ = some (.slice fa n fc)) (c2 : w.cell? ⟨bfl, 0, none⟩ = some (.slice ta tn tc)) (c3 : w.cell? ⟨bfl, 1, none⟩ = some (.slice ca cn cc)) (c4 : w.cell? ⟨bto, 0, none⟩ = some (.slice toa n toc))
    (n1 : ¬ Y bfr) (n2 : ¬ Y bfl) (n3 : ¬ Y bto) (I : List (List Int) → World → Prop)
    (h0 : I [] w) (hI : ∀ xs W W', I xs W → Only (fun b => b = w.heap.size + 1 ∨ b = w.heap.size + 4) W W' → I xs W')
    (hbody : ∀ (pre : List (List Int)) (x : List Int) (ad : Addr) (c : Nat) (W : World) (A : Act), I pre W → Only S wB W → Ints W (some ad) n x → w.heap.size + 4 < ad.block → Is3 W ad.block → (∃ rest, enum f lo hi n [] = pre ++ x :: rest) → StOk f x → worksB f x = true → Fr A N (X.putS L (some pt) (.slice (some ad) n c)) →
      body.wpIn (FW (some (w.heap.size + 1))) 0 Try.prog (roundQ Y I (fun _ _ => False) (pre ++ [x]) W) A W)
    (hdone : ∀ (W : World) (A : Act), I (enum f lo hi n []) W → W.heap[w.heap.size]? = some (.deferred (some [])) → Fr A N L [{ target := .collected w.heap.size, args := #[] }] → Q .normal A W) :
    (Code.rangeFunc g #[pt] .skip body).wpIn (FW none) 0 Try.prog Q A w := by
  refine (wpIn_wide (n := 0)).2 ?_
  refine range_states2 (a := A) (a₁ := fun v => { tmps := A.tmps.setIfInBounds pt v, defers := [] }) hg hb hbase hYS hYlt c1 c2 c3 c4 n1 n2 n3 I (fun _ _ => False) h0 hI (fun _ _ _ h _ => h.elim) (fun l v W K hK => wpIn_skip hK) (fun pre x ad c W h1 h2 h3 h4 h5 h6 h7 h8 => ?_) (fun W h1 h2 => ?_) (fun _ _ h => h.elim)
  · exact hbody pre x ad c W _ h1 h2 h3 h4 h5 h6 h7 h8 (fr_round F hp _)
  · exact hdone W _ h1 h2 (fr_mark F _)
/-- 'for x := range states(..)' -/
theorem range1 {id d : Nat} {o : Oper} (F : Fr A N L) (hp : pt < N) (hd : d < N) (ho : o.op = .assign (.tmp pt)) (hgd : o.guard = none) (hdd : o.dst = some d)
    (hg : A.eval g = .func (.func 90) #[] #[.pointer (some ⟨bfr, 0, none⟩), .pointer (some ⟨bfl, 0, none⟩), .pointer (some ⟨bto, 0, none⟩)])
    (hb : SBase wB S f ta tn ca cn fa toa n lo hi) (hbase : Only S wB w) (hYS : ∀ b, Y b → S b) (hYlt : ∀ b, Y b → b < w.heap.size)
    (c1 : w.cell? ⟨bfr, 0, none⟩ = some (.slice fa n fc)) (c2 : w.cell? ⟨bfl, 0, none⟩ = some (.slice ta tn tc)) (c3 : w.cell? ⟨bfl, 1, none⟩ = some (.slice ca cn cc)) (c4 : w.cell? ⟨bto, 0, none⟩ = some (.slice toa n toc))
    (n1 : ¬ Y bfr) (n2 : ¬ Y bfl) (n3 : ¬ Y bto) (I : List (List Int) → World → Prop)
    (h0 : I [] w) (hI : ∀ xs W W', I xs W → Only (fun b => b = w.heap.size + 1 ∨ b = w.heap.size + 4) W W' → I xs W')
    (hbody : ∀ (pre : List (List Int)) (x : List Int) (ad : Addr) (c : Nat) (W : World) (A : Act), I pre W → Only S wB W → Ints W (some ad) n x → w.heap.size + 4 < ad.block → Is3 W ad.block → (∃ rest, enum f lo hi n [] = pre ++ x :: rest) → StOk f x → worksB f x = true → Fr A N (X.putS (X.putS L (some pt) (.slice (some ad) n c)) (some d) (.slice (some ad) n c)) →
      body.wpIn (FW (some (w.heap.size + 1))) 0 Try.prog (roundQ Y I (fun _ _ => False) (pre ++ [x]) W) A W)
    (hdone : ∀ (W : World) (A : Act), I (enum f lo hi n []) W → W.heap[w.heap.size]? = some (.deferred (some [])) → Fr A N L [{ target := .collected w.heap.size, args := #[] }] → Q .normal A W) :
    (Code.rangeFunc g #[pt] (.region id #[o] false) body).wpIn (FW none) 0 Try.prog Q A w := by
  refine (wpIn_wide (n := 0)).2 ?_
  refine range_states2 (a := A) (a₁ := fun v => ({ tmps := A.tmps.setIfInBounds pt v, defers := [] } : Act).put (some d) v) hg hb hbase hYS hYlt c1 c2 c3 c4 n1 n2 n3 I (fun _ _ => False) h0 hI (fun _ _ _ h _ => h.elim) (fun l v W K hK => ?_) (fun pre x ad c W h1 h2 h3 h4 h5 h6 h7 h8 => ?_) (fun W h1 h2 => ?_) (fun _ _ h => h.elim)
  · refine wpIn_region_L (ro := some l) (l := [o]) (by simp [ho]) ?_
    refine wpL_step fun K' hK' => ?_
    rw [if_pos (X.w0 hgd)]
    have hF := fr_round F hp v
    unfold Oper.wp
    rw [X.assign ho (hF.ev pt v (by simp [X.putS, lookS]))]
    refine hK' _ _ ?_
    rw [hdd]
    exact hK
  · exact hbody pre x ad c W _ h1 h2 h3 h4 h5 h6 h7 h8 ((fr_round F hp _).put (o := some d) (by simpa using hd))
  · exact hdone W _ h1 h2 (fr_mark F _)
end Y
end
section
open Go.RowKit

def nextV (t n : Int) : Int := (t * 257 + n + 1) % 65521
theorem nextV_bd (t n : Int) : 0 ≤ nextV t n ∧ nextV t n ≤ 65520 := by unfold nextV; omega

/-- the tag over the first bytes of the data -/
def tagL (s c v : Int) (data : List UInt8) : Int := data.foldl (fun t b => nextV t (b.toNat : Int)) (nextV (nextV s c) v)
theorem tagL_bd (s c v : Int) (data : List UInt8) : 0 ≤ tagL s c v data ∧ tagL s c v data ≤ 65520 := by
  have : ∀ (l : List UInt8) (t : Int), 0 ≤ t ∧ t ≤ 65520 → 0 ≤ l.foldl (fun t b => nextV t (b.toNat : Int)) t ∧ l.foldl (fun t b => nextV t (b.toNat : Int)) t ≤ 65520 := by
    intro l
    induction l with
    | nil => intro t h; exact h
    | cons b l ih => intro t _; exact ih _ (nextV_bd _ _)
  exact this _ _ (nextV_bd _ _)
theorem take_snocB (s : ByteArray) (k : Nat) (h : k < s.size) : s.data.toList.take (k + 1) = s.data.toList.take k ++ [s[k]] := by
  rw [List.take_succ_eq_append_getElem (by simpa using h)]; rfl
theorem tagL_snoc (s c v : Int) (l : List UInt8) (b : UInt8) : tagL s c v (l ++ [b]) = nextV (tagL s c v l) (b.toNat : Int) := by simp [tagL]

set_option maxHeartbeats 400000 in
theorem tag1_any (n t : Int) (B : Nat) (w : World) (hc : w.cell? ⟨B, 0, none⟩ = some (.int .i64 t)) (hf : w.frozen? ⟨B, 0, none⟩ = false) (h0 : 0 ≤ t) (h1 : t ≤ 65520) (h2 : 0 ≤ n) (h3 : n ≤ 255) :
    Calls Try.prog 92 #[.int .i64 n, .pointer (some ⟨B, 0, none⟩)] w fun e w' => (∃ v, e = .returned v) ∧ w' = w.setCell ⟨B, 0, none⟩ (.int .i64 (nextV t n)) := by
  go_enter Try.func92, Try.ntmps92
  go_wp2
  go_end0
  exact ⟨⟨_, rfl⟩, rfl⟩

set_option maxHeartbeats 400000 in
theorem next2_any (t n : Int) (w : World) (h0 : 0 ≤ t) (h1 : t ≤ 65520) (h2 : 0 ≤ n) (h3 : n ≤ 255) : Calls Try.prog 64 #[.int .i64 t, .int .i64 n] w fun e w' => e = .returned (.int .i64 (nextV t n)) ∧ w = w' := by
  go_enter Try.func64, Try.ntmps64
  go_wp2
  go_ret
  exact ⟨rfl, rfl⟩

/-- a packet as a value -/
def pkV (c v : Int) (data : ByteArray) (tg : Int) : Value := .agg #[.int .i64 c, .int .i64 v, .string data, .int .i64 tg]

set_option maxHeartbeats 1000000 in
theorem tag_any (s c v tg : Int) (data : ByteArray) (w : World) (hs0 : 0 ≤ s) (hs1 : s ≤ 65520) (hc0 : 0 ≤ c) (hc1 : c ≤ 255) (hv0 : 0 ≤ v) (hv1 : v ≤ 255) (hd : data.size ≤ 1000) :
    Calls Try.prog 62 #[.int .i64 s, .agg #[.int .i64 c, .int .i64 v, .string data, .int .i64 tg]] w fun e w' => e = .returned (.int .i64 (tagL s c v data.data.toList)) ∧ Gr w w' := by
  have b1 := nextV_bd s c
  have b2 := nextV_bd (nextV s c) v
  go_enter Try.func62, Try.ntmps62
  go_wp2_with fail
  refine (tag1_any c s (w.heap.size + 1) _ (by simp [go_sem]) (by simp [go_sem]) hs0 hs1 hc0 hc1).mono ?_
  rintro e w1 ⟨⟨x, rfl⟩, rfl⟩
  go_wp2_with fail
  refine (tag1_any v (nextV s c) (w.heap.size + 1) _ (by simp [go_sem]) (by simp [go_sem]) b1.1 b1.2 hv0 hv1).mono ?_
  rintro e w2 ⟨⟨x2, rfl⟩, rfl⟩
  go_wp2_with fail
  go_loopw [21] (fun i wr => ∃ k : Nat, k ≤ data.size ∧ i = .int .i64 k ∧ Gr w wr ∧ wr.cell? ⟨w.heap.size, 2, none⟩ = some (.string data) ∧ wr.cell? ⟨w.heap.size + 1, 0, none⟩ = some (.int .i64 (tagL s c v (data.data.toList.take k))) ∧ wr.frozen? ⟨w.heap.size + 1, 0, none⟩ = false) (fun i _ => data.size - (intOf i).toNat)
  case atStart =>
    refine ⟨0, Nat.zero_le _, rfl, ?_, by simp [go_sem], by simp [go_sem, tagL], by simp [go_sem]⟩
    exact (Gr.alloc _ _).allocR _
  case round =>
    obtain ⟨k, hk, rfl, hg, hcd, hct, hft⟩ := hrel
    have hb := tagL_bd s c v (data.data.toList.take k)
    by_cases hlt : k < data.size
    · have hsn : Hid (tagL s c v (data.data.toList.take (k + 1)) = nextV (tagL s c v (data.data.toList.take k)) (data[k].toNat : Int)) := Lib.hid (by rw [take_snocB data k hlt, tagL_snoc])
      have hby : (data[k].toNat : Int) ≤ 255 := by have := data[k].toNat_lt; omega
      generalize tagL s c v (data.data.toList.take k) = tk at *
      go_wp2_with fail
      refine (tag1_any _ tk (w.heap.size + 1) wr hct hft hb.1 hb.2 (by omega) hby).mono ?_
      rintro e w3 ⟨⟨x3, rfl⟩, rfl⟩
      have k1 : (wr.setCell ⟨w.heap.size + 1, 0, none⟩ (.int .i64 (nextV tk (data[k].toNat : Int)))).cell? ⟨w.heap.size, 2, none⟩ = some (.string data) := by simp [go_sem, hcd]
      have k2 : (wr.setCell ⟨w.heap.size + 1, 0, none⟩ (.int .i64 (nextV tk (data[k].toNat : Int)))).cell? ⟨w.heap.size + 1, 0, none⟩ = some (.int .i64 (nextV tk (data[k].toNat : Int))) := by simp [go_sem, hct]
      have k3 : (wr.setCell ⟨w.heap.size + 1, 0, none⟩ (.int .i64 (nextV tk (data[k].toNat : Int)))).frozen? ⟨w.heap.size + 1, 0, none⟩ = false := by simpa using hft
      have k4 : Gr w (wr.setCell ⟨w.heap.size + 1, 0, none⟩ (.int .i64 (nextV tk (data[k].toNat : Int)))) := hg.setCell (by simp only; omega) _
      generalize wr.setCell ⟨w.heap.size + 1, 0, none⟩ (.int .i64 (nextV tk (data[k].toNat : Int))) = w3 at *
      go_wp2_with fail
      go_roundw
      case rel => exact ⟨k + 1, by omega, by go_num, k4, k1, by rw [hsn.out]; exact k2, k3⟩
      case measure => simp [intOf]; omega
    · obtain rfl : k = data.size := by omega
      go_wp2_with fail
      go_ret
      exact ⟨ret_int (by rw [List.take_of_length_le (by simp)]), hg⟩

/-- the arguments of Tag are in order -/
def tagB (s c v : Int) (data : ByteArray) : Bool := withinB s 1 65520 && withinB c 0 5 && withinB v 0 3 && decide (data.size ≤ 1000)
def tagE (s c v : Int) (data : ByteArray) : Int := if tagB s c v data then 0 else 1
def tagR (s c v : Int) (data : ByteArray) : Int := if tagB s c v data then tagL s c v data.data.toList else 0

set_option maxHeartbeats 1000000 in
theorem Tag_any (s c v tg : Int) (data : ByteArray) (w : World) (hd : data.size < 1152921504606846976) :
    Calls Try.prog 25 #[.int .i64 s, .agg #[.int .i64 c, .int .i64 v, .string data, .int .i64 tg]] w fun e w' => e = .returned (.tuple #[.int .i64 (tagR s c v data), .int .i64 (tagE s c v data)]) ∧ Gr w w' := by
  have HW := Lib.hid within_any
  cases h1 : withinB s 1 65520 with
  | false =>
    have HP : Hid (tagR s c v data = 0 ∧ tagE s c v data = 1) := Lib.hid (by simp [tagR, tagE, tagB, h1])
    go_enter Try.func25, Try.ntmps25
    go_wp2_with fail
    refine (HW.out _ _ _ _).mono ?_
    rintro e w1 ⟨rfl, rfl⟩
    go_wp2_with fail
    go_ret2
    exact ⟨by rw [HP.out.1, HP.out.2]; rfl, Gr.alloc _ _⟩
  | true =>
    cases h2 : withinB c 0 5 with
    | false =>
      have HP : Hid (tagR s c v data = 0 ∧ tagE s c v data = 1) := Lib.hid (by simp [tagR, tagE, tagB, h1, h2])
      go_enter Try.func25, Try.ntmps25
      go_wp2_with fail
      refine (HW.out _ _ _ _).mono ?_
      rintro e w1 ⟨rfl, rfl⟩
      go_wp2_with fail
      refine (HW.out _ _ _ _).mono ?_
      rintro e w1 ⟨rfl, rfl⟩
      go_wp2_with fail
      go_ret2
      exact ⟨by rw [HP.out.1, HP.out.2]; rfl, Gr.alloc _ _⟩
    | true =>
      cases h3 : withinB v 0 3 with
      | false =>
        have HP : Hid (tagR s c v data = 0 ∧ tagE s c v data = 1) := Lib.hid (by simp [tagR, tagE, tagB, h1, h2, h3])
        go_enter Try.func25, Try.ntmps25
        go_wp2_with fail
        refine (HW.out _ _ _ _).mono ?_
        rintro e w1 ⟨rfl, rfl⟩
        go_wp2_with fail
        refine (HW.out _ _ _ _).mono ?_
        rintro e w1 ⟨rfl, rfl⟩
        go_wp2_with fail
        refine (HW.out _ _ _ _).mono ?_
        rintro e w1 ⟨rfl, rfl⟩
        go_wp2_with fail
        go_ret2
        exact ⟨by rw [HP.out.1, HP.out.2]; rfl, Gr.alloc _ _⟩
      | true =>
        by_cases h4 : data.size ≤ 1000
        · have HP : Hid (tagR s c v data = tagL s c v data.data.toList ∧ tagE s c v data = 0) := Lib.hid (by simp [tagR, tagE, tagB, h1, h2, h3, h4])
          have h1' := withinB_iff.1 h1
          have h2' := withinB_iff.1 h2
          have h3' := withinB_iff.1 h3
          have HT := Lib.hid (fun w => tag_any s c v tg data w (by omega) (by omega) (by omega) (by omega) (by omega) (by omega) h4)
          go_enter Try.func25, Try.ntmps25
          go_wp2_with fail
          refine (HW.out _ _ _ _).mono ?_
          rintro e w1 ⟨rfl, rfl⟩
          go_wp2_with fail
          refine (HW.out _ _ _ _).mono ?_
          rintro e w1 ⟨rfl, rfl⟩
          go_wp2_with fail
          refine (HW.out _ _ _ _).mono ?_
          rintro e w1 ⟨rfl, rfl⟩
          go_wp2_with fail
          refine (HT.out _).mono ?_
          rintro e w2 ⟨rfl, g2⟩
          go_wp2_with fail
          go_ret2
          exact ⟨by rw [HP.out.1, HP.out.2]; rfl, (Gr.alloc _ _).trans g2⟩
        · have HP : Hid (tagR s c v data = 0 ∧ tagE s c v data = 1) := Lib.hid (by simp [tagR, tagE, tagB, h1, h2, h3, h4])
          go_enter Try.func25, Try.ntmps25
          go_wp2_with fail
          refine (HW.out _ _ _ _).mono ?_
          rintro e w1 ⟨rfl, rfl⟩
          go_wp2_with fail
          refine (HW.out _ _ _ _).mono ?_
          rintro e w1 ⟨rfl, rfl⟩
          go_wp2_with fail
          refine (HW.out _ _ _ _).mono ?_
          rintro e w1 ⟨rfl, rfl⟩
          go_wp2_with fail
          go_ret2
          exact ⟨by rw [HP.out.1, HP.out.2]; rfl, Gr.alloc _ _⟩
end
section
open Go.RowKit

theorem next2_quiet (t n : Int) (w : World) (k : Nat) (h0 : 0 ≤ t) (h1 : t ≤ 65520) (h2 : 0 ≤ n) (h3 : n ≤ 255) : Calls Try.prog 64 #[.int .i64 t, .int .i64 n] (w.drewN k) fun e w'' => e = .returned (.int .i64 (nextV t n)) ∧ ∃ m, w'' = w.drewN m :=
  Calls.quiet_of_same ((next2_any t n _ h0 h1 h2 h3).mono (fun _ _ h => ⟨h.1, h.2.symm⟩))

set_option maxHeartbeats 1000000 in
theorem TagR_any (s c v tg : Int) (data : ByteArray) (w : World) (hd : data.size < 1152921504606846976) :
    Calls Try.prog 26 #[.int .i64 s, .agg #[.int .i64 c, .int .i64 v, .string data, .int .i64 tg]] w fun e w' => e = .returned (.tuple #[.int .i64 (tagR s c v data), .int .i64 (tagE s c v data)]) ∧ Gr w w' := by
  have HW := Lib.hid within2_any
  cases h1 : withinB s 1 65520 with
  | false =>
    have HP : Hid (tagR s c v data = 0 ∧ tagE s c v data = 1) := Lib.hid (by simp [tagR, tagE, tagB, h1])
    go_enter Try.func26, Try.ntmps26
    go_wp2_with fail
    refine (HW.out _ _ _ _).mono ?_
    rintro e w1 ⟨rfl, rfl⟩
    go_wp2_with fail
    go_ret2
    exact ⟨by rw [HP.out.1, HP.out.2]; rfl, Gr.alloc _ _⟩
  | true =>
    cases h2 : withinB c 0 5 with
    | false =>
      have HP : Hid (tagR s c v data = 0 ∧ tagE s c v data = 1) := Lib.hid (by simp [tagR, tagE, tagB, h1, h2])
      go_enter Try.func26, Try.ntmps26
      go_wp2_with fail
      refine (HW.out _ _ _ _).mono ?_
      rintro e w1 ⟨rfl, rfl⟩
      go_wp2_with fail
      refine (HW.out _ _ _ _).mono ?_
      rintro e w1 ⟨rfl, rfl⟩
      go_wp2_with fail
      go_ret2
      exact ⟨by rw [HP.out.1, HP.out.2]; rfl, Gr.alloc _ _⟩
    | true =>
      cases h3 : withinB v 0 3 with
      | false =>
        have HP : Hid (tagR s c v data = 0 ∧ tagE s c v data = 1) := Lib.hid (by simp [tagR, tagE, tagB, h1, h2, h3])
        go_enter Try.func26, Try.ntmps26
        go_wp2_with fail
        refine (HW.out _ _ _ _).mono ?_
        rintro e w1 ⟨rfl, rfl⟩
        go_wp2_with fail
        refine (HW.out _ _ _ _).mono ?_
        rintro e w1 ⟨rfl, rfl⟩
        go_wp2_with fail
        refine (HW.out _ _ _ _).mono ?_
        rintro e w1 ⟨rfl, rfl⟩
        go_wp2_with fail
        go_ret2
        exact ⟨by rw [HP.out.1, HP.out.2]; rfl, Gr.alloc _ _⟩
      | true =>
        by_cases h4 : data.size ≤ 1000
        · have HP : Hid (tagR s c v data = tagL s c v data.data.toList ∧ tagE s c v data = 0) := Lib.hid (by simp [tagR, tagE, tagB, h1, h2, h3, h4])
          have h1' := withinB_iff.1 h1
          have h2' := withinB_iff.1 h2
          have h3' := withinB_iff.1 h3
          have b1 := nextV_bd s c
          have b2 := nextV_bd (nextV s c) v
          go_enter Try.func26, Try.ntmps26
          go_wp2_with fail
          refine (HW.out _ _ _ _).mono ?_
          rintro e w1 ⟨rfl, rfl⟩
          go_wp2_with fail
          refine (HW.out _ _ _ _).mono ?_
          rintro e w1 ⟨rfl, rfl⟩
          go_wp2_with fail
          refine (HW.out _ _ _ _).mono ?_
          rintro e w1 ⟨rfl, rfl⟩
          go_wp2_with fail
          obtain ⟨w1, hw1⟩ : ∃ w1, w.alloc (.cells #[.int .i64 c, .int .i64 v, .string data, .int .i64 tg] 46) = w1 := ⟨_, rfl⟩
          have g1 : Gr w w1 := by rw [← hw1]; exact Gr.alloc _ _
          have k0 : w1.cell? ⟨w.heap.size, 0, none⟩ = some (.int .i64 c) := by rw [← hw1]; exact cell_new rfl
          have k1 : w1.cell? ⟨w.heap.size, 1, none⟩ = some (.int .i64 v) := by rw [← hw1]; exact cell_new rfl
          have k2 : w1.cell? ⟨w.heap.size, 2, none⟩ = some (.string data) := by rw [← hw1]; exact cell_new rfl
          rw [hw1]
          clear hw1
          go_quiet ((go_at_call 64; exact next2_quiet _ _ _ _ (by omega) (by omega) (by omega) (by omega)))
          have k2' : ∀ n, (w1.drewN n).cell? ⟨w.heap.size, 2, none⟩ = some (.string data) := fun n => k2
          have g1' := g1.drewNR nq
          have kk := k2' nq
          obtain ⟨w2, hw2⟩ : ∃ w2, w1.drewN nq = w2 := ⟨_, rfl⟩
          rw [hw2] at g1' kk ⊢
          clear hw2 k2' k0 k1 k2
          go_wp2_with fail
          go_loop [6, 7] (fun t i => ∃ k : Nat, k ≤ data.size ∧ i = .int .i64 k ∧ t = .int .i64 (tagL s c v (data.data.toList.take k))) (fun _ i => data.size - (intOf i).toNat)
          case atStart => exact ⟨0, Nat.zero_le _, rfl, rfl⟩
          case round =>
            obtain ⟨k, hk, rfl, rfl⟩ := hrel
            have hb := tagL_bd s c v (data.data.toList.take k)
            by_cases hlt : k < data.size
            · have hsn : Hid (tagL s c v (data.data.toList.take (k + 1)) = nextV (tagL s c v (data.data.toList.take k)) (data[k].toNat : Int)) := Lib.hid (by rw [take_snocB data k hlt, tagL_snoc])
              have hby : (data[k].toNat : Int) ≤ 255 := by have := data[k].toNat_lt; omega
              generalize tagL s c v (data.data.toList.take k) = tk at *
              go_wp2_with fail
              refine (next2_any tk _ _ hb.1 hb.2 (by omega) hby).mono ?_
              rintro e w3 ⟨rfl, rfl⟩
              go_wp2_with fail
              go_round
              case rel => exact ⟨k + 1, by omega, by go_num, by rw [hsn.out]⟩
              case measure => simp [intOf]; omega
            · obtain rfl : k = data.size := by omega
              go_wp2_with fail
              go_ret2
              refine ⟨?_, g1'⟩
              rw [HP.out.1, HP.out.2]
              have : data.data.toList.take data.size = data.data.toList := List.take_of_length_le (by simp)
              rw [this]
              rfl
        · have HP : Hid (tagR s c v data = 0 ∧ tagE s c v data = 1) := Lib.hid (by simp [tagR, tagE, tagB, h1, h2, h3, h4])
          go_enter Try.func26, Try.ntmps26
          go_wp2_with fail
          refine (HW.out _ _ _ _).mono ?_
          rintro e w1 ⟨rfl, rfl⟩
          go_wp2_with fail
          refine (HW.out _ _ _ _).mono ?_
          rintro e w1 ⟨rfl, rfl⟩
          go_wp2_with fail
          refine (HW.out _ _ _ _).mono ?_
          rintro e w1 ⟨rfl, rfl⟩
          go_wp2_with fail
          go_ret2
          exact ⟨by rw [HP.out.1, HP.out.2]; rfl, Gr.alloc _ _⟩
end
section
open Go.RowKit

def acceptE (f : Fl) (s c v : Int) (data : ByteArray) (tg : Int) : Int := if tagE s c v data = 0 then (if verB f.times c v then (if tagR s c v data = tg then 0 else 113) else 1) else tagE s c v data
def AcceptE (f : Fl) (s c v : Int) (data : ByteArray) (tg : Int) : Int := if chkE f = 0 then acceptE f s c v data tg else chkE f

/-- the boxes of a fleet and a packet -/
structure PkB (w w2 : World) (va vb p0 p1 p2 p3 : Value) : Prop where
  gr : Gr w w2
  c0 : w2.cell? ⟨w.heap.size, 0, none⟩ = some va
  c1 : w2.cell? ⟨w.heap.size, 1, none⟩ = some vb
  d0 : w2.cell? ⟨w.heap.size + 1, 0, none⟩ = some p0
  d1 : w2.cell? ⟨w.heap.size + 1, 1, none⟩ = some p1
  d2 : w2.cell? ⟨w.heap.size + 1, 2, none⟩ = some p2
  d3 : w2.cell? ⟨w.heap.size + 1, 3, none⟩ = some p3
theorem pkB (w : World) (va vb p0 p1 p2 p3 : Value) : PkB w ((w.alloc (.cells #[va, vb] 25)).alloc (.cells #[p0, p1, p2, p3] 46)) va vb p0 p1 p2 p3 := by
  have s1 : (w.alloc (.cells #[va, vb] 25)).heap.size = w.heap.size + 1 := by simp
  have g := Gr.alloc (w.alloc (.cells #[va, vb] 25)) (.cells #[p0, p1, p2, p3] 46)
  refine ⟨(Gr.alloc _ _).allocR _, (g.cell (by simp)).trans (cell_new rfl), (g.cell (by simp)).trans (cell_new rfl), ?_, ?_, ?_, ?_⟩ <;> (rw [← s1]; exact cell_new rfl)
theorem PkB.then {w w2 w' : World} {va vb p0 p1 p2 p3 : Value} (h : PkB w w2 va vb p0 p1 p2 p3) (g : Gr w2 w') : PkB w w' va vb p0 p1 p2 p3 :=
  ⟨h.gr.trans g, (g.cell (lt_cell h.c0)).trans h.c0, (g.cell (lt_cell h.c1)).trans h.c1, (g.cell (lt_cell h.d0)).trans h.d0, (g.cell (lt_cell h.d1)).trans h.d1, (g.cell (lt_cell h.d2)).trans h.d2, (g.cell (lt_cell h.d3)).trans h.d3⟩
-- PRINTED

set_option maxHeartbeats 1000000 in
theorem accept_any (ta ca : Option Addr) (tn tc cn cc : Nat) (f : Fl) (s c v tg : Int) (data : ByteArray) (w : World) (hf : FlAt w ta tn ca cn f) (hd : data.size < 1152921504606846976) :
    Calls Try.prog 65 #[.agg #[.slice ta tn tc, .slice ca cn cc], .int .i64 s, .agg #[.int .i64 c, .int .i64 v, .string data, .int .i64 tg]] w fun e w' => e = .returned (.int .i64 (acceptE f s c v data tg)) ∧ Gr w w' := by
  have hB := pkB w (.slice ta tn tc) (.slice ca cn cc) (.int .i64 c) (.int .i64 v) (.string data) (.int .i64 tg)
  obtain ⟨w2, hw2⟩ : ∃ w2, (w.alloc (.cells #[.slice ta tn tc, .slice ca cn cc] 25)).alloc (.cells #[.int .i64 c, .int .i64 v, .string data, .int .i64 tg] 46) = w2 := ⟨_, rfl⟩
  rw [hw2] at hB
  have d0 := hB.d0
  have d1 := hB.d1
  have d2 := hB.d2
  have d3 := hB.d3
  have HT := Lib.hid (Tag_any s c v tg data w2 hd)
  by_cases he : tagE s c v data = 0
  · have heb : (tagE s c v data != 0) = false := by simp [he]
    have HA : Hid (acceptE f s c v data tg = if verB f.times c v then (if tagR s c v data = tg then 0 else 113) else 1) := Lib.hid (by unfold acceptE; rw [if_pos he])
    clear he
    go_enter Try.func65, Try.ntmps65
    go_wp2_with fail
    refine HT.out.mono ?_
    rintro e w3 ⟨rfl, g3⟩
    have hB3 := hB.then g3
    clear hw2 hB HT g3 d0 d1 d2 d3
    have c0 := hB3.c0
    have c1 := hB3.c1
    have d0 := hB3.d0
    have d1 := hB3.d1
    have HV := Lib.hid (version_any ta ca tn tc cn cc f c v w3 (hf.gr hB3.gr))
    go_wp2_with fail
    refine HV.out.mono ?_
    rintro e w4 ⟨rfl, g4⟩
    have hB4 := hB3.then g4
    clear HV hB3 g4 c0 c1 d0 d1
    have d3 := hB4.d3
    cases hv : verB f.times c v with
    | false =>
      have HP : Hid (acceptE f s c v data tg = 1) := Lib.hid (by rw [HA.out, hv]; rfl)
      go_wp2_with fail
      go_ret
      exact ⟨by rw [HP.out]; rfl, hB4.gr⟩
    | true =>
      by_cases ht : tagR s c v data = tg
      · have htb : (tg != tagR s c v data) = false := by simp [ht]
        have HP : Hid (acceptE f s c v data tg = 0) := Lib.hid (by rw [HA.out, hv, if_pos rfl, if_pos ht])
        clear ht
        go_wp2_with fail
        go_ret
        exact ⟨by rw [HP.out]; rfl, hB4.gr⟩
      · have htb : (tg != tagR s c v data) = true := by simp; omega
        have HP : Hid (acceptE f s c v data tg = 113) := Lib.hid (by rw [HA.out, hv, if_pos rfl, if_neg ht])
        clear ht
        go_wp2_with fail
        go_ret
        exact ⟨by rw [HP.out]; rfl, hB4.gr⟩
  · have heb : (tagE s c v data != 0) = true := by simp [he]
    have HP : Hid (acceptE f s c v data tg = tagE s c v data) := Lib.hid (by unfold acceptE; rw [if_neg he])
    clear he
    go_enter Try.func65, Try.ntmps65
    go_wp2_with fail
    refine HT.out.mono ?_
    rintro e w3 ⟨rfl, g3⟩
    go_wp2_with fail
    go_ret
    exact ⟨by rw [HP.out]; rfl, hB.gr.trans g3⟩

set_option maxHeartbeats 1000000 in
theorem accept2_any (ta ca : Option Addr) (tn tc cn cc : Nat) (f : Fl) (s c v tg : Int) (data : ByteArray) (w : World) (hf : FlAt w ta tn ca cn f) (hd : data.size < 1152921504606846976) :
    Calls Try.prog 66 #[.agg #[.slice ta tn tc, .slice ca cn cc], .int .i64 s, .agg #[.int .i64 c, .int .i64 v, .string data, .int .i64 tg]] w fun e w' => e = .returned (.int .i64 (acceptE f s c v data tg)) ∧ Gr w w' := by
  have hB := pkB w (.slice ta tn tc) (.slice ca cn cc) (.int .i64 c) (.int .i64 v) (.string data) (.int .i64 tg)
  obtain ⟨w2, hw2⟩ : ∃ w2, (w.alloc (.cells #[.slice ta tn tc, .slice ca cn cc] 25)).alloc (.cells #[.int .i64 c, .int .i64 v, .string data, .int .i64 tg] 46) = w2 := ⟨_, rfl⟩
  rw [hw2] at hB
  have d0 := hB.d0
  have d1 := hB.d1
  have d2 := hB.d2
  have d3 := hB.d3
  have HT := Lib.hid (TagR_any s c v tg data w2 hd)
  by_cases he : tagE s c v data = 0
  · have heb : (tagE s c v data != 0) = false := by simp [he]
    have HA : Hid (acceptE f s c v data tg = if verB f.times c v then (if tagR s c v data = tg then 0 else 113) else 1) := Lib.hid (by unfold acceptE; rw [if_pos he])
    clear he
    go_enter Try.func66, Try.ntmps66
    go_wp2_with fail
    refine HT.out.mono ?_
    rintro e w3 ⟨rfl, g3⟩
    have hB3 := hB.then g3
    clear hw2 hB HT g3 d0 d1 d2 d3
    have c0 := hB3.c0
    have c1 := hB3.c1
    have d0 := hB3.d0
    have d1 := hB3.d1
    have HV := Lib.hid (version2_any ta ca tn tc cn cc f c v w3 (hf.gr hB3.gr))
    go_wp2_with fail
    refine HV.out.mono ?_
    rintro e w4 ⟨rfl, g4⟩
    have hB4 := hB3.then g4
    clear HV hB3 g4 c0 c1 d0 d1
    have d3 := hB4.d3
    cases hv : verB f.times c v with
    | false =>
      have HP : Hid (acceptE f s c v data tg = 1) := Lib.hid (by rw [HA.out, hv]; rfl)
      go_wp2_with fail
      go_ret
      exact ⟨by rw [HP.out]; rfl, hB4.gr⟩
    | true =>
      by_cases ht : tagR s c v data = tg
      · have htb : (tagR s c v data != tg) = false := by simp [ht]
        have HP : Hid (acceptE f s c v data tg = 0) := Lib.hid (by rw [HA.out, hv, if_pos rfl, if_pos ht])
        clear ht
        go_wp2_with fail
        go_ret
        exact ⟨by rw [HP.out]; rfl, hB4.gr⟩
      · have htb : (tagR s c v data != tg) = true := by simp; omega
        have HP : Hid (acceptE f s c v data tg = 113) := Lib.hid (by rw [HA.out, hv, if_pos rfl, if_neg ht])
        clear ht
        go_wp2_with fail
        go_ret
        exact ⟨by rw [HP.out]; rfl, hB4.gr⟩
  · have heb : (tagE s c v data != 0) = true := by simp [he]
    have HP : Hid (acceptE f s c v data tg = tagE s c v data) := Lib.hid (by unfold acceptE; rw [if_neg he])
    clear he
    go_enter Try.func66, Try.ntmps66
    go_wp2_with fail
    refine HT.out.mono ?_
    rintro e w3 ⟨rfl, g3⟩
    go_wp2_with fail
    go_ret
    exact ⟨by rw [HP.out]; rfl, hB.gr.trans g3⟩

set_option maxHeartbeats 1000000 in
theorem Accept_any (ta ca : Option Addr) (tn tc cn cc : Nat) (f : Fl) (s c v tg : Int) (data : ByteArray) (w : World) (hf : FlAt w ta tn ca cn f) (hd : data.size < 1152921504606846976) :
    Calls Try.prog 27 #[.agg #[.slice ta tn tc, .slice ca cn cc], .int .i64 s, .agg #[.int .i64 c, .int .i64 v, .string data, .int .i64 tg]] w fun e w' => e = .returned (.int .i64 (AcceptE f s c v data tg)) ∧ Gr w w' := by
  have hB := pkB w (.slice ta tn tc) (.slice ca cn cc) (.int .i64 c) (.int .i64 v) (.string data) (.int .i64 tg)
  obtain ⟨w2, hw2⟩ : ∃ w2, (w.alloc (.cells #[.slice ta tn tc, .slice ca cn cc] 25)).alloc (.cells #[.int .i64 c, .int .i64 v, .string data, .int .i64 tg] 46) = w2 := ⟨_, rfl⟩
  rw [hw2] at hB
  have c0 := hB.c0
  have c1 := hB.c1
  have HC := Lib.hid (check_any ta ca tn tc cn cc f w2 (hf.gr hB.gr))
  by_cases he : chkE f = 0
  · have heb : (chkE f != 0) = false := by simp [he]
    have HP : Hid (AcceptE f s c v data tg = acceptE f s c v data tg) := Lib.hid (by unfold AcceptE; rw [if_pos he])
    clear he
    go_enter Try.func27, Try.ntmps27
    go_wp2_with fail
    refine HC.out.mono ?_
    rintro e w3 ⟨rfl, g3⟩
    have hB3 := hB.then g3
    clear hw2 hB HC g3 c0 c1
    have c0 := hB3.c0
    have c1 := hB3.c1
    have d0 := hB3.d0
    have d1 := hB3.d1
    have d2 := hB3.d2
    have d3 := hB3.d3
    have HA := Lib.hid (accept_any ta ca tn tc cn cc f s c v tg data w3 (hf.gr hB3.gr) hd)
    go_wp2_with fail
    refine HA.out.mono ?_
    rintro e w4 ⟨rfl, g4⟩
    go_wp2_with fail
    go_ret
    exact ⟨by rw [HP.out]; rfl, hB3.gr.trans g4⟩
  · have heb : (chkE f != 0) = true := by simp [he]
    have HP : Hid (AcceptE f s c v data tg = chkE f) := Lib.hid (by unfold AcceptE; rw [if_neg he])
    clear he
    go_enter Try.func27, Try.ntmps27
    go_wp2_with fail
    refine HC.out.mono ?_
    rintro e w3 ⟨rfl, g3⟩
    go_wp2_with fail
    go_ret
    exact ⟨by rw [HP.out]; rfl, hB.gr.trans g3⟩

set_option maxHeartbeats 1000000 in
theorem Accept2_any (ta ca : Option Addr) (tn tc cn cc : Nat) (f : Fl) (s c v tg : Int) (data : ByteArray) (w : World) (hf : FlAt w ta tn ca cn f) (hd : data.size < 1152921504606846976) :
    Calls Try.prog 28 #[.agg #[.slice ta tn tc, .slice ca cn cc], .int .i64 s, .agg #[.int .i64 c, .int .i64 v, .string data, .int .i64 tg]] w fun e w' => e = .returned (.int .i64 (AcceptE f s c v data tg)) ∧ Gr w w' := by
  have hB := pkB w (.slice ta tn tc) (.slice ca cn cc) (.int .i64 c) (.int .i64 v) (.string data) (.int .i64 tg)
  obtain ⟨w2, hw2⟩ : ∃ w2, (w.alloc (.cells #[.slice ta tn tc, .slice ca cn cc] 25)).alloc (.cells #[.int .i64 c, .int .i64 v, .string data, .int .i64 tg] 46) = w2 := ⟨_, rfl⟩
  rw [hw2] at hB
  have c0 := hB.c0
  have c1 := hB.c1
  have HC := Lib.hid (check2_any ta ca tn tc cn cc f w2 (hf.gr hB.gr))
  by_cases he : chkE f = 0
  · have heb : (chkE f != 0) = false := by simp [he]
    have HP : Hid (AcceptE f s c v data tg = acceptE f s c v data tg) := Lib.hid (by unfold AcceptE; rw [if_pos he])
    clear he
    go_enter Try.func28, Try.ntmps28
    go_wp2_with fail
    refine HC.out.mono ?_
    rintro e w3 ⟨rfl, g3⟩
    have hB3 := hB.then g3
    clear hw2 hB HC g3 c0 c1
    have c0 := hB3.c0
    have c1 := hB3.c1
    have d0 := hB3.d0
    have d1 := hB3.d1
    have d2 := hB3.d2
    have d3 := hB3.d3
    have HA := Lib.hid (accept2_any ta ca tn tc cn cc f s c v tg data w3 (hf.gr hB3.gr) hd)
    go_wp2_with fail
    refine HA.out.mono ?_
    rintro e w4 ⟨rfl, g4⟩
    go_wp2_with fail
    go_ret
    exact ⟨by rw [HP.out]; rfl, hB3.gr.trans g4⟩
  · have heb : (chkE f != 0) = true := by simp [he]
    have HP : Hid (AcceptE f s c v data tg = chkE f) := Lib.hid (by unfold AcceptE; rw [if_neg he])
    clear he
    go_enter Try.func28, Try.ntmps28
    go_wp2_with fail
    refine HC.out.mono ?_
    rintro e w3 ⟨rfl, g3⟩
    go_wp2_with fail
    go_ret
    exact ⟨by rw [HP.out]; rfl, hB.gr.trans g3⟩
end
section
open Go.RowKit

def wE (f : Fl) (s : List Int) : Int := statesE f [s]
def wI (f : Fl) (s : List Int) : Int := if statesE f [s] = 0 then clashI f s else 0
def wB (f : Fl) (s : List Int) : Bool := if statesE f [s] = 0 then worksB f s else false

set_option maxRecDepth 100000 in
set_option maxHeartbeats 4000000 in
theorem Works_any (ta ca : Option Addr) (a : Option Addr) (tn tc cn cc n c : Nat) (f : Fl) (xs : List Int) (w : World) (hf : FlAt w ta tn ca cn f) (hx : Ints w a n xs) :
    Calls Try.prog 38 #[.agg #[.slice ta tn tc, .slice ca cn cc], .slice a n c] w fun e w' => e = .returned (.tuple #[.int .i64 (wI f xs), .bool (wB f xs), .int .i64 (wE f xs)]) ∧ Gr w w' := by
  have g := Gr.alloc w (.cells #[.slice ta tn tc, .slice ca cn cc] 25)
  have hC : RCells (w.alloc (.cells #[.slice ta tn tc, .slice ca cn cc] 25)) [(⟨w.heap.size, 0, none⟩, .slice ta tn tc), (⟨w.heap.size, 1, none⟩, .slice ca cn cc)] := (RCells.nil w).box (b := w.heap.size) #[.slice ta tn tc, .slice ca cn cc] 25 rfl
  obtain ⟨w2, hw2⟩ : ∃ w2, w.alloc (.cells #[.slice ta tn tc, .slice ca cn cc] 25) = w2 := ⟨_, rfl⟩
  rw [hw2] at g hC
  have G := g
  replace hf := hf.gr g
  replace hx := hx.gr g
  clear g
  have c0 : w2.cell? (⟨w.heap.size, 0, none⟩) = some (.slice ta tn tc) := hC.at 0 rfl
  have c1 : w2.cell? (⟨w.heap.size, 1, none⟩) = some (.slice ca cn cc) := hC.at 1 rfl
  go_enter Try.func38, Try.ntmps38
  have g := Gr.alloc w2 (.cells #[.slice a n c] 26)
  have hb := heap_alloc_new w2 (.cells #[.slice a n c] 26)
  have hbl : w2.heap.size < (w2.alloc (.cells #[.slice a n c] 26)).heap.size := by simp
  obtain ⟨w4, hww4⟩ : ∃ w0, w2.alloc (.cells #[.slice a n c] 26) = w0 := ⟨_, rfl⟩
  rw [hww4] at g hb hbl
  replace G := G.trans g
  replace hC := hC.gr g
  replace hf := hf.gr g
  replace hx := hx.gr g
  have c0a4 : w4.cell? (⟨w.heap.size, 0, none⟩) = some (.slice ta tn tc) := hC.at 0 rfl
  have c1a4 : w4.cell? (⟨w.heap.size, 1, none⟩) = some (.slice ca cn cc) := hC.at 1 rfl
  have hR3 := (rows1 (c := c) hbl (cell_at hb rfl) hx : RowsAt w4 (some ⟨w2.heap.size, 0, none⟩) 1 [xs])
  clear g hb hbl
  have HC := Lib.hid (checkStates_any ta ca (some ⟨w2.heap.size, 0, none⟩) tn tc cn cc 1 1 f ([xs]) w4 hf hR3)
  go_wp2_with fail
  refine HC.out.mono ?_
  rintro e w5 ⟨rfl, g⟩
  clear HC
  clear hw2 hww4
  replace G := G.trans g
  replace hC := hC.gr g
  replace hf := hf.gr g
  replace hx := hx.gr g
  replace hR3 := hR3.gr g
  clear g
  clear c0 c1 c0a4 c1a4
  have c0 : w5.cell? (⟨w.heap.size, 0, none⟩) = some (.slice ta tn tc) := hC.at 0 rfl
  have c1 : w5.cell? (⟨w.heap.size, 1, none⟩) = some (.slice ca cn cc) := hC.at 1 rfl
  by_cases h6 : (statesE f ([xs]) : Int) = 0
  · have h6b : ((statesE f ([xs]) : Int) != 0) = false := by simp [h6]
    have Hh6 := Lib.hid h6
    clear h6
    have hok : FlOk f := chkB_ok (statesE_zero Hh6.out).1
    have hst : StOk f xs := stB_ok (by have := (statesE_zero Hh6.out).2; simpa [stsB] using this)
    have HC := Lib.hid (clash_any ta ca a tn tc cn cc n c f xs w5 hf hok hx hst)
    go_wp2_with fail
    refine HC.out.mono ?_
    rintro e w7 ⟨rfl, g⟩
    clear HC
    replace G := G.trans g
    replace hC := hC.gr g
    replace hf := hf.gr g
    replace hx := hx.gr g
    replace hR3 := hR3.gr g
    clear g
    clear c0 c1
    have c0 : w7.cell? (⟨w.heap.size, 0, none⟩) = some (.slice ta tn tc) := hC.at 0 rfl
    have c1 : w7.cell? (⟨w.heap.size, 1, none⟩) = some (.slice ca cn cc) := hC.at 1 rfl
    go_wp2_with fail
    go_ret3
    exact ⟨by rw [wI, wB, wE, if_pos Hh6.out, if_pos Hh6.out, Hh6.out]; rfl, G⟩
  · have h6b : ((statesE f ([xs]) : Int) != 0) = true := by simp [h6]
    have Hh6 := Lib.hid h6
    clear h6
    go_wp2_with fail
    go_ret3
    exact ⟨by rw [wI, wB, wE, if_neg Hh6.out, if_neg Hh6.out]; rfl, G⟩

set_option maxRecDepth 100000 in
set_option maxHeartbeats 4000000 in
theorem Works2_any (ta ca : Option Addr) (a : Option Addr) (tn tc cn cc n c : Nat) (f : Fl) (xs : List Int) (w : World) (hf : FlAt w ta tn ca cn f) (hx : Ints w a n xs) :
    Calls Try.prog 39 #[.agg #[.slice ta tn tc, .slice ca cn cc], .slice a n c] w fun e w' => e = .returned (.tuple #[.int .i64 (wI f xs), .bool (wB f xs), .int .i64 (wE f xs)]) ∧ Gr w w' := by
  have g := Gr.alloc w (.cells #[.slice ta tn tc, .slice ca cn cc] 25)
  have hC : RCells (w.alloc (.cells #[.slice ta tn tc, .slice ca cn cc] 25)) [(⟨w.heap.size, 0, none⟩, .slice ta tn tc), (⟨w.heap.size, 1, none⟩, .slice ca cn cc)] := (RCells.nil w).box (b := w.heap.size) #[.slice ta tn tc, .slice ca cn cc] 25 rfl
  obtain ⟨w2, hw2⟩ : ∃ w2, w.alloc (.cells #[.slice ta tn tc, .slice ca cn cc] 25) = w2 := ⟨_, rfl⟩
  rw [hw2] at g hC
  have G := g
  replace hf := hf.gr g
  replace hx := hx.gr g
  clear g
  have c0 : w2.cell? (⟨w.heap.size, 0, none⟩) = some (.slice ta tn tc) := hC.at 0 rfl
  have c1 : w2.cell? (⟨w.heap.size, 1, none⟩) = some (.slice ca cn cc) := hC.at 1 rfl
  go_enter Try.func39, Try.ntmps39
  have g := Gr.alloc w2 (.cells #[.slice a n c] 26)
  have hb := heap_alloc_new w2 (.cells #[.slice a n c] 26)
  have hbl : w2.heap.size < (w2.alloc (.cells #[.slice a n c] 26)).heap.size := by simp
  obtain ⟨w4, hww4⟩ : ∃ w0, w2.alloc (.cells #[.slice a n c] 26) = w0 := ⟨_, rfl⟩
  rw [hww4] at g hb hbl
  replace G := G.trans g
  replace hC := hC.gr g
  replace hf := hf.gr g
  replace hx := hx.gr g
  have c0a4 : w4.cell? (⟨w.heap.size, 0, none⟩) = some (.slice ta tn tc) := hC.at 0 rfl
  have c1a4 : w4.cell? (⟨w.heap.size, 1, none⟩) = some (.slice ca cn cc) := hC.at 1 rfl
  have hR3 := (rows1 (c := c) hbl (cell_at hb rfl) hx : RowsAt w4 (some ⟨w2.heap.size, 0, none⟩) 1 [xs])
  clear g hb hbl
  have HC := Lib.hid (stated_any ta ca (some ⟨w2.heap.size, 0, none⟩) tn tc cn cc 1 1 f ([xs]) w4 hf hR3)
  go_wp2_with fail
  refine HC.out.mono ?_
  rintro e w5 ⟨rfl, g⟩
  clear HC
  clear hw2 hww4
  replace G := G.trans g
  replace hC := hC.gr g
  replace hf := hf.gr g
  replace hx := hx.gr g
  replace hR3 := hR3.gr g
  clear g
  clear c0 c1 c0a4 c1a4
  have c0 : w5.cell? (⟨w.heap.size, 0, none⟩) = some (.slice ta tn tc) := hC.at 0 rfl
  have c1 : w5.cell? (⟨w.heap.size, 1, none⟩) = some (.slice ca cn cc) := hC.at 1 rfl
  by_cases h6 : (statesE f ([xs]) : Int) = 0
  · have h6b : ((statesE f ([xs]) : Int) != 0) = false := by simp [h6]
    have Hh6 := Lib.hid h6
    clear h6
    have hok : FlOk f := chkB_ok (statesE_zero Hh6.out).1
    have hst : StOk f xs := stB_ok (by have := (statesE_zero Hh6.out).2; simpa [stsB] using this)
    have HC := Lib.hid (clash2_any ta ca a tn tc cn cc n c f xs w5 hf hok hx hst)
    go_wp2_with fail
    refine HC.out.mono ?_
    rintro e w7 ⟨rfl, g⟩
    clear HC
    replace G := G.trans g
    replace hC := hC.gr g
    replace hf := hf.gr g
    replace hx := hx.gr g
    replace hR3 := hR3.gr g
    clear g
    clear c0 c1
    have c0 : w7.cell? (⟨w.heap.size, 0, none⟩) = some (.slice ta tn tc) := hC.at 0 rfl
    have c1 : w7.cell? (⟨w.heap.size, 1, none⟩) = some (.slice ca cn cc) := hC.at 1 rfl
    go_wp2_with fail
    go_ret3
    exact ⟨by rw [wI, wB, wE, if_pos Hh6.out, if_pos Hh6.out, Hh6.out]; rfl, G⟩
  · have h6b : ((statesE f ([xs]) : Int) != 0) = true := by simp [h6]
    have Hh6 := Lib.hid h6
    clear h6
    go_wp2_with fail
    go_ret3
    exact ⟨by rw [wI, wB, wE, if_neg Hh6.out, if_neg Hh6.out]; rfl, G⟩
end
end Go.Proofs.Ytlilojpnhmfnaaa
