/- Several texts of this claim in one file. (1) A walk by lemmas, within rounds and with marks too; regions whose values are known by a property. Nothing of the program is proved here. (2) Contracts: tags, the program's and the reference's. (3) Contracts: the reference's Tag. (4) Contracts: accept and Accept, the program's and the reference's. (5) Contracts: Works and the reference's. (6) Contract: the reference's CheckPlan. (7) Contracts: Back and the reference's. (8) Packets in memory; a block of numbers of a call's own; plain words for Install; contracts of the search for a packet. -/
import Derived.Test.YtlilojpnhmfnaaaBd6
import Derived.Test.YtlilojpnhmfnaaaBd4
import Derived.Deep.LoopGhost
import Derived.Test.YtlilojpnhmfnaaaBd2
import Derived.IntWalk
import Derived.Deep.QuietTactic
import Derived.BigQuiet
import Derived.Test.YtlilojpnhmfnaaaBd3
namespace Go.Proofs.Ytlilojpnhmfnaaa
section
open Go.RowKit
namespace Y
variable {ro : Option Nat} {P : Program} {ops : Array Oper} {Q : Exit → Act → World → Prop} {o : Oper} {rest : List Oper} {A : Act} {W W' : World} {n : Nat} {L : List (Nat × Value)} {D : List Deferred}

/-- no fence but for the round -/
def FW (ro : Option Nat) : Fence := { Fence.wide with round := ro }
theorem seq {x y : Code} (h : x.wpIn (FW ro) 0 P (Exit.then (y.wpIn (FW ro) 0 P Q) Q) A W) : (Code.seq x y).wpIn (FW ro) 0 P Q A W := wpIn_seq h
theorem skip (h : Q .normal A W) : Code.skip.wpIn (FW ro) 0 P Q A W := wpIn_skip h
theorem exit {id : Nat} (h : Q (.exit id) A W) : (Code.exit id).wpIn (FW ro) 0 P Q A W := wpIn_exit h
theorem ret (h : Q .ret A W) : Code.ret.wpIn (FW ro) 0 P Q A W := wpIn_ret h
theorem block {id : Nat} {c : Code} (h : c.wpIn (FW ro) 0 P (Exit.inBlock id Q) A W) : (Code.block id c).wpIn (FW ro) 0 P Q A W := wpIn_block h
theorem condT {c : Operand} {x y : Code} (hc : A.eval c = .bool true) (h : x.wpIn (FW ro) 0 P Q A W) : (Code.cond c x y).wpIn (FW ro) 0 P Q A W := wpIn_cond_true hc h
theorem condF {c : Operand} {x y : Code} (hc : A.eval c = .bool false) (h : y.wpIn (FW ro) 0 P Q A W) : (Code.cond c x y).wpIn (FW ro) 0 P Q A W := wpIn_cond_false hc h
theorem loop {c : Code} (I : Nat → Act → World → Prop) (n₀ : Nat) (h₀ : I n₀ A W)
    (round : ∀ n a w, I n a w → c.wpIn (FW ro) 0 P (Exit.then (fun a' w' => ∃ n', n' < n ∧ I n' a' w') Q) a w) : (Code.loop c).wpIn (FW ro) 0 P Q A W := by
  refine wpIn_loop (fun a w => ∃ n, I n a w) (fun a w => leastOf (fun n => I n a w)) ⟨n₀, h₀⟩ ?_
  intro a w hI
  refine wpIn_mono (round _ a w (leastOf_spec hI).1) ?_
  intro e a' w' hq
  cases e with
  | normal =>
    obtain ⟨n', hlt, hI'⟩ := hq
    exact show (∃ n, I n a' w') ∧ leastOf (fun n => I n a' w') < leastOf (fun n => I n a w) from ⟨⟨n', hI'⟩, Nat.lt_of_le_of_lt ((leastOf_spec ⟨n', hI'⟩).2 n' hI') hlt⟩
  | exit id => exact hq
  | goto l => exact hq
  | ret => exact hq
  | panic ch => exact hq
  | outgrown => exact hq
theorem lit {id : Nat} {l : List Oper} (hd : (l.all fun o => match o.op with | .defer _ => false | _ => true) = true) (h : wpL P l.toArray Q l A W) : (Code.region id l.toArray false).wpIn (FW ro) 0 P Q A W := wpIn_region_L hd h
theorem nil (h : Q .normal A W) : wpL P ops Q [] A W := h

/-- an operation that gives a value -/
theorem pval {v : Value} (F : Fr A n L D) (hw : Region.wanted o (yielded ops A.tmps) = true) (hd : (match o.dst with | some d => decide (d < n) | none => true) = true) (hrun : (execOp A.eval o).run P W = .ok (.value v) W') (h : ∀ A', Fr A' n (X.putS L o.dst v) D → wpL P ops Q rest A' W') : wpL P ops Q (o :: rest) A W := by
  refine wpL_step fun K hK => ?_
  rw [if_pos hw]
  unfold Oper.wp
  rw [hrun]
  exact hK _ _ (h _ (F.put hd))
/-- an operation that gives none -/
theorem punit (F : Fr A n L D) (hw : Region.wanted o (yielded ops A.tmps) = true) (hd : (match o.dst with | some d => decide (d < n) | none => true) = true) (hrun : (execOp A.eval o).run P W = .ok .skip W') (h : ∀ A', Fr A' n (X.delS L o.dst) D → wpL P ops Q rest A' W') : wpL P ops Q (o :: rest) A W := by
  refine wpL_step fun K hK => ?_
  rw [if_pos hw]
  unfold Oper.wp
  rw [hrun]
  exact hK _ _ (h _ (F.del hd))
theorem pskip (F : Fr A n L D) (hw : Region.wanted o (yielded ops A.tmps) = false) (hd : (match o.dst with | some d => decide (d < n) | none => true) = true) (h : ∀ A', Fr A' n (X.putS L o.dst undef) D → wpL P ops Q rest A' W) : wpL P ops Q (o :: rest) A W := by
  refine wpL_step fun K hK => ?_
  rw [if_neg (by rw [hw]; decide)]
  exact hK _ _ (h _ (F.put hd))
/-- the guard has not been carried out itself -/
theorem w3 {y : Nat → Option Bool} {j : Nat} {b : Bool} (hg : o.guard = some (j, b)) (hy : y j = none) : Region.wanted o y = false := by simp [Region.wanted, hg, hy]
theorem yn_of {ops : Array Oper} {tmps : Array Value} {j d : Nat} (hj : ((ops[j]?).bind fun o : Oper => o.dst) = some d) (h : tmps.getD d undef = undef) : yielded ops tmps j = none := by
  cases hoj : ops[j]? with
  | none => rw [hoj] at hj; simp at hj
  | some oj =>
    rw [hoj] at hj
    have hdj : oj.dst = some d := by simpa using hj
    cases hd : tmps[d]? with
    | none => simp [yielded, hoj, hdj, hd]
    | some v =>
      have : v = undef := by simpa [hd] using h
      subst this
      simp [yielded, hoj, hdj, hd, undef]
theorem _root_.Go.Proofs.Ytlilojpnhmfnaaa.Fr.yn (F : Fr A n L D) {j d : Nat} (hj : ((ops[j]?).bind fun o : Oper => o.dst) = some d) (hv : lookS L d = some undef) : yielded ops A.tmps j = none := yn_of hj (F.ev d undef hv)
theorem pcall {f : FuncId} {args : Array Value} {T : Ending → World → Prop} (F : Fr A n L D) (hw : Region.wanted o (yielded ops A.tmps) = true) (hd : (match o.dst with | some d => decide (d < n) | none => true) = true) (hrun : (execOp A.eval o).run P W = .ok (.enter f args) W) (hc : Calls P f args W T)
    (h : ∀ e W', T e W' → ∃ v, e = .returned v ∧ ∀ A', Fr A' n (X.putS L o.dst v) D → wpL P ops Q rest A' W') : wpL P ops Q (o :: rest) A W := by
  refine wpL_step fun K hK => ?_
  rw [if_pos hw]
  unfold Oper.wp
  rw [hrun]
  refine hc.mono fun e W' hT => ?_
  obtain ⟨v, rfl, h2⟩ := h e W' hT
  exact hK _ _ (h2 _ (F.put hd))
/-- an operation by a law at Oper.wp -/
theorem plaw {T : Value → World → Prop} (F : Fr A n L D) (hw : Region.wanted o (yielded ops A.tmps) = true) (hd : (match o.dst with | some d => decide (d < n) | none => true) = true)
    (hlaw : ∀ K : Act → World → Prop, (∀ v W', T v W' → K (A.put o.dst v) W') → o.wp P A W K Q)
    (h : ∀ v W', T v W' → ∀ A', Fr A' n (X.putS L o.dst v) D → wpL P ops Q rest A' W') : wpL P ops Q (o :: rest) A W := by
  refine wpL_step fun K hK => ?_
  rw [if_pos hw]
  exact hlaw K (fun v W' hT => hK _ _ (h v W' hT _ (F.put hd)))

/-- a property of a value that lasts while memory only grows -/
structure MP where
  p : Value → World → Prop
  up : ∀ v W W', p v W → Gr W W' → p v W'
/-- not carried out -/
def MP.un : MP := ⟨fun v _ => v = undef, fun _ _ _ h _ => h⟩
/-- what is held in a region: memory has only grown; some operations' values have their properties -/
def RP (w : World) (Pr : List (Nat × MP)) : (Nat → Bool) → (Nat → Value) → World → Prop := fun done u W => Gr w W ∧ ∀ i q, Pr.lookup i = some q → done i = true → q.p (u i) W
section
variable {w : World} {Pr : List (Nat × MP)} {done : Nat → Bool} {u : Nat → Value}
theorem RP.step {i : Nat} {v : Value} (h : RP w Pr done u W) (g : Gr W W') (hi : Pr.lookup i = none) : RP w Pr (upd done i) (fun j => if j = i then v else u j) W' := by
  refine ⟨h.1.trans g, fun j q hj hd => ?_⟩
  by_cases e : j = i
  · subst e; rw [hi] at hj; cases hj
  · rw [upd_ne e] at hd
    simp only [if_neg e]
    exact q.up _ _ _ (h.2 j q hj hd) g
theorem RP.new {i : Nat} {v : Value} {q : MP} (h : RP w Pr done u W) (g : Gr W W') (hi : Pr.lookup i = some q) (hq : q.p v W') : RP w Pr (upd done i) (fun j => if j = i then v else u j) W' := by
  refine ⟨h.1.trans g, fun j q' hj hd => ?_⟩
  by_cases e : j = i
  · subst e; rw [hi] at hj; injection hj with hj; subst hj; simpa using hq
  · rw [upd_ne e] at hd
    simp only [if_neg e]
    exact q'.up _ _ _ (h.2 j q' hj hd) g
theorem _root_.Go.Proofs.Ytlilojpnhmfnaaa.Ste.yn {l : List Oper} {vs : List (Option Value)} {L : List (Nat × Value)} {i : Nat} {A : Act} (h : Ste l vs L i A done u) {j d : Nat} (hj : ((l[j]?).bind fun o : Oper => o.dst) = some d) (hu : u j = undef) : yielded l.toArray A.tmps j = none :=
  yn_of (by simpa using hj) ((h.own j d hj).trans hu)
/-- an operation that is not wanted -/
theorem RP.skipU {i : Nat} (h : RP w Pr done u W) (hi : Pr.lookup i = some MP.un) : RP w Pr (upd done i) (fun j => if j = i then undef else u j) W := RP.new (q := MP.un) h (Gr.refl _) hi rfl
theorem RP.skip {i : Nat} (h : RP w Pr done u W) (hi : Pr.lookup i = none) : RP w Pr (upd done i) (fun j => if j = i then undef else u j) W := h.step (Gr.refl _) hi
theorem RP.get {i : Nat} (h : RP w Pr done u W) (q : MP) (hi : Pr.lookup i = some q) (hd : done i = true) : q.p (u i) W := h.2 i q hi hd
end
theorem region {id : Nat} {l : List Oper} {d : Bool} {w : World} {a : Act} (F : Fr a n L D) (vs : List (Option Value)) (Pr : List (Nat × MP)) (hm : P.follows .mixedOrders = true) (ok : RegOk l vs n)
    (hstep : AllIdx (StepX P l vs L Q (RP w Pr)) l 0)
    (hfin : ∀ (A : Act) (u : Nat → Value) (W : World), A.tmps.size = n → A.defers = D → (∀ s v, lastAt l vs L s = some v → A.tmps[s]? = some v) → (∀ j d, ((l[j]?).bind fun o : Oper => o.dst) = some d → A.tmps[d]? = some (u j)) → RP w Pr (fun j => decide (j < l.length)) u W → Q .normal A W) :
    (Code.region id l.toArray d).wpIn (FW ro) 0 P Q a w :=
  region_xi F vs (RP w Pr) hm ok (fun _ => ⟨⟨Gr.refl _, fun _ _ _ h => by cases h⟩, ⟨Gr.drew _, fun _ _ _ h => by cases h⟩⟩) hstep hfin
theorem _root_.Go.Proofs.Ytlilojpnhmfnaaa.Fr.add (F : Fr A n L D) {d : Nat} {v z : Value} (h : A.tmps[d]? = some v) (e : v = z) : Fr A n ((d, z) :: L) D := by
  subst e
  refine ⟨F.sz, F.df, fun s x hm => ?_⟩
  rcases List.mem_cons.1 hm with hm | hm
  · injection hm with h1 h2; subst h1 h2; exact h
  · exact F.get s x hm

/-- a function's contract from its body -/
theorem calls {f : FuncId} {fn : Func} {c : Code} {args : Array Value} {w : World} {R : Ending → World → Prop} (N : Nat) (hf : P.funcs[f]? = some fn) (hb : fn.body = some c) (hN : args.size + (fn.ntmps - args.size) = N)
    (h : ∀ A, Fr A N (X.argL args.toList 0) → c.wpIn (FW none) 0 P (bodyPostM Fence.wide 0 P fn R) A w) : Calls P f args w R := by
  refine callsIn_wide.1 (callsIn_of_wp_marks (F := Fence.wide) (n := 0) hf hb trivial ?_)
  refine h _ ⟨by simpa using hN, rfl, fun s v hm => ?_⟩
  obtain ⟨_, h2⟩ := X.argL_mem hm
  rw [Nat.sub_zero] at h2
  have hlt := (List.getElem?_eq_some_iff.1 h2).1
  show (args ++ Array.replicate (fn.ntmps - args.size) undef)[s]? = some v
  rw [Array.getElem?_append_left (by simpa using hlt)]
  simpa using h2
/-- the results -/
theorem rs1 {fn : Func} {s : Nat} {v : Value} (F : Fr A n L D) (hr : fn.results = #[.tmp s]) (hv : lookS L s = some v) : (results fn A.tmps).run P W = .ok v W := by
  have e := F.look hv
  simp [results, hr, e, go_sem]
theorem rs2 {fn : Func} {s t : Nat} {v x : Value} (F : Fr A n L D) (hr : fn.results = #[.tmp s, .tmp t]) (hv : lookS L s = some v) (hx : lookS L t = some x) : (results fn A.tmps).run P W = .ok (.tuple #[v, x]) W := by
  have e := F.look hv
  have e2 := F.look hx
  simp [results, hr, e, e2, go_sem]
theorem rs3 {fn : Func} {s t r : Nat} {v x y : Value} (F : Fr A n L D) (hr : fn.results = #[.tmp s, .tmp t, .tmp r]) (hv : lookS L s = some v) (hx : lookS L t = some x) (hy : lookS L r = some y) : (results fn A.tmps).run P W = .ok (.tuple #[v, x, y]) W := by
  have e := F.look hv
  have e2 := F.look hx
  have e3 := F.look hy
  simp [results, hr, e, e2, e3, go_sem]
/-- the first one lies in a cell -/
theorem rc2 {fn : Func} {s t : Nat} {ty : TypeId} {p : Addr} {v x : Value} (F : Fr A n L D) (hr : fn.results = #[.cell s ty, .tmp t]) (hA : (isAgg ty).run P W = .ok false W) (hp : lookS L s = some (.pointer (some p))) (hv : W.cell? p = some v) (hx : lookS L t = some x) : (results fn A.tmps).run P W = .ok (.tuple #[v, x]) W := by
  have e := F.look hp
  have e2 := F.look hx
  simp [results, hr, e, e2, go_sem, Instr.loadAt, loadVar, Instr.sureAddr, hA, hv]
theorem ret0 {fn : Func} {R : Ending → World → Prop} {v : Value} (F : Fr A n L) (hr : (results fn A.tmps).run P W = .ok v W) (h : R (.returned v) W) : bodyPostM Fence.wide 0 P fn R .ret A W := marks_ret0 hr F.df h
theorem ret1 {fn : Func} {R : Ending → World → Prop} {v : Value} {k : Nat} (F : Fr A n L [{ target := .collected k, args := #[] }]) (hk : W.heap[k]? = some (.deferred (some []))) (hr : (results fn A.tmps).run P (W.putObj k (.deferred none)) = .ok v (W.putObj k (.deferred none))) (h : R (.returned v) (W.putObj k (.deferred none))) : bodyPostM Fence.wide 0 P fn R .ret A W := marks_ret1 F.df hk hr h
theorem _root_.Go.Proofs.Ytlilojpnhmfnaaa.Gr.putObj {a b : World} (h : Gr a b) {r : Nat} (hp : a.heap.size ≤ r) (x : Obj) : Gr a (b.putObj r x) :=
  (Only.putObj (h.only (fun _ => False)) (.inr hp) x).gr (fun _ _ h => h)
/-- two bools -/
theorem eqlB {t : TypeId} {x y : Operand} (hu : P.underlying t = some .bool) {p q b : Bool} (hb : (p == q) = b) : (do eqGuard .eql t x y (.bool p) (.bool q); binOp .eql t (.bool p) (.bool q) : Sem Value).run P W = .ok (.bool b) W := by
  subst hb
  obtain ⟨d, hd⟩ : ∃ d, Op.maxDepth = d + 1 := ⟨_, rfl⟩
  simp [eqGuard, binOp, Op.equal, hd, Op.equalIn, run_underlying hu, go_sem]
theorem neqB {t : TypeId} {x y : Operand} (hu : P.underlying t = some .bool) {p q b : Bool} (hb : (p != q) = b) : (do eqGuard .neq t x y (.bool p) (.bool q); binOp .neq t (.bool p) (.bool q) : Sem Value).run P W = .ok (.bool b) W := by
  subst hb
  obtain ⟨d, hd⟩ : ∃ d, Op.maxDepth = d + 1 := ⟨_, rfl⟩
  simp [eqGuard, binOp, Op.equal, hd, Op.equalIn, run_underlying hu, go_sem, bne]
/-- nil, and not -/
theorem nilT {t e : TypeId} {x y : Operand} (hu : P.underlying t = some (.slice e)) : (do eqGuard .eql t x y (.slice none 0 0) (.slice none 0 0); binOp .eql t (.slice none 0 0) (.slice none 0 0) : Sem Value).run P W = .ok (.bool true) W := by
  obtain ⟨d, hd⟩ : ∃ d, Op.maxDepth = d + 1 := ⟨_, rfl⟩
  simp [eqGuard, binOp, Op.equal, hd, Op.equalIn, run_underlying hu, go_sem]
theorem nilF {t e : TypeId} {x y : Operand} (hu : P.underlying t = some (.slice e)) {a : Addr} {k c : Nat} : (do eqGuard .eql t x y (.slice (some a) k c) (.slice none 0 0); binOp .eql t (.slice (some a) k c) (.slice none 0 0) : Sem Value).run P W = .ok (.bool false) W := by
  obtain ⟨d, hd⟩ : ∃ d, Op.maxDepth = d + 1 := ⟨_, rfl⟩
  simp [eqGuard, binOp, Op.equal, hd, Op.equalIn, run_underlying hu, go_sem]
/-- a new variable; a new slice -/
theorem al {ρ : Operand → Value} {t : TypeId} {v : Value} (ho : o.op = .alloc t) (hr : (Instr.alloc t true (.tuple #[])).run P W = .ok v W') : (execOp ρ o).run P W = .ok (.value v) W' := by
  unfold execOp; rw [ho]; exact X.run_v hr
theorem mk {ρ : Operand → Value} {t : TypeId} {x y : Operand} {p q v : Value} (ho : o.op = .makeSlice t x y) (hx : ρ x = p) (hy : ρ y = q) (hr : (Instr.makeSlice t p q).run P W = .ok v W') : (execOp ρ o).run P W = .ok (.value v) W' := by
  unfold execOp; rw [ho]; simp only [hx, hy]; exact X.run_v hr
theorem pput {d : Option Nat} {v : Value} (F : Fr A n L D) (hd : (match d with | some d => decide (d < n) | none => true) = true) (h : ∀ A', Fr A' n (X.putS L d v) D → wpL P ops Q rest A' W) : wpL P ops Q rest (A.put d v) W := h _ (F.put hd)
theorem wpL_plain (hg : o.guard = none) {a : Act} {w : World} (h : ∀ K : Act → World → Prop, (∀ a w, wpL P ops Q rest a w → K a w) → o.wp P a w K Q) : wpL P ops Q (o :: rest) a w :=
  wpL_step fun K hK => by rw [if_pos (X.w0 hg)]; exact h K hK
/-- a cell that is written -/
theorem st1 {t : TypeId} {p : Addr} {v v0 : Value} (hS : (sizeOf t).run P W = .ok 1 W) (hv : v.cells = #[v]) (hv1 : v.oneCell' = true) (hc : W.cell? p = some v0) (hf : W.frozen? p = false) : (Instr.storeAt t (.pointer (some p)) v).run P W = .ok () (W.setCell p v) := by
  have h := run_store P W p v .plain hv1
  rw [hc, hf] at h
  simp only [Bool.false_eq_true, if_false] at h
  unfold Value.cells at hv
  simp [Instr.storeAt, storeVar, Instr.sureAddr, hS, hv, storeCells, Value.cells, go_sem, h]
end Y
end
section
open Go.RowKit

def nextV (t n : Int) : Int := (t * 257 + n + 1) % 65521
theorem nextV_bd (t n : Int) : 0 ≤ nextV t n ∧ nextV t n ≤ 65520 := by unfold nextV; omega

/-- the tag over the first bytes of the data -/
def tagL (s c v : Int) (data : List UInt8) : Int := data.foldl (fun t b => nextV t (b.toNat : Int)) (nextV (nextV s c) v)
theorem tagL_bd (s c v : Int) (data : List UInt8) : 0 ≤ tagL s c v data ∧ tagL s c v data ≤ 65520 := by
  have : ∀ (l : List UInt8) (t : Int), 0 ≤ t ∧ t ≤ 65520 → 0 ≤ l.foldl (fun t b => nextV t (b.toNat : Int)) t ∧ l.foldl (fun t b => nextV t (b.toNat : Int)) t ≤ 65520 := by
    intro l
    induction l with
    | nil => intro t h; exact h
    | cons b l ih => intro t _; exact ih _ (nextV_bd _ _)
  exact this _ _ (nextV_bd _ _)
theorem take_snocB (s : ByteArray) (k : Nat) (h : k < s.size) : s.data.toList.take (k + 1) = s.data.toList.take k ++ [s[k]] := by
  rw [List.take_succ_eq_append_getElem (by simpa using h)]; rfl
theorem tagL_snoc (s c v : Int) (l : List UInt8) (b : UInt8) : tagL s c v (l ++ [b]) = nextV (tagL s c v l) (b.toNat : Int) := by simp [tagL]

set_option maxHeartbeats 400000 in
theorem tag1_any (n t : Int) (B : Nat) (w : World) (hc : w.cell? ⟨B, 0, none⟩ = some (.int .i64 t)) (hf : w.frozen? ⟨B, 0, none⟩ = false) (h0 : 0 ≤ t) (h1 : t ≤ 65520) (h2 : 0 ≤ n) (h3 : n ≤ 255) :
    Calls Try.prog 92 #[.int .i64 n, .pointer (some ⟨B, 0, none⟩)] w fun e w' => (∃ v, e = .returned v) ∧ w' = w.setCell ⟨B, 0, none⟩ (.int .i64 (nextV t n)) := by
  go_enter Try.func92, Try.ntmps92
  go_wp2
  go_end0
  exact ⟨⟨_, rfl⟩, rfl⟩

set_option maxHeartbeats 400000 in
theorem next2_any (t n : Int) (w : World) (h0 : 0 ≤ t) (h1 : t ≤ 65520) (h2 : 0 ≤ n) (h3 : n ≤ 255) : Calls Try.prog 64 #[.int .i64 t, .int .i64 n] w fun e w' => e = .returned (.int .i64 (nextV t n)) ∧ w = w' := by
  go_enter Try.func64, Try.ntmps64
  go_wp2
  go_ret
  exact ⟨rfl, rfl⟩

/-- a packet as a value -/
def pkV (c v : Int) (data : ByteArray) (tg : Int) : Value := .agg #[.int .i64 c, .int .i64 v, .string data, .int .i64 tg]

set_option maxHeartbeats 1000000 in
theorem tag_any (s c v tg : Int) (data : ByteArray) (w : World) (hs0 : 0 ≤ s) (hs1 : s ≤ 65520) (hc0 : 0 ≤ c) (hc1 : c ≤ 255) (hv0 : 0 ≤ v) (hv1 : v ≤ 255) (hd : data.size ≤ 1000) :
    Calls Try.prog 62 #[.int .i64 s, .agg #[.int .i64 c, .int .i64 v, .string data, .int .i64 tg]] w fun e w' => e = .returned (.int .i64 (tagL s c v data.data.toList)) ∧ Gr w w' := by
  have b1 := nextV_bd s c
  have b2 := nextV_bd (nextV s c) v
  go_enter Try.func62, Try.ntmps62
  go_wp2_with fail
  refine (tag1_any c s (w.heap.size + 1) _ (by simp [go_sem]) (by simp [go_sem]) hs0 hs1 hc0 hc1).mono ?_
  rintro e w1 ⟨⟨x, rfl⟩, rfl⟩
  go_wp2_with fail
  refine (tag1_any v (nextV s c) (w.heap.size + 1) _ (by simp [go_sem]) (by simp [go_sem]) b1.1 b1.2 hv0 hv1).mono ?_
  rintro e w2 ⟨⟨x2, rfl⟩, rfl⟩
  go_wp2_with fail
  go_loopw [21] (fun i wr => ∃ k : Nat, k ≤ data.size ∧ i = .int .i64 k ∧ Gr w wr ∧ wr.cell? ⟨w.heap.size, 2, none⟩ = some (.string data) ∧ wr.cell? ⟨w.heap.size + 1, 0, none⟩ = some (.int .i64 (tagL s c v (data.data.toList.take k))) ∧ wr.frozen? ⟨w.heap.size + 1, 0, none⟩ = false) (fun i _ => data.size - (intOf i).toNat)
  case atStart =>
    refine ⟨0, Nat.zero_le _, rfl, ?_, by simp [go_sem], by simp [go_sem, tagL], by simp [go_sem]⟩
    exact (Gr.alloc _ _).allocR _
  case round =>
    obtain ⟨k, hk, rfl, hg, hcd, hct, hft⟩ := hrel
    have hb := tagL_bd s c v (data.data.toList.take k)
    by_cases hlt : k < data.size
    · have hsn : Hid (tagL s c v (data.data.toList.take (k + 1)) = nextV (tagL s c v (data.data.toList.take k)) (data[k].toNat : Int)) := Lib.hid (by rw [take_snocB data k hlt, tagL_snoc])
      have hby : (data[k].toNat : Int) ≤ 255 := by have := data[k].toNat_lt; omega
      generalize tagL s c v (data.data.toList.take k) = tk at *
      go_wp2_with fail
      refine (tag1_any _ tk (w.heap.size + 1) wr hct hft hb.1 hb.2 (by omega) hby).mono ?_
      rintro e w3 ⟨⟨x3, rfl⟩, rfl⟩
      have k1 : (wr.setCell ⟨w.heap.size + 1, 0, none⟩ (.int .i64 (nextV tk (data[k].toNat : Int)))).cell? ⟨w.heap.size, 2, none⟩ = some (.string data) := by simp [go_sem, hcd]
      have k2 : (wr.setCell ⟨w.heap.size + 1, 0, none⟩ (.int .i64 (nextV tk (data[k].toNat : Int)))).cell? ⟨w.heap.size + 1, 0, none⟩ = some (.int .i64 (nextV tk (data[k].toNat : Int))) := by simp [go_sem, hct]
      have k3 : (wr.setCell ⟨w.heap.size + 1, 0, none⟩ (.int .i64 (nextV tk (data[k].toNat : Int)))).frozen? ⟨w.heap.size + 1, 0, none⟩ = false := by simpa using hft
      have k4 : Gr w (wr.setCell ⟨w.heap.size + 1, 0, none⟩ (.int .i64 (nextV tk (data[k].toNat : Int)))) := hg.setCell (by simp only; omega) _
      generalize wr.setCell ⟨w.heap.size + 1, 0, none⟩ (.int .i64 (nextV tk (data[k].toNat : Int))) = w3 at *
      go_wp2_with fail
      go_roundw
      case rel => exact ⟨k + 1, by omega, by go_num, k4, k1, by rw [hsn.out]; exact k2, k3⟩
      case measure => simp [intOf]; omega
    · obtain rfl : k = data.size := by omega
      go_wp2_with fail
      go_ret
      exact ⟨ret_int (by rw [List.take_of_length_le (by simp)]), hg⟩

/-- the arguments of Tag are in order -/
def tagB (s c v : Int) (data : ByteArray) : Bool := withinB s 1 65520 && withinB c 0 5 && withinB v 0 3 && decide (data.size ≤ 1000)
def tagE (s c v : Int) (data : ByteArray) : Int := if tagB s c v data then 0 else 1
def tagR (s c v : Int) (data : ByteArray) : Int := if tagB s c v data then tagL s c v data.data.toList else 0

set_option maxHeartbeats 1000000 in
theorem Tag_any (s c v tg : Int) (data : ByteArray) (w : World) (hd : data.size < 1152921504606846976) :
    Calls Try.prog 25 #[.int .i64 s, .agg #[.int .i64 c, .int .i64 v, .string data, .int .i64 tg]] w fun e w' => e = .returned (.tuple #[.int .i64 (tagR s c v data), .int .i64 (tagE s c v data)]) ∧ Gr w w' := by
  have HW := Lib.hid within_any
  cases h1 : withinB s 1 65520 with
  | false =>
    have HP : Hid (tagR s c v data = 0 ∧ tagE s c v data = 1) := Lib.hid (by simp [tagR, tagE, tagB, h1])
    go_enter Try.func25, Try.ntmps25
    go_wp2_with fail
    refine (HW.out _ _ _ _).mono ?_
    rintro e w1 ⟨rfl, rfl⟩
    go_wp2_with fail
    go_ret2
    exact ⟨by rw [HP.out.1, HP.out.2]; rfl, Gr.alloc _ _⟩
  | true =>
    cases h2 : withinB c 0 5 with
    | false =>
      have HP : Hid (tagR s c v data = 0 ∧ tagE s c v data = 1) := Lib.hid (by simp [tagR, tagE, tagB, h1, h2])
      go_enter Try.func25, Try.ntmps25
      go_wp2_with fail
      refine (HW.out _ _ _ _).mono ?_
      rintro e w1 ⟨rfl, rfl⟩
      go_wp2_with fail
      refine (HW.out _ _ _ _).mono ?_
      rintro e w1 ⟨rfl, rfl⟩
      go_wp2_with fail
      go_ret2
      exact ⟨by rw [HP.out.1, HP.out.2]; rfl, Gr.alloc _ _⟩
    | true =>
      cases h3 : withinB v 0 3 with
      | false =>
        have HP : Hid (tagR s c v data = 0 ∧ tagE s c v data = 1) := Lib.hid (by simp [tagR, tagE, tagB, h1, h2, h3])
        go_enter Try.func25, Try.ntmps25
        go_wp2_with fail
        refine (HW.out _ _ _ _).mono ?_
        rintro e w1 ⟨rfl, rfl⟩
        go_wp2_with fail
        refine (HW.out _ _ _ _).mono ?_
        rintro e w1 ⟨rfl, rfl⟩
        go_wp2_with fail
        refine (HW.out _ _ _ _).mono ?_
        rintro e w1 ⟨rfl, rfl⟩
        go_wp2_with fail
        go_ret2
        exact ⟨by rw [HP.out.1, HP.out.2]; rfl, Gr.alloc _ _⟩
      | true =>
        by_cases h4 : data.size ≤ 1000
        · have HP : Hid (tagR s c v data = tagL s c v data.data.toList ∧ tagE s c v data = 0) := Lib.hid (by simp [tagR, tagE, tagB, h1, h2, h3, h4])
          have h1' := withinB_iff.1 h1
          have h2' := withinB_iff.1 h2
          have h3' := withinB_iff.1 h3
          have HT := Lib.hid (fun w => tag_any s c v tg data w (by omega) (by omega) (by omega) (by omega) (by omega) (by omega) h4)
          go_enter Try.func25, Try.ntmps25
          go_wp2_with fail
          refine (HW.out _ _ _ _).mono ?_
          rintro e w1 ⟨rfl, rfl⟩
          go_wp2_with fail
          refine (HW.out _ _ _ _).mono ?_
          rintro e w1 ⟨rfl, rfl⟩
          go_wp2_with fail
          refine (HW.out _ _ _ _).mono ?_
          rintro e w1 ⟨rfl, rfl⟩
          go_wp2_with fail
          refine (HT.out _).mono ?_
          rintro e w2 ⟨rfl, g2⟩
          go_wp2_with fail
          go_ret2
          exact ⟨by rw [HP.out.1, HP.out.2]; rfl, (Gr.alloc _ _).trans g2⟩
        · have HP : Hid (tagR s c v data = 0 ∧ tagE s c v data = 1) := Lib.hid (by simp [tagR, tagE, tagB, h1, h2, h3, h4])
          go_enter Try.func25, Try.ntmps25
          go_wp2_with fail
          refine (HW.out _ _ _ _).mono ?_
          rintro e w1 ⟨rfl, rfl⟩
          go_wp2_with fail
          refine (HW.out _ _ _ _).mono ?_
          rintro e w1 ⟨rfl, rfl⟩
          go_wp2_with fail
          refine (HW.out _ _ _ _).mono ?_
          rintro e w1 ⟨rfl, rfl⟩
          go_wp2_with fail
          go_ret2
          exact ⟨by rw [HP.out.1, HP.out.2]; rfl, Gr.alloc _ _⟩
end
section
open Go.RowKit

theorem next2_quiet (t n : Int) (w : World) (k : Nat) (h0 : 0 ≤ t) (h1 : t ≤ 65520) (h2 : 0 ≤ n) (h3 : n ≤ 255) : Calls Try.prog 64 #[.int .i64 t, .int .i64 n] (w.drewN k) fun e w'' => e = .returned (.int .i64 (nextV t n)) ∧ ∃ m, w'' = w.drewN m :=
  Calls.quiet_of_same ((next2_any t n _ h0 h1 h2 h3).mono (fun _ _ h => ⟨h.1, h.2.symm⟩))

set_option maxHeartbeats 1000000 in
theorem TagR_any (s c v tg : Int) (data : ByteArray) (w : World) (hd : data.size < 1152921504606846976) :
    Calls Try.prog 26 #[.int .i64 s, .agg #[.int .i64 c, .int .i64 v, .string data, .int .i64 tg]] w fun e w' => e = .returned (.tuple #[.int .i64 (tagR s c v data), .int .i64 (tagE s c v data)]) ∧ Gr w w' := by
  have HW := Lib.hid within2_any
  cases h1 : withinB s 1 65520 with
  | false =>
    have HP : Hid (tagR s c v data = 0 ∧ tagE s c v data = 1) := Lib.hid (by simp [tagR, tagE, tagB, h1])
    go_enter Try.func26, Try.ntmps26
    go_wp2_with fail
    refine (HW.out _ _ _ _).mono ?_
    rintro e w1 ⟨rfl, rfl⟩
    go_wp2_with fail
    go_ret2
    exact ⟨by rw [HP.out.1, HP.out.2]; rfl, Gr.alloc _ _⟩
  | true =>
    cases h2 : withinB c 0 5 with
    | false =>
      have HP : Hid (tagR s c v data = 0 ∧ tagE s c v data = 1) := Lib.hid (by simp [tagR, tagE, tagB, h1, h2])
      go_enter Try.func26, Try.ntmps26
      go_wp2_with fail
      refine (HW.out _ _ _ _).mono ?_
      rintro e w1 ⟨rfl, rfl⟩
      go_wp2_with fail
      refine (HW.out _ _ _ _).mono ?_
      rintro e w1 ⟨rfl, rfl⟩
      go_wp2_with fail
      go_ret2
      exact ⟨by rw [HP.out.1, HP.out.2]; rfl, Gr.alloc _ _⟩
    | true =>
      cases h3 : withinB v 0 3 with
      | false =>
        have HP : Hid (tagR s c v data = 0 ∧ tagE s c v data = 1) := Lib.hid (by simp [tagR, tagE, tagB, h1, h2, h3])
        go_enter Try.func26, Try.ntmps26
        go_wp2_with fail
        refine (HW.out _ _ _ _).mono ?_
        rintro e w1 ⟨rfl, rfl⟩
        go_wp2_with fail
        refine (HW.out _ _ _ _).mono ?_
        rintro e w1 ⟨rfl, rfl⟩
        go_wp2_with fail
        refine (HW.out _ _ _ _).mono ?_
        rintro e w1 ⟨rfl, rfl⟩
        go_wp2_with fail
        go_ret2
        exact ⟨by rw [HP.out.1, HP.out.2]; rfl, Gr.alloc _ _⟩
      | true =>
        by_cases h4 : data.size ≤ 1000
        · have HP : Hid (tagR s c v data = tagL s c v data.data.toList ∧ tagE s c v data = 0) := Lib.hid (by simp [tagR, tagE, tagB, h1, h2, h3, h4])
          have h1' := withinB_iff.1 h1
          have h2' := withinB_iff.1 h2
          have h3' := withinB_iff.1 h3
          have b1 := nextV_bd s c
          have b2 := nextV_bd (nextV s c) v
          go_enter Try.func26, Try.ntmps26
          go_wp2_with fail
          refine (HW.out _ _ _ _).mono ?_
          rintro e w1 ⟨rfl, rfl⟩
          go_wp2_with fail
          refine (HW.out _ _ _ _).mono ?_
          rintro e w1 ⟨rfl, rfl⟩
          go_wp2_with fail
          refine (HW.out _ _ _ _).mono ?_
          rintro e w1 ⟨rfl, rfl⟩
          go_wp2_with fail
          obtain ⟨w1, hw1⟩ : ∃ w1, w.alloc (.cells #[.int .i64 c, .int .i64 v, .string data, .int .i64 tg] 46) = w1 := ⟨_, rfl⟩
          have g1 : Gr w w1 := by rw [← hw1]; exact Gr.alloc _ _
          have k0 : w1.cell? ⟨w.heap.size, 0, none⟩ = some (.int .i64 c) := by rw [← hw1]; exact cell_new rfl
          have k1 : w1.cell? ⟨w.heap.size, 1, none⟩ = some (.int .i64 v) := by rw [← hw1]; exact cell_new rfl
          have k2 : w1.cell? ⟨w.heap.size, 2, none⟩ = some (.string data) := by rw [← hw1]; exact cell_new rfl
          rw [hw1]
          clear hw1
          go_quiet ((go_at_call 64; exact next2_quiet _ _ _ _ (by omega) (by omega) (by omega) (by omega)))
          have k2' : ∀ n, (w1.drewN n).cell? ⟨w.heap.size, 2, none⟩ = some (.string data) := fun n => k2
          have g1' := g1.drewNR nq
          have kk := k2' nq
          obtain ⟨w2, hw2⟩ : ∃ w2, w1.drewN nq = w2 := ⟨_, rfl⟩
          rw [hw2] at g1' kk ⊢
          clear hw2 k2' k0 k1 k2
          go_wp2_with fail
          go_loop [6, 7] (fun t i => ∃ k : Nat, k ≤ data.size ∧ i = .int .i64 k ∧ t = .int .i64 (tagL s c v (data.data.toList.take k))) (fun _ i => data.size - (intOf i).toNat)
          case atStart => exact ⟨0, Nat.zero_le _, rfl, rfl⟩
          case round =>
            obtain ⟨k, hk, rfl, rfl⟩ := hrel
            have hb := tagL_bd s c v (data.data.toList.take k)
            by_cases hlt : k < data.size
            · have hsn : Hid (tagL s c v (data.data.toList.take (k + 1)) = nextV (tagL s c v (data.data.toList.take k)) (data[k].toNat : Int)) := Lib.hid (by rw [take_snocB data k hlt, tagL_snoc])
              have hby : (data[k].toNat : Int) ≤ 255 := by have := data[k].toNat_lt; omega
              generalize tagL s c v (data.data.toList.take k) = tk at *
              go_wp2_with fail
              refine (next2_any tk _ _ hb.1 hb.2 (by omega) hby).mono ?_
              rintro e w3 ⟨rfl, rfl⟩
              go_wp2_with fail
              go_round
              case rel => exact ⟨k + 1, by omega, by go_num, by rw [hsn.out]⟩
              case measure => simp [intOf]; omega
            · obtain rfl : k = data.size := by omega
              go_wp2_with fail
              go_ret2
              refine ⟨?_, g1'⟩
              rw [HP.out.1, HP.out.2]
              have : data.data.toList.take data.size = data.data.toList := List.take_of_length_le (by simp)
              rw [this]
              rfl
        · have HP : Hid (tagR s c v data = 0 ∧ tagE s c v data = 1) := Lib.hid (by simp [tagR, tagE, tagB, h1, h2, h3, h4])
          go_enter Try.func26, Try.ntmps26
          go_wp2_with fail
          refine (HW.out _ _ _ _).mono ?_
          rintro e w1 ⟨rfl, rfl⟩
          go_wp2_with fail
          refine (HW.out _ _ _ _).mono ?_
          rintro e w1 ⟨rfl, rfl⟩
          go_wp2_with fail
          refine (HW.out _ _ _ _).mono ?_
          rintro e w1 ⟨rfl, rfl⟩
          go_wp2_with fail
          go_ret2
          exact ⟨by rw [HP.out.1, HP.out.2]; rfl, Gr.alloc _ _⟩
end
section
open Go.RowKit

def acceptE (f : Fl) (s c v : Int) (data : ByteArray) (tg : Int) : Int := if tagE s c v data = 0 then (if verB f.times c v then (if tagR s c v data = tg then 0 else 113) else 1) else tagE s c v data
def AcceptE (f : Fl) (s c v : Int) (data : ByteArray) (tg : Int) : Int := if chkE f = 0 then acceptE f s c v data tg else chkE f

/-- the boxes of a fleet and a packet -/
structure PkB (w w2 : World) (va vb p0 p1 p2 p3 : Value) : Prop where
  gr : Gr w w2
  c0 : w2.cell? ⟨w.heap.size, 0, none⟩ = some va
  c1 : w2.cell? ⟨w.heap.size, 1, none⟩ = some vb
  d0 : w2.cell? ⟨w.heap.size + 1, 0, none⟩ = some p0
  d1 : w2.cell? ⟨w.heap.size + 1, 1, none⟩ = some p1
  d2 : w2.cell? ⟨w.heap.size + 1, 2, none⟩ = some p2
  d3 : w2.cell? ⟨w.heap.size + 1, 3, none⟩ = some p3
theorem pkB (w : World) (va vb p0 p1 p2 p3 : Value) : PkB w ((w.alloc (.cells #[va, vb] 25)).alloc (.cells #[p0, p1, p2, p3] 46)) va vb p0 p1 p2 p3 := by
  have s1 : (w.alloc (.cells #[va, vb] 25)).heap.size = w.heap.size + 1 := by simp
  have g := Gr.alloc (w.alloc (.cells #[va, vb] 25)) (.cells #[p0, p1, p2, p3] 46)
  refine ⟨(Gr.alloc _ _).allocR _, (g.cell (by simp)).trans (cell_new rfl), (g.cell (by simp)).trans (cell_new rfl), ?_, ?_, ?_, ?_⟩ <;> (rw [← s1]; exact cell_new rfl)
theorem PkB.then {w w2 w' : World} {va vb p0 p1 p2 p3 : Value} (h : PkB w w2 va vb p0 p1 p2 p3) (g : Gr w2 w') : PkB w w' va vb p0 p1 p2 p3 :=
  ⟨h.gr.trans g, (g.cell (lt_cell h.c0)).trans h.c0, (g.cell (lt_cell h.c1)).trans h.c1, (g.cell (lt_cell h.d0)).trans h.d0, (g.cell (lt_cell h.d1)).trans h.d1, (g.cell (lt_cell h.d2)).trans h.d2, (g.cell (lt_cell h.d3)).trans h.d3⟩
-- PRINTED

set_option maxHeartbeats 1000000 in
theorem accept_any (ta ca : Option Addr) (tn tc cn cc : Nat) (f : Fl) (s c v tg : Int) (data : ByteArray) (w : World) (hf : FlAt w ta tn ca cn f) (hd : data.size < 1152921504606846976) :
    Calls Try.prog 65 #[.agg #[.slice ta tn tc, .slice ca cn cc], .int .i64 s, .agg #[.int .i64 c, .int .i64 v, .string data, .int .i64 tg]] w fun e w' => e = .returned (.int .i64 (acceptE f s c v data tg)) ∧ Gr w w' := by
  have hB := pkB w (.slice ta tn tc) (.slice ca cn cc) (.int .i64 c) (.int .i64 v) (.string data) (.int .i64 tg)
  obtain ⟨w2, hw2⟩ : ∃ w2, (w.alloc (.cells #[.slice ta tn tc, .slice ca cn cc] 25)).alloc (.cells #[.int .i64 c, .int .i64 v, .string data, .int .i64 tg] 46) = w2 := ⟨_, rfl⟩
  rw [hw2] at hB
  have d0 := hB.d0
  have d1 := hB.d1
  have d2 := hB.d2
  have d3 := hB.d3
  have HT := Lib.hid (Tag_any s c v tg data w2 hd)
  by_cases he : tagE s c v data = 0
  · have heb : (tagE s c v data != 0) = false := by simp [he]
    have HA : Hid (acceptE f s c v data tg = if verB f.times c v then (if tagR s c v data = tg then 0 else 113) else 1) := Lib.hid (by unfold acceptE; rw [if_pos he])
    clear he
    go_enter Try.func65, Try.ntmps65
    go_wp2_with fail
    refine HT.out.mono ?_
    rintro e w3 ⟨rfl, g3⟩
    have hB3 := hB.then g3
    clear hw2 hB HT g3 d0 d1 d2 d3
    have c0 := hB3.c0
    have c1 := hB3.c1
    have d0 := hB3.d0
    have d1 := hB3.d1
    have HV := Lib.hid (version_any ta ca tn tc cn cc f c v w3 (hf.gr hB3.gr))
    go_wp2_with fail
    refine HV.out.mono ?_
    rintro e w4 ⟨rfl, g4⟩
    have hB4 := hB3.then g4
    clear HV hB3 g4 c0 c1 d0 d1
    have d3 := hB4.d3
    cases hv : verB f.times c v with
    | false =>
      have HP : Hid (acceptE f s c v data tg = 1) := Lib.hid (by rw [HA.out, hv]; rfl)
      go_wp2_with fail
      go_ret
      exact ⟨by rw [HP.out]; rfl, hB4.gr⟩
    | true =>
      by_cases ht : tagR s c v data = tg
      · have htb : (tg != tagR s c v data) = false := by simp [ht]
        have HP : Hid (acceptE f s c v data tg = 0) := Lib.hid (by rw [HA.out, hv, if_pos rfl, if_pos ht])
        clear ht
        go_wp2_with fail
        go_ret
        exact ⟨by rw [HP.out]; rfl, hB4.gr⟩
      · have htb : (tg != tagR s c v data) = true := by simp; omega
        have HP : Hid (acceptE f s c v data tg = 113) := Lib.hid (by rw [HA.out, hv, if_pos rfl, if_neg ht])
        clear ht
        go_wp2_with fail
        go_ret
        exact ⟨by rw [HP.out]; rfl, hB4.gr⟩
  · have heb : (tagE s c v data != 0) = true := by simp [he]
    have HP : Hid (acceptE f s c v data tg = tagE s c v data) := Lib.hid (by unfold acceptE; rw [if_neg he])
    clear he
    go_enter Try.func65, Try.ntmps65
    go_wp2_with fail
    refine HT.out.mono ?_
    rintro e w3 ⟨rfl, g3⟩
    go_wp2_with fail
    go_ret
    exact ⟨by rw [HP.out]; rfl, hB.gr.trans g3⟩

set_option maxHeartbeats 1000000 in
theorem accept2_any (ta ca : Option Addr) (tn tc cn cc : Nat) (f : Fl) (s c v tg : Int) (data : ByteArray) (w : World) (hf : FlAt w ta tn ca cn f) (hd : data.size < 1152921504606846976) :
    Calls Try.prog 66 #[.agg #[.slice ta tn tc, .slice ca cn cc], .int .i64 s, .agg #[.int .i64 c, .int .i64 v, .string data, .int .i64 tg]] w fun e w' => e = .returned (.int .i64 (acceptE f s c v data tg)) ∧ Gr w w' := by
  have hB := pkB w (.slice ta tn tc) (.slice ca cn cc) (.int .i64 c) (.int .i64 v) (.string data) (.int .i64 tg)
  obtain ⟨w2, hw2⟩ : ∃ w2, (w.alloc (.cells #[.slice ta tn tc, .slice ca cn cc] 25)).alloc (.cells #[.int .i64 c, .int .i64 v, .string data, .int .i64 tg] 46) = w2 := ⟨_, rfl⟩
  rw [hw2] at hB
  have d0 := hB.d0
  have d1 := hB.d1
  have d2 := hB.d2
  have d3 := hB.d3
  have HT := Lib.hid (TagR_any s c v tg data w2 hd)
  by_cases he : tagE s c v data = 0
  · have heb : (tagE s c v data != 0) = false := by simp [he]
    have HA : Hid (acceptE f s c v data tg = if verB f.times c v then (if tagR s c v data = tg then 0 else 113) else 1) := Lib.hid (by unfold acceptE; rw [if_pos he])
    clear he
    go_enter Try.func66, Try.ntmps66
    go_wp2_with fail
    refine HT.out.mono ?_
    rintro e w3 ⟨rfl, g3⟩
    have hB3 := hB.then g3
    clear hw2 hB HT g3 d0 d1 d2 d3
    have c0 := hB3.c0
    have c1 := hB3.c1
    have d0 := hB3.d0
    have d1 := hB3.d1
    have HV := Lib.hid (version2_any ta ca tn tc cn cc f c v w3 (hf.gr hB3.gr))
    go_wp2_with fail
    refine HV.out.mono ?_
    rintro e w4 ⟨rfl, g4⟩
    have hB4 := hB3.then g4
    clear HV hB3 g4 c0 c1 d0 d1
    have d3 := hB4.d3
    cases hv : verB f.times c v with
    | false =>
      have HP : Hid (acceptE f s c v data tg = 1) := Lib.hid (by rw [HA.out, hv]; rfl)
      go_wp2_with fail
      go_ret
      exact ⟨by rw [HP.out]; rfl, hB4.gr⟩
    | true =>
      by_cases ht : tagR s c v data = tg
      · have htb : (tagR s c v data != tg) = false := by simp [ht]
        have HP : Hid (acceptE f s c v data tg = 0) := Lib.hid (by rw [HA.out, hv, if_pos rfl, if_pos ht])
        clear ht
        go_wp2_with fail
        go_ret
        exact ⟨by rw [HP.out]; rfl, hB4.gr⟩
      · have htb : (tagR s c v data != tg) = true := by simp; omega
        have HP : Hid (acceptE f s c v data tg = 113) := Lib.hid (by rw [HA.out, hv, if_pos rfl, if_neg ht])
        clear ht
        go_wp2_with fail
        go_ret
        exact ⟨by rw [HP.out]; rfl, hB4.gr⟩
  · have heb : (tagE s c v data != 0) = true := by simp [he]
    have HP : Hid (acceptE f s c v data tg = tagE s c v data) := Lib.hid (by unfold acceptE; rw [if_neg he])
    clear he
    go_enter Try.func66, Try.ntmps66
    go_wp2_with fail
    refine HT.out.mono ?_
    rintro e w3 ⟨rfl, g3⟩
    go_wp2_with fail
    go_ret
    exact ⟨by rw [HP.out]; rfl, hB.gr.trans g3⟩

set_option maxHeartbeats 1000000 in
theorem Accept_any (ta ca : Option Addr) (tn tc cn cc : Nat) (f : Fl) (s c v tg : Int) (data : ByteArray) (w : World) (hf : FlAt w ta tn ca cn f) (hd : data.size < 1152921504606846976) :
    Calls Try.prog 27 #[.agg #[.slice ta tn tc, .slice ca cn cc], .int .i64 s, .agg #[.int .i64 c, .int .i64 v, .string data, .int .i64 tg]] w fun e w' => e = .returned (.int .i64 (AcceptE f s c v data tg)) ∧ Gr w w' := by
  have hB := pkB w (.slice ta tn tc) (.slice ca cn cc) (.int .i64 c) (.int .i64 v) (.string data) (.int .i64 tg)
  obtain ⟨w2, hw2⟩ : ∃ w2, (w.alloc (.cells #[.slice ta tn tc, .slice ca cn cc] 25)).alloc (.cells #[.int .i64 c, .int .i64 v, .string data, .int .i64 tg] 46) = w2 := ⟨_, rfl⟩
  rw [hw2] at hB
  have c0 := hB.c0
  have c1 := hB.c1
  have HC := Lib.hid (check_any ta ca tn tc cn cc f w2 (hf.gr hB.gr))
  by_cases he : chkE f = 0
  · have heb : (chkE f != 0) = false := by simp [he]
    have HP : Hid (AcceptE f s c v data tg = acceptE f s c v data tg) := Lib.hid (by unfold AcceptE; rw [if_pos he])
    clear he
    go_enter Try.func27, Try.ntmps27
    go_wp2_with fail
    refine HC.out.mono ?_
    rintro e w3 ⟨rfl, g3⟩
    have hB3 := hB.then g3
    clear hw2 hB HC g3 c0 c1
    have c0 := hB3.c0
    have c1 := hB3.c1
    have d0 := hB3.d0
    have d1 := hB3.d1
    have d2 := hB3.d2
    have d3 := hB3.d3
    have HA := Lib.hid (accept_any ta ca tn tc cn cc f s c v tg data w3 (hf.gr hB3.gr) hd)
    go_wp2_with fail
    refine HA.out.mono ?_
    rintro e w4 ⟨rfl, g4⟩
    go_wp2_with fail
    go_ret
    exact ⟨by rw [HP.out]; rfl, hB3.gr.trans g4⟩
  · have heb : (chkE f != 0) = true := by simp [he]
    have HP : Hid (AcceptE f s c v data tg = chkE f) := Lib.hid (by unfold AcceptE; rw [if_neg he])
    clear he
    go_enter Try.func27, Try.ntmps27
    go_wp2_with fail
    refine HC.out.mono ?_
    rintro e w3 ⟨rfl, g3⟩
    go_wp2_with fail
    go_ret
    exact ⟨by rw [HP.out]; rfl, hB.gr.trans g3⟩

set_option maxHeartbeats 1000000 in
theorem Accept2_any (ta ca : Option Addr) (tn tc cn cc : Nat) (f : Fl) (s c v tg : Int) (data : ByteArray) (w : World) (hf : FlAt w ta tn ca cn f) (hd : data.size < 1152921504606846976) :
    Calls Try.prog 28 #[.agg #[.slice ta tn tc, .slice ca cn cc], .int .i64 s, .agg #[.int .i64 c, .int .i64 v, .string data, .int .i64 tg]] w fun e w' => e = .returned (.int .i64 (AcceptE f s c v data tg)) ∧ Gr w w' := by
  have hB := pkB w (.slice ta tn tc) (.slice ca cn cc) (.int .i64 c) (.int .i64 v) (.string data) (.int .i64 tg)
  obtain ⟨w2, hw2⟩ : ∃ w2, (w.alloc (.cells #[.slice ta tn tc, .slice ca cn cc] 25)).alloc (.cells #[.int .i64 c, .int .i64 v, .string data, .int .i64 tg] 46) = w2 := ⟨_, rfl⟩
  rw [hw2] at hB
  have c0 := hB.c0
  have c1 := hB.c1
  have HC := Lib.hid (check2_any ta ca tn tc cn cc f w2 (hf.gr hB.gr))
  by_cases he : chkE f = 0
  · have heb : (chkE f != 0) = false := by simp [he]
    have HP : Hid (AcceptE f s c v data tg = acceptE f s c v data tg) := Lib.hid (by unfold AcceptE; rw [if_pos he])
    clear he
    go_enter Try.func28, Try.ntmps28
    go_wp2_with fail
    refine HC.out.mono ?_
    rintro e w3 ⟨rfl, g3⟩
    have hB3 := hB.then g3
    clear hw2 hB HC g3 c0 c1
    have c0 := hB3.c0
    have c1 := hB3.c1
    have d0 := hB3.d0
    have d1 := hB3.d1
    have d2 := hB3.d2
    have d3 := hB3.d3
    have HA := Lib.hid (accept2_any ta ca tn tc cn cc f s c v tg data w3 (hf.gr hB3.gr) hd)
    go_wp2_with fail
    refine HA.out.mono ?_
    rintro e w4 ⟨rfl, g4⟩
    go_wp2_with fail
    go_ret
    exact ⟨by rw [HP.out]; rfl, hB3.gr.trans g4⟩
  · have heb : (chkE f != 0) = true := by simp [he]
    have HP : Hid (AcceptE f s c v data tg = chkE f) := Lib.hid (by unfold AcceptE; rw [if_neg he])
    clear he
    go_enter Try.func28, Try.ntmps28
    go_wp2_with fail
    refine HC.out.mono ?_
    rintro e w3 ⟨rfl, g3⟩
    go_wp2_with fail
    go_ret
    exact ⟨by rw [HP.out]; rfl, hB.gr.trans g3⟩
end
section
open Go.RowKit

def wE (f : Fl) (s : List Int) : Int := statesE f [s]
def wI (f : Fl) (s : List Int) : Int := if statesE f [s] = 0 then clashI f s else 0
def wB (f : Fl) (s : List Int) : Bool := if statesE f [s] = 0 then worksB f s else false

set_option maxRecDepth 100000 in
set_option maxHeartbeats 4000000 in
theorem Works_any (ta ca : Option Addr) (a : Option Addr) (tn tc cn cc n c : Nat) (f : Fl) (xs : List Int) (w : World) (hf : FlAt w ta tn ca cn f) (hx : Ints w a n xs) :
    Calls Try.prog 38 #[.agg #[.slice ta tn tc, .slice ca cn cc], .slice a n c] w fun e w' => e = .returned (.tuple #[.int .i64 (wI f xs), .bool (wB f xs), .int .i64 (wE f xs)]) ∧ Gr w w' := by
  have g := Gr.alloc w (.cells #[.slice ta tn tc, .slice ca cn cc] 25)
  have hC : RCells (w.alloc (.cells #[.slice ta tn tc, .slice ca cn cc] 25)) [(⟨w.heap.size, 0, none⟩, .slice ta tn tc), (⟨w.heap.size, 1, none⟩, .slice ca cn cc)] := (RCells.nil w).box (b := w.heap.size) #[.slice ta tn tc, .slice ca cn cc] 25 rfl
  obtain ⟨w2, hw2⟩ : ∃ w2, w.alloc (.cells #[.slice ta tn tc, .slice ca cn cc] 25) = w2 := ⟨_, rfl⟩
  rw [hw2] at g hC
  have G := g
  replace hf := hf.gr g
  replace hx := hx.gr g
  clear g
  have c0 : w2.cell? (⟨w.heap.size, 0, none⟩) = some (.slice ta tn tc) := hC.at 0 rfl
  have c1 : w2.cell? (⟨w.heap.size, 1, none⟩) = some (.slice ca cn cc) := hC.at 1 rfl
  go_enter Try.func38, Try.ntmps38
  have g := Gr.alloc w2 (.cells #[.slice a n c] 26)
  have hb := heap_alloc_new w2 (.cells #[.slice a n c] 26)
  have hbl : w2.heap.size < (w2.alloc (.cells #[.slice a n c] 26)).heap.size := by simp
  obtain ⟨w4, hww4⟩ : ∃ w0, w2.alloc (.cells #[.slice a n c] 26) = w0 := ⟨_, rfl⟩
  rw [hww4] at g hb hbl
  replace G := G.trans g
  replace hC := hC.gr g
  replace hf := hf.gr g
  replace hx := hx.gr g
  have c0a4 : w4.cell? (⟨w.heap.size, 0, none⟩) = some (.slice ta tn tc) := hC.at 0 rfl
  have c1a4 : w4.cell? (⟨w.heap.size, 1, none⟩) = some (.slice ca cn cc) := hC.at 1 rfl
  have hR3 := (rows1 (c := c) hbl (cell_at hb rfl) hx : RowsAt w4 (some ⟨w2.heap.size, 0, none⟩) 1 [xs])
  clear g hb hbl
  have HC := Lib.hid (checkStates_any ta ca (some ⟨w2.heap.size, 0, none⟩) tn tc cn cc 1 1 f ([xs]) w4 hf hR3)
  go_wp2_with fail
  refine HC.out.mono ?_
  rintro e w5 ⟨rfl, g⟩
  clear HC
  clear hw2 hww4
  replace G := G.trans g
  replace hC := hC.gr g
  replace hf := hf.gr g
  replace hx := hx.gr g
  replace hR3 := hR3.gr g
  clear g
  clear c0 c1 c0a4 c1a4
  have c0 : w5.cell? (⟨w.heap.size, 0, none⟩) = some (.slice ta tn tc) := hC.at 0 rfl
  have c1 : w5.cell? (⟨w.heap.size, 1, none⟩) = some (.slice ca cn cc) := hC.at 1 rfl
  by_cases h6 : (statesE f ([xs]) : Int) = 0
  · have h6b : ((statesE f ([xs]) : Int) != 0) = false := by simp [h6]
    have Hh6 := Lib.hid h6
    clear h6
    have hok : FlOk f := chkB_ok (statesE_zero Hh6.out).1
    have hst : StOk f xs := stB_ok (by have := (statesE_zero Hh6.out).2; simpa [stsB] using this)
    have HC := Lib.hid (clash_any ta ca a tn tc cn cc n c f xs w5 hf hok hx hst)
    go_wp2_with fail
    refine HC.out.mono ?_
    rintro e w7 ⟨rfl, g⟩
    clear HC
    replace G := G.trans g
    replace hC := hC.gr g
    replace hf := hf.gr g
    replace hx := hx.gr g
    replace hR3 := hR3.gr g
    clear g
    clear c0 c1
    have c0 : w7.cell? (⟨w.heap.size, 0, none⟩) = some (.slice ta tn tc) := hC.at 0 rfl
    have c1 : w7.cell? (⟨w.heap.size, 1, none⟩) = some (.slice ca cn cc) := hC.at 1 rfl
    go_wp2_with fail
    go_ret3
    exact ⟨by rw [wI, wB, wE, if_pos Hh6.out, if_pos Hh6.out, Hh6.out]; rfl, G⟩
  · have h6b : ((statesE f ([xs]) : Int) != 0) = true := by simp [h6]
    have Hh6 := Lib.hid h6
    clear h6
    go_wp2_with fail
    go_ret3
    exact ⟨by rw [wI, wB, wE, if_neg Hh6.out, if_neg Hh6.out]; rfl, G⟩

set_option maxRecDepth 100000 in
set_option maxHeartbeats 4000000 in
theorem Works2_any (ta ca : Option Addr) (a : Option Addr) (tn tc cn cc n c : Nat) (f : Fl) (xs : List Int) (w : World) (hf : FlAt w ta tn ca cn f) (hx : Ints w a n xs) :
    Calls Try.prog 39 #[.agg #[.slice ta tn tc, .slice ca cn cc], .slice a n c] w fun e w' => e = .returned (.tuple #[.int .i64 (wI f xs), .bool (wB f xs), .int .i64 (wE f xs)]) ∧ Gr w w' := by
  have g := Gr.alloc w (.cells #[.slice ta tn tc, .slice ca cn cc] 25)
  have hC : RCells (w.alloc (.cells #[.slice ta tn tc, .slice ca cn cc] 25)) [(⟨w.heap.size, 0, none⟩, .slice ta tn tc), (⟨w.heap.size, 1, none⟩, .slice ca cn cc)] := (RCells.nil w).box (b := w.heap.size) #[.slice ta tn tc, .slice ca cn cc] 25 rfl
  obtain ⟨w2, hw2⟩ : ∃ w2, w.alloc (.cells #[.slice ta tn tc, .slice ca cn cc] 25) = w2 := ⟨_, rfl⟩
  rw [hw2] at g hC
  have G := g
  replace hf := hf.gr g
  replace hx := hx.gr g
  clear g
  have c0 : w2.cell? (⟨w.heap.size, 0, none⟩) = some (.slice ta tn tc) := hC.at 0 rfl
  have c1 : w2.cell? (⟨w.heap.size, 1, none⟩) = some (.slice ca cn cc) := hC.at 1 rfl
  go_enter Try.func39, Try.ntmps39
  have g := Gr.alloc w2 (.cells #[.slice a n c] 26)
  have hb := heap_alloc_new w2 (.cells #[.slice a n c] 26)
  have hbl : w2.heap.size < (w2.alloc (.cells #[.slice a n c] 26)).heap.size := by simp
  obtain ⟨w4, hww4⟩ : ∃ w0, w2.alloc (.cells #[.slice a n c] 26) = w0 := ⟨_, rfl⟩
  rw [hww4] at g hb hbl
  replace G := G.trans g
  replace hC := hC.gr g
  replace hf := hf.gr g
  replace hx := hx.gr g
  have c0a4 : w4.cell? (⟨w.heap.size, 0, none⟩) = some (.slice ta tn tc) := hC.at 0 rfl
  have c1a4 : w4.cell? (⟨w.heap.size, 1, none⟩) = some (.slice ca cn cc) := hC.at 1 rfl
  have hR3 := (rows1 (c := c) hbl (cell_at hb rfl) hx : RowsAt w4 (some ⟨w2.heap.size, 0, none⟩) 1 [xs])
  clear g hb hbl
  have HC := Lib.hid (stated_any ta ca (some ⟨w2.heap.size, 0, none⟩) tn tc cn cc 1 1 f ([xs]) w4 hf hR3)
  go_wp2_with fail
  refine HC.out.mono ?_
  rintro e w5 ⟨rfl, g⟩
  clear HC
  clear hw2 hww4
  replace G := G.trans g
  replace hC := hC.gr g
  replace hf := hf.gr g
  replace hx := hx.gr g
  replace hR3 := hR3.gr g
  clear g
  clear c0 c1 c0a4 c1a4
  have c0 : w5.cell? (⟨w.heap.size, 0, none⟩) = some (.slice ta tn tc) := hC.at 0 rfl
  have c1 : w5.cell? (⟨w.heap.size, 1, none⟩) = some (.slice ca cn cc) := hC.at 1 rfl
  by_cases h6 : (statesE f ([xs]) : Int) = 0
  · have h6b : ((statesE f ([xs]) : Int) != 0) = false := by simp [h6]
    have Hh6 := Lib.hid h6
    clear h6
    have hok : FlOk f := chkB_ok (statesE_zero Hh6.out).1
    have hst : StOk f xs := stB_ok (by have := (statesE_zero Hh6.out).2; simpa [stsB] using this)
    have HC := Lib.hid (clash2_any ta ca a tn tc cn cc n c f xs w5 hf hok hx hst)
    go_wp2_with fail
    refine HC.out.mono ?_
    rintro e w7 ⟨rfl, g⟩
    clear HC
    replace G := G.trans g
    replace hC := hC.gr g
    replace hf := hf.gr g
    replace hx := hx.gr g
    replace hR3 := hR3.gr g
    clear g
    clear c0 c1
    have c0 : w7.cell? (⟨w.heap.size, 0, none⟩) = some (.slice ta tn tc) := hC.at 0 rfl
    have c1 : w7.cell? (⟨w.heap.size, 1, none⟩) = some (.slice ca cn cc) := hC.at 1 rfl
    go_wp2_with fail
    go_ret3
    exact ⟨by rw [wI, wB, wE, if_pos Hh6.out, if_pos Hh6.out, Hh6.out]; rfl, G⟩
  · have h6b : ((statesE f ([xs]) : Int) != 0) = true := by simp [h6]
    have Hh6 := Lib.hid h6
    clear h6
    go_wp2_with fail
    go_ret3
    exact ⟨by rw [wI, wB, wE, if_neg Hh6.out, if_neg Hh6.out]; rfl, G⟩
end
section
open Go.RowKit

theorem dur_zero_iff {f : Fl} (hok : FlOk f) {a b : List Int} (ha : StOk f a) (hb : StOk f b) (h : aboveV b a = true) : 0 ≤ dur f.times a b ∧ (dur f.times a b = 0 ↔ a = b) := by
  have hle : ∀ c, c < f.times.length → a[c]?.getD 0 ≤ b[c]?.getD 0 := fun c hc => aboveV_le h c (by rw [hb.len]; exact hc)
  have h1 := durTo_bd hok (fun c hc => (ha.ver c hc).1) hb hle f.times.length (Nat.le_refl _)
  have h2 := durTo_zero_iff hok (fun c hc => (ha.ver c hc).1) hb hle f.times.length (Nat.le_refl _)
  unfold dur
  rw [hb.len]
  refine ⟨h1.1, h2.trans ⟨fun he => ?_, fun he => by subst he; intros; rfl⟩⟩
  have hl : a.length = b.length := by rw [ha.len, hb.len]
  exact (eqUpto_iff hl).1 (fun j hj => (he j (by rw [← ha.len]; exact hj)).symm)
theorem stepsB_stepV {f : Fl} (hok : FlOk f) {a b : List Int} (ha : StOk f a) (hb : StOk f b) {bu : Int} : stepsB f.times a b bu = true ↔ 0 ≤ stepV f.times a b ∧ stepV f.times a b ≤ bu := by
  unfold stepsB stepV
  cases h : aboveV b a with
  | false => simp
  | true =>
    have := dur_zero_iff hok ha hb h
    by_cases e : a = b
    · have hz := this.2.2 e
      simp [e] at hz ⊢
      simp [hz]
    · have hz : ¬ dur f.times a b = 0 := fun h => e (this.2.1 h)
      simp [e, hz]
      omega
theorem stepsB_false {f : Fl} (hok : FlOk f) {a b : List Int} (ha : StOk f a) (hb : StOk f b) {bu : Int} (h : stepsB f.times a b bu = false) : stepV f.times a b < 0 ∨ bu < stepV f.times a b := by
  have h1 : ¬ (stepsB f.times a b bu = true) := by simp [h]
  rw [stepsB_stepV hok ha hb] at h1
  omega
theorem stepsB_true2 {f : Fl} (hok : FlOk f) {a b : List Int} (ha : StOk f a) (hb : StOk f b) {bu : Int} (h : stepsB f.times a b bu = true) : 0 ≤ stepV f.times a b ∧ stepV f.times a b ≤ bu := (stepsB_stepV hok ha hb).1 h
theorem stepV_dur {f : Fl} (hok : FlOk f) {a b : List Int} (ha : StOk f a) (hb : StOk f b) {bu : Int} (h : stepsB f.times a b bu = true) : stepV f.times a b = dur f.times a b := by
  have h1 := (stepsB_true2 hok ha hb h).1
  unfold stepV at h1 ⊢
  split at h1
  · split at h1
    · omega
    · rename_i h2 h3; rw [if_pos h2, if_neg h3]
  · omega

theorem stsB_cons (T : List (List Int)) (a : List Int) (L : List (List Int)) : stsB T (a :: L) = (stB T a && stsB T L) := by
  unfold stsB
  rw [List.length_cons, List.range_succ_eq_map]
  simp [List.all_map, Function.comp_def]

theorem cpPre_ref {f : Fl} {a : List Int} {L : List (List Int)} {bu : Int} (h0 : chkE f = 0) (h1 : ¬ 64 < L.length) : (stB f.times a = false → cpPre f a L bu = 1) ∧ (stB f.times a = true → ¬ statesE f L = 0 → cpPre f a L bu = statesE f L) ∧
    (stB f.times a = true → statesE f L = 0 → withinB bu 0 1000000 = false → cpPre f a L bu = 1) ∧ (stB f.times a = true → statesE f L = 0 → withinB bu 0 1000000 = true → cpPre f a L bu = 0) := by
  have hc : chkB f = true := by
    cases h : chkB f with
    | true => rfl
    | false => rw [chkE_of_false h] at h0; omega
  have e : cpPre f a L bu = beginE f bu (a :: L) := by unfold cpPre; rw [if_pos h0, if_neg h1]
  have e2 : statesE f (a :: L) = if stB f.times a && stsB f.times L then 0 else 1 := by unfold statesE; rw [if_pos hc, stsB_cons]
  have e3 : statesE f L = if stsB f.times L then 0 else 1 := by unfold statesE; rw [if_pos hc]
  refine ⟨fun hs => ?_, fun hs hl => ?_, fun hs hl hb => ?_, fun hs hl hb => ?_⟩
  · rw [e]; unfold beginE; rw [e2, hs]; simp
  · cases hl2 : stsB f.times L with
    | true => rw [e3, hl2] at hl; simp at hl
    | false => rw [e]; unfold beginE; rw [e2, e3, hs, hl2]; simp
  · cases hl2 : stsB f.times L with
    | true => rw [e]; unfold beginE; rw [e2, hs, hl2, hb]; simp
    | false => rw [e3, hl2] at hl; simp at hl
  · cases hl2 : stsB f.times L with
    | true => rw [e]; unfold beginE; rw [e2, hs, hl2, hb]; simp
    | false => rw [e3, hl2] at hl; simp at hl

set_option maxRecDepth 100000 in
set_option maxHeartbeats 4000000 in
theorem checkPlan2_any (ta ca a pa : Option Addr) (tn tc cn cc n c pn pc : Nat) (f : Fl) (xs : List Int) (L : List (List Int)) (bu : Int) (w : World) (hf : FlAt w ta tn ca cn f) (hx : Ints w a n xs) (hL : RowsAt w pa pn L) :
    Calls Try.prog 29 #[.agg #[.slice ta tn tc, .slice ca cn cc], .slice a n c, .slice pa pn pc, .int .i64 bu] w fun e w' => e = .returned (.tuple #[.int .i64 (cpR f xs L bu).1, .int .i64 (cpR f xs L bu).2]) ∧ Gr w w' := by
  have g1 := Gr.alloc w (.cells #[.slice ta tn tc, .slice ca cn cc] 25)
  have c0 := cell_new (w := w) (t := 25) (cs := #[.slice ta tn tc, .slice ca cn cc]) (j := 0) rfl
  have c1 := cell_new (w := w) (t := 25) (cs := #[.slice ta tn tc, .slice ca cn cc]) (j := 1) rfl
  obtain ⟨w1, hw1⟩ : ∃ w1, w.alloc (.cells #[.slice ta tn tc, .slice ca cn cc] 25) = w1 := ⟨_, rfl⟩
  rw [hw1] at g1 c0 c1
  have HC := Lib.hid (check2_any ta ca tn tc cn cc f w1 (hf.gr g1))
  have hpl := hL.lt
  by_cases he : chkE f = 0
  · have heb : (chkE f != 0) = false := by simp [he]
    by_cases h64 : 64 < pn
    · have HP : Hid (cpR f xs L bu = (0, 1)) := Lib.hid (by unfold cpR cpPre; rw [if_pos he, hL.len, if_pos h64]; rfl)
      clear he
      go_enter Try.func29, Try.ntmps29
      go_wp2_with fail
      refine HC.out.mono ?_
      rintro e w3 ⟨rfl, g3⟩
      go_wp2_with fail
      go_ret2
      exact ⟨by rw [HP.out]; rfl, g1.trans g3⟩
    have hpre := cpPre_ref (a := xs) (bu := bu) he (by rw [hL.len]; exact h64)
    have HPRE := Lib.hid hpre
    have HE := Lib.hid he
    clear he hpre
    go_enter Try.func29, Try.ntmps29
    go_wp2_with fail
    refine HC.out.mono ?_
    rintro e w3 ⟨rfl, g3⟩
    have G3 := g1.trans g3
    have d0 := (g3.cell (lt_cell c0)).trans c0
    have d1 := (g3.cell (lt_cell c1)).trans c1
    clear hw1 c0 c1 HC g1 g3
    have HS := Lib.hid (state_any ta ca a tn tc cn cc n c f xs w3 (hf.gr G3) (hx.gr G3))
    go_wp2_with fail
    refine HS.out.mono ?_
    rintro e w4 ⟨rfl, g4⟩
    have G4 := G3.trans g4
    have e0 := (g4.cell (lt_cell d0)).trans d0
    have e1 := (g4.cell (lt_cell d1)).trans d1
    clear d0 d1 HS g4
    cases hst : stB f.times xs with
    | false =>
      have HP : Hid (cpR f xs L bu = (0, 1)) := Lib.hid (by unfold cpR; rw [HPRE.out.1 hst]; rfl)
      clear hst
      go_wp2_with fail
      go_ret2
      exact ⟨by rw [HP.out]; rfl, G4⟩
    | true =>
      have HSD := Lib.hid (stated_any ta ca pa tn tc cn cc pn pc f L w4 (hf.gr G4) (hL.gr G4))
      have HST := Lib.hid hst
      clear hst
      go_wp2_with fail
      refine HSD.out.mono ?_
      rintro e w5 ⟨rfl, g5⟩
      have G5 := G4.trans g5
      have k0 := (g5.cell (lt_cell e0)).trans e0
      have k1 := (g5.cell (lt_cell e1)).trans e1
      clear e0 e1 HSD g5
      by_cases hl0 : statesE f L = 0
      · have hlb : (statesE f L != 0) = false := by simp [hl0]
        have HL0 := Lib.hid hl0
        clear hl0
        cases hb : withinB bu 0 1000000 with
        | false =>
          have HP : Hid (cpR f xs L bu = (0, 1)) := Lib.hid (by unfold cpR; rw [HPRE.out.2.2.1 HST.out HL0.out hb]; rfl)
          go_wp2_with (go_at_call 63; refine (within2_any _ _ _ _).mono ?_; rintro e w' ⟨rfl, rfl⟩)
          go_ret2
          exact ⟨by rw [HP.out]; rfl, G5⟩
        | true =>
          have hok : FlOk f := chkB_ok (statesE_zero HL0.out).1
          have hst := stB_ok HST.out
          have hall : ∀ j, j < L.length → StOk f (L[j]?.getD []) := by
            have h1 := (statesE_zero HL0.out).2
            simp only [stsB, List.all_eq_true, List.mem_range] at h1
            exact fun j hj => stB_ok (h1 j hj)
          have hnt : n = f.times.length := by rw [← hst.len, hx.len]
          have HPR : Hid (cpR f xs L bu = if worksB f xs then cpLoop f bu xs L 0 else (-1, 111)) := Lib.hid (by unfold cpR; rw [HPRE.out.2.2.2 HST.out HL0.out hb, if_pos rfl])
          have HNT := Lib.hid hnt
          have HALL := Lib.hid hall
          have HOK := Lib.hid hok
          have h0 := clashI_of f xs
          have HW := Lib.hid (clash2_any ta ca a tn tc cn cc n c f xs w5 (hf.gr G5) hok (hx.gr G5) hst)
          clear hnt hall hok HPRE
          go_wp2_with (go_at_call 63; refine (within2_any _ _ _ _).mono ?_; rintro e w' ⟨rfl, rfl⟩)
          refine HW.out.mono ?_
          rintro e w6 ⟨rfl, g6⟩
          have G6 := G5.trans g6
          have j0 := (g6.cell (lt_cell k0)).trans k0
          have j1 := (g6.cell (lt_cell k1)).trans k1
          clear k0 k1 HW g6
          cases hwx : worksB f xs with
          | false =>
            have HP : Hid (cpR f xs L bu = (-1, 111)) := Lib.hid (by rw [HPR.out, hwx]; rfl)
            have h0 := h0.2 hwx
            go_wp2_with fail
            go_ret2
            exact ⟨by rw [HP.out]; rfl, G6⟩
          | true =>
            have HP : Hid (cpR f xs L bu = cpLoop f bu xs L 0) := Lib.hid (by rw [HPR.out, hwx]; rfl)
            have h0 := h0.1 hwx
            clear HPR
            go_wp2_with fail
            go_loopw [12, 13] (fun s i wr => ∃ (k : Nat) (p : List Int) (qa : Option Addr) (qc : Nat), k ≤ pn ∧ i = .int .i64 k ∧ s = .slice qa n qc ∧ Gr w wr ∧ Ints wr qa n p ∧ StOk f p ∧ wr.cell? ⟨w.heap.size, 0, none⟩ = some (.slice ta tn tc) ∧ wr.cell? ⟨w.heap.size, 1, none⟩ = some (.slice ca cn cc) ∧ Hid (cpLoop f bu xs L 0 = cpLoop f bu p (L.drop k) k)) (fun _ i _ => pn - (intOf i).toNat)
            case atStart => exact ⟨0, xs, a, c, Nat.zero_le _, rfl, rfl, G6, hx.gr G6, hst, j0, j1, Lib.hid (by simp)⟩
            case round =>
              obtain ⟨k, p, qa, qc, hk, rfl, rfl, gr, hp, hps, m0, m1, HL⟩ := hrel
              by_cases hlt : k < pn
              · obtain ⟨pd, ya, yn, yc, rfl, hpb, hpc, hyi⟩ := (hL.gr gr).at hlt
                have hys : StOk f (L[k]?.getD []) := HALL.out k (by rw [hL.len]; exact hlt)
                have hyn : yn = n := by rw [← hyi.len, hys.len]; exact HNT.out.symm
                subst hyn
                have hdr : Hid (L.drop k = (L[k]?.getD []) :: L.drop (k + 1)) := Lib.hid (by
                  have hl : k < L.length := by rw [hL.len]; exact hlt
                  rw [List.drop_eq_getElem_cons hl]; simp [hl])
                generalize L[k]?.getD [] = y at *
                obtain ⟨n, hnn⟩ : ∃ n, n = yn := ⟨_, rfl⟩
                subst hnn
                have HCL : Hid (∀ W, Gr wr W → Calls Try.prog 69 #[.agg #[.slice ta tn tc, .slice ca cn cc], .slice ya n yc] W fun e w' => e = .returned (.int .i64 (clashI f y)) ∧ Gr W w') := Lib.hid (fun W g => clash2_any ta ca ya tn tc cn cc n yc f y W (hf.gr (gr.trans g)) HOK.out (hyi.gr g) hys)
                obtain ⟨cb, hge, hcb⟩ : ∃ cb, decide (0 ≤ clashI f y) = cb ∧ Hid ((!cb) = worksB f y) := ⟨_, rfl, Lib.hid (by unfold worksB; by_cases h : clashI f y < 0 <;> simp [h] <;> omega)⟩
                go_wp2_with fail
                refine (wpIn_wide (n := 0)).1 ?_
                refine region_inv (F := Fence.wide) (by kernel_rfl) (by rfl) (by decide) (fun _ => trivial)
                  (fun done' u W' => Kn [some (.agg #[.slice ta tn tc, .slice ca cn cc]), some (.slice (some pd) pn pc), some (.int .i64 k), some (.pointer (some (pd.add k))), some (.slice ya n yc), some (.int .i64 (clashI f y)), some (.bool cb)] done' u ∧ Gr wr W')
                  (fun u => ⟨Kn.start _ _, Gr.drew wr⟩) ⟨?_, ?_, ?_, ?_, ?_, ?_, ?_, trivial⟩ ?_
                · rintro u done' W' hd hanc hclo ⟨hk, hg⟩
                  have c_m0 := (hg.cell (lt_cell m0)).trans m0
                  have c_m1 := (hg.cell (lt_cell m1)).trans m1
                  refine op_plain (ro := none) rfl (fun c h => by cases h) fun K hK => ?_
                  simp only [fillL, List.setIfInBounds_toArray, List.set_cons_zero, List.set_cons_succ, Nat.zero_add, Nat.reduceAdd] at hK ⊢
                  go_simp
                  exact hK _ _ ⟨hk.new rfl, hg⟩
                · rintro u done' W' hd hanc hclo ⟨hk, hg⟩
                  refine op_plain (ro := none) rfl (fun c h => by cases h) fun K hK => ?_
                  simp only [fillL, List.setIfInBounds_toArray, List.set_cons_zero, List.set_cons_succ, Nat.zero_add, Nat.reduceAdd] at hK ⊢
                  go_simp
                  exact hK _ _ ⟨hk.new rfl, hg⟩
                · rintro u done' W' hd hanc hclo ⟨hk, hg⟩
                  refine op_plain (ro := none) rfl (fun c h => by cases h) fun K hK => ?_
                  simp only [fillL, List.setIfInBounds_toArray, List.set_cons_zero, List.set_cons_succ, Nat.zero_add, Nat.reduceAdd] at hK ⊢
                  go_simp
                  exact hK _ _ ⟨hk.new rfl, hg⟩
                · rintro u done' W' hd hanc hclo ⟨hk, hg⟩
                  have e1 := hk.get 1 rfl (hanc 1 (mem_of (by kernel_rfl)))
                  have e2 := hk.get 2 rfl (hanc 2 (mem_of (by kernel_rfl)))
                  refine op_plain (ro := none) rfl (fun c h => by cases h) fun K hK => ?_
                  simp only [fillL, List.setIfInBounds_toArray, List.set_cons_zero, List.set_cons_succ, Nat.zero_add, Nat.reduceAdd, e1, e2] at hK ⊢
                  go_simp
                  exact hK _ _ ⟨hk.new rfl, hg⟩
                · rintro u done' W' hd hanc hclo ⟨hk, hg⟩
                  have e3 := hk.get 3 rfl (hanc 3 (mem_of (by kernel_rfl)))
                  have c_hpc := (hg.cell (lt_cell hpc)).trans hpc
                  refine op_plain (ro := none) rfl (fun c h => by cases h) fun K hK => ?_
                  simp only [fillL, List.setIfInBounds_toArray, List.set_cons_zero, List.set_cons_succ, Nat.zero_add, Nat.reduceAdd, e3] at hK ⊢
                  go_simp
                  exact hK _ _ ⟨hk.new rfl, hg⟩
                · rintro u done' W' hd hanc hclo ⟨hk, hg⟩
                  have e0 := hk.get 0 rfl (hanc 0 (mem_of (by kernel_rfl)))
                  have e4 := hk.get 4 rfl (hanc 4 (mem_of (by kernel_rfl)))
                  have HCON := Lib.hid (HCL.out W' hg)
                  refine op_plain (ro := none) rfl (fun c h => by cases h) fun K hK => ?_
                  simp only [fillL, List.setIfInBounds_toArray, List.set_cons_zero, List.set_cons_succ, Nat.zero_add, Nat.reduceAdd, e0, e4] at hK ⊢
                  go_simp
                  refine HCON.out.mono ?_
                  rintro e w6 ⟨rfl, hg6⟩
                  exact hK _ _ ⟨hk.new rfl, hg.trans hg6⟩
                · rintro u done' W' hd hanc hclo ⟨hk, hg⟩
                  have e5 := hk.get 5 rfl (hanc 5 (mem_of (by kernel_rfl)))
                  refine op_plain (ro := none) rfl (fun c h => by cases h) fun K hK => ?_
                  simp only [fillL, List.setIfInBounds_toArray, List.set_cons_zero, List.set_cons_succ, Nat.zero_add, Nat.reduceAdd, e5] at hK ⊢
                  go_simp
                  exact hK _ _ ⟨hk.new rfl, hg⟩
                · rintro u W' ⟨done', hdn, hk, hg⟩
                  have e6 := hk.get 6 rfl (hdn 6 (by decide))
                  simp only [fillL, List.setIfInBounds_toArray, List.set_cons_zero, List.set_cons_succ, Nat.zero_add, Nat.reduceAdd, e6]
                  clear hk hdn e6
                  have G6 := gr.trans hg
                  have q0 := (hg.cell (lt_cell m0)).trans m0
                  have q1 := (hg.cell (lt_cell m1)).trans m1
                  have qpc := (hg.cell (lt_cell hpc)).trans hpc
                  have g6 := hg
                  clear HCL m0 m1 hpc
                  cases cb with
                  | true =>
                    have hwy : worksB f y = false := by simpa using hcb.out
                    have HF : Hid (cpR f xs L bu = ((k : Int), 111)) := Lib.hid (by rw [HP.out, HL.out, hdr.out]; simp [cpLoop, hwy])
                    clear hwy hcb hge
                    go_wp2_with fail
                    go_ret2
                    exact ⟨by rw [HF.out]; rfl, G6⟩
                  | false =>
                    have hwy : Hid (worksB f y = true) := Lib.hid (by simpa using hcb.out)
                    clear hcb hge
                    have HST : Hid (∀ W, Gr W' W → Calls Try.prog 70 #[.agg #[.slice ta tn tc, .slice ca cn cc], .slice qa n qc, .slice ya n yc] W fun e w' => e = .returned (.int .i64 (stepV f.times p y)) ∧ Gr W w') := Lib.hid (fun W g => step_any ta ca qa ya tn tc cn cc n qc yc f p y W (hf.gr (G6.trans g)) HOK.out (hp.gr (g6.trans g)) (hyi.gr (g6.trans g)) hps hys)
                    clear hg
                    obtain ⟨w6, hw6⟩ : ∃ w6, w6 = W' := ⟨_, rfl⟩
                    subst hw6
                    go_wp2_with fail
                    refine (wpIn_wide (n := 0)).1 ?_
                    refine region_inv (F := Fence.wide) (by kernel_rfl) (by rfl) (by decide) (fun _ => trivial)
                      (fun done' u W' => Kn [some (.agg #[.slice ta tn tc, .slice ca cn cc]), some (.slice qa n qc), some (.slice (some pd) pn pc), some (.int .i64 k), some (.pointer (some (pd.add k))), some (.slice ya n yc), some (.int .i64 (stepV f.times p y)), some (.int .i64 (stepV f.times p y))] done' u ∧ Gr w6 W')
                      (fun u => ⟨Kn.start _ _, Gr.drew w6⟩) ⟨?_, ?_, ?_, ?_, ?_, ?_, ?_, ?_, trivial⟩ ?_
                    · rintro u done' W' hd hanc hclo ⟨hk, hg⟩
                      have c_q0 := (hg.cell (lt_cell q0)).trans q0
                      have c_q1 := (hg.cell (lt_cell q1)).trans q1
                      refine op_plain (ro := none) rfl (fun c h => by cases h) fun K hK => ?_
                      simp only [fillL, List.setIfInBounds_toArray, List.set_cons_zero, List.set_cons_succ, Nat.zero_add, Nat.reduceAdd] at hK ⊢
                      go_simp
                      exact hK _ _ ⟨hk.new rfl, hg⟩
                    · rintro u done' W' hd hanc hclo ⟨hk, hg⟩
                      refine op_plain (ro := none) rfl (fun c h => by cases h) fun K hK => ?_
                      simp only [fillL, List.setIfInBounds_toArray, List.set_cons_zero, List.set_cons_succ, Nat.zero_add, Nat.reduceAdd] at hK ⊢
                      go_simp
                      exact hK _ _ ⟨hk.new rfl, hg⟩
                    · rintro u done' W' hd hanc hclo ⟨hk, hg⟩
                      refine op_plain (ro := none) rfl (fun c h => by cases h) fun K hK => ?_
                      simp only [fillL, List.setIfInBounds_toArray, List.set_cons_zero, List.set_cons_succ, Nat.zero_add, Nat.reduceAdd] at hK ⊢
                      go_simp
                      exact hK _ _ ⟨hk.new rfl, hg⟩
                    · rintro u done' W' hd hanc hclo ⟨hk, hg⟩
                      refine op_plain (ro := none) rfl (fun c h => by cases h) fun K hK => ?_
                      simp only [fillL, List.setIfInBounds_toArray, List.set_cons_zero, List.set_cons_succ, Nat.zero_add, Nat.reduceAdd] at hK ⊢
                      go_simp
                      exact hK _ _ ⟨hk.new rfl, hg⟩
                    · rintro u done' W' hd hanc hclo ⟨hk, hg⟩
                      have e2 := hk.get 2 rfl (hanc 2 (mem_of (by kernel_rfl)))
                      have e3 := hk.get 3 rfl (hanc 3 (mem_of (by kernel_rfl)))
                      refine op_plain (ro := none) rfl (fun c h => by cases h) fun K hK => ?_
                      simp only [fillL, List.setIfInBounds_toArray, List.set_cons_zero, List.set_cons_succ, Nat.zero_add, Nat.reduceAdd, e2, e3] at hK ⊢
                      go_simp
                      exact hK _ _ ⟨hk.new rfl, hg⟩
                    · rintro u done' W' hd hanc hclo ⟨hk, hg⟩
                      have e4 := hk.get 4 rfl (hanc 4 (mem_of (by kernel_rfl)))
                      have c_qpc := (hg.cell (lt_cell qpc)).trans qpc
                      refine op_plain (ro := none) rfl (fun c h => by cases h) fun K hK => ?_
                      simp only [fillL, List.setIfInBounds_toArray, List.set_cons_zero, List.set_cons_succ, Nat.zero_add, Nat.reduceAdd, e4] at hK ⊢
                      go_simp
                      exact hK _ _ ⟨hk.new rfl, hg⟩
                    · rintro u done' W' hd hanc hclo ⟨hk, hg⟩
                      have e0 := hk.get 0 rfl (hanc 0 (mem_of (by kernel_rfl)))
                      have e1 := hk.get 1 rfl (hanc 1 (mem_of (by kernel_rfl)))
                      have e5 := hk.get 5 rfl (hanc 5 (mem_of (by kernel_rfl)))
                      have HCON := Lib.hid (HST.out W' hg)
                      refine op_plain (ro := none) rfl (fun c h => by cases h) fun K hK => ?_
                      simp only [fillL, List.setIfInBounds_toArray, List.set_cons_zero, List.set_cons_succ, Nat.zero_add, Nat.reduceAdd, e0, e1, e5] at hK ⊢
                      go_simp
                      refine HCON.out.mono ?_
                      rintro e w7 ⟨rfl, hg6⟩
                      exact hK _ _ ⟨hk.new rfl, hg.trans hg6⟩
                    · rintro u done' W' hd hanc hclo ⟨hk, hg⟩
                      have e6 := hk.get 6 rfl (hanc 6 (mem_of (by kernel_rfl)))
                      refine op_plain (ro := none) rfl (fun c h => by cases h) fun K hK => ?_
                      simp only [fillL, List.setIfInBounds_toArray, List.set_cons_zero, List.set_cons_succ, Nat.zero_add, Nat.reduceAdd, e6] at hK ⊢
                      go_simp
                      exact hK _ _ ⟨hk.new rfl, hg⟩
                    · rintro u W' ⟨done', hdn, hk, hg⟩
                      have e7 := hk.get 7 rfl (hdn 7 (by decide))
                      simp only [fillL, List.setIfInBounds_toArray, List.set_cons_zero, List.set_cons_succ, Nat.zero_add, Nat.reduceAdd, e7]
                      clear hk hdn e7
                      have G7 := G6.trans hg
                      have r0 := (hg.cell (lt_cell q0)).trans q0
                      have r1 := (hg.cell (lt_cell q1)).trans q1
                      have rpc := (hg.cell (lt_cell qpc)).trans qpc
                      clear q0 q1 qpc
                      cases hsy : stepsB f.times p y bu with
                      | false =>
                        have HF : Hid (cpR f xs L bu = ((k : Int), 112)) := Lib.hid (by rw [HP.out, HL.out, hdr.out]; simp [cpLoop, hwy.out, hsy])
                        have hsv := stepsB_false HOK.out hps hys hsy
                        clear hsy
                        by_cases hneg : stepV f.times p y < 0
                        · go_wp2_with fail
                          go_ret2
                          exact ⟨by rw [HF.out]; rfl, G7⟩
                        · have hgt : bu < stepV f.times p y := by omega
                          go_wp2_with fail
                          go_ret2
                          exact ⟨by rw [HF.out]; rfl, G7⟩
                      | true =>
                        have HF : Hid (cpLoop f bu xs L 0 = cpLoop f bu y (L.drop (k + 1)) ((k + 1 : Nat) : Int)) := Lib.hid (by rw [HL.out, hdr.out]; simp [cpLoop, hwy.out, hsy])
                        have hsv := stepsB_true2 HOK.out hps hys hsy
                        have hneg : ¬ stepV f.times p y < 0 := by omega
                        have hgt : ¬ bu < stepV f.times p y := by omega
                        have hy7 := (hyi.gr g6).gr hg
                        clear hsy hsv
                        go_wp2_with fail
                        go_roundw
                        case rel => exact ⟨k + 1, y, ya, yc, by omega, by go_num, rfl, G7, hy7, hys, r0, r1, HF⟩
                        case measure => simp [intOf]; omega
              · obtain rfl : k = pn := by omega
                have HF : Hid (cpR f xs L bu = (0, 0)) := Lib.hid (by rw [HP.out, HL.out, List.drop_eq_nil_of_le (by rw [hL.len]; exact Nat.le_refl _)]; rfl)
                go_wp2_with fail
                go_ret2
                exact ⟨by rw [HF.out]; rfl, gr⟩
      · have hlb : (statesE f L != 0) = true := by simp [hl0]
        have HP : Hid (cpR f xs L bu = (0, statesE f L)) := Lib.hid (by unfold cpR; rw [HPRE.out.2.1 HST.out hl0, if_neg hl0])
        clear hl0
        go_wp2_with fail
        go_ret2
        exact ⟨by rw [HP.out]; rfl, G5⟩
  · have heb : (chkE f != 0) = true := by simp [he]
    have HP : Hid (cpR f xs L bu = (0, chkE f)) := Lib.hid (by unfold cpR cpPre; rw [if_neg he, if_neg he])
    clear he
    go_enter Try.func29, Try.ntmps29
    go_wp2_with fail
    refine HC.out.mono ?_
    rintro e w3 ⟨rfl, g3⟩
    go_wp2_with fail
    go_ret2
    exact ⟨by rw [HP.out]; rfl, g1.trans g3⟩
end
section
open Go.RowKit

theorem run_take (w : World) (pa : Option Addr) (n c k : Nat) (hk : k ≤ c) : (Instr.slice 22 (.slice pa n c) none (some (.int .i64 k)) none).run Try.prog w = .ok (.slice pa k c) w := by
  have hu := Try.underlying22
  have ha : ∀ a : Addr, a.add 0 = a := fun a => by unfold Addr.add; rfl
  have hm : pa.map (fun a => a.add 0) = pa := by cases pa <;> simp [ha]
  have h1 : (0 : Int) ≤ k ∧ (k : Int) ≤ c := by omega
  obtain ⟨i0, hi, hz0, hz1, hz2⟩ := info_parts Try.info26
  simp [Instr.slice, Instr.sliceBounds, Instr.sliceBound, underlying, hu, sizeOf, hi, hz1, asIntOf, h1, hm, go_sem]
  intro h; omega

/-- append of the first states of a plan to a new list of one state -/
theorem wpList_front {ops : Array Oper} {rest : List Oper} {o : Oper} {a : Act} {w3 W : World} {Q : Exit → Act → World → Prop} (hgd : o.guard = none) {s x : Operand} {sa pa : Option Addr} {n c pn pc g : Nat} {xs : List Int} {L : List (List Int)}
    (ho : o.op = .call { callee := .builtin .append, args := #[s, x], argTypes := #[22, 22] }) (hs : a.eval s = .slice (some ⟨g, 0, none⟩) 1 1) (hx : a.eval x = .slice pa pn pc)
    (hg : W.heap[g]? = some (.cells #[.slice sa n c] 26 (0, 0))) (hge : w3.heap.size ≤ g) (hgr : Gr w3 W) (hi : Ints w3 sa n xs) (hL : RowsAt w3 pa pn L) (h64 : pn ≤ 64)
    (h : ∀ ra rc w6, RowsAt w6 ra (pn + 1) (xs :: L) → Gr w3 w6 → wpList Try.prog ops Q rest (a.put o.dst (.slice ra (pn + 1) rc)) w6) : wpList Try.prog ops Q (o :: rest) a W :=
  wpList_plain hgd fun K hK => cp_append ho hs hx hg hge hgr hi hL h64 (fun ra rc w6 k1 k2 => hK _ _ (h ra rc w6 k1 k2))

set_option maxRecDepth 100000 in
set_option maxHeartbeats 4000000 in
theorem back_any (ta ca a pa : Option Addr) (tn tc cn cc n c pn pc : Nat) (f : Fl) (xs : List Int) (L : List (List Int)) (bu dn : Int) (w : World) (hf : FlAt w ta tn ca cn f) (hx : Ints w a n xs) (hL : RowsAt w pa pn L) (hpc : pn ≤ pc) :
    Calls Try.prog 32 #[.agg #[.slice ta tn tc, .slice ca cn cc], .slice a n c, .slice pa pn pc, .int .i64 bu, .int .i64 dn] w (PlanPost w (backV f xs L bu dn) (backE f xs L bu dn)) := by
  have g1 := Gr.alloc w (.cells #[.slice ta tn tc, .slice ca cn cc] 25)
  have c0 := cell_new (w := w) (t := 25) (cs := #[.slice ta tn tc, .slice ca cn cc]) (j := 0) rfl
  have c1 := cell_new (w := w) (t := 25) (cs := #[.slice ta tn tc, .slice ca cn cc]) (j := 1) rfl
  obtain ⟨w1, hw1⟩ : ∃ w1, w.alloc (.cells #[.slice ta tn tc, .slice ca cn cc] 25) = w1 := ⟨_, rfl⟩
  rw [hw1] at g1 c0 c1
  have HC := Lib.hid (checkPlan_any ta ca a pa tn tc cn cc n c pn pc f xs L bu w1 (hf.gr g1) (hx.gr g1) (hL.gr g1))
  by_cases he : (cpR f xs L bu).2 = 0
  · have heb : ((cpR f xs L bu).2 != 0) = false := by simp [he]
    have HE : Hid (backE f xs L bu dn = (if withinB dn 0 L.length then 0 else 1)) := Lib.hid (by unfold backE; rw [if_pos he])
    have hpl := cpR_pl he
    have HPL := Lib.hid hpl
    have hn1 : 0 < n := by have := hpl.ok.n1; have := hpl.a.len; have := hx.len; omega
    have hn6 : n ≤ 6 := by have := hpl.ok.n6; have := hpl.a.len; have := hx.len; omega
    have hp64 : pn ≤ 64 := by have := hpl.n64; have := hL.len; omega
    have hPN := Lib.hid hL.len
    clear he hpl
    cases hb : withinB dn 0 pn with
    | false =>
      have HP : Hid (backE f xs L bu dn = 1 ∧ backV f xs L bu dn = []) := Lib.hid (by
        have : backE f xs L bu dn = 1 := by rw [HE.out, hL.len, hb]; rfl
        exact ⟨this, by unfold backV; rw [this]; rfl⟩)
      have HWI := Lib.hid (show ∀ W, Calls Try.prog 61 #[.int .i64 dn, .int .i64 0, .int .i64 pn] W fun e w' => e = .returned (.bool false) ∧ W = w' from fun W => hb ▸ within_any dn 0 pn W)
      clear hb
      go_enter Try.func32, Try.ntmps32
      go_wp2_with fail
      refine HC.out.mono ?_
      rintro e w3 ⟨rfl, g3⟩
      go_wp2_with fail
      refine (HWI.out _).mono ?_
      rintro e w' ⟨rfl, rfl⟩
      go_wp2_with fail
      go_ret2
      exact ⟨none, 0, 0, by rw [HP.out.1]; rfl, by rw [HP.out.2]; exact RowsAt.nil _, g1.trans g3, Nat.le_refl _⟩
    | true =>
      obtain ⟨d, rfl, hdp⟩ : ∃ d : Nat, dn = d ∧ d ≤ pn := by
        simp [withinB] at hb
        exact ⟨dn.toNat, by omega, by omega⟩
      have HP : Hid (backE f xs L bu d = 0 ∧ backV f xs L bu d = bk xs L d) := Lib.hid (by
        have : backE f xs L bu d = 0 := by rw [HE.out, hL.len, hb]; rfl
        exact ⟨this, by unfold backV; rw [this]; rfl⟩)
      have HWI := Lib.hid (show ∀ W, Calls Try.prog 61 #[.int .i64 d, .int .i64 0, .int .i64 pn] W fun e w' => e = .returned (.bool true) ∧ W = w' from fun W => hb ▸ within_any d 0 pn W)
      clear hb HE
      go_enter Try.func32, Try.ntmps32
      go_wp2_with fail
      refine HC.out.mono ?_
      rintro e w3 ⟨rfl, g3⟩
      have G3 := g1.trans g3
      have hx3 := hx.gr G3
      have hL3 := hL.gr G3
      clear hw1 c0 c1 HC g1 g3
      have hsl := run_take w3 pa pn pc d (by omega)
      have g4 := Gr.alloc w3 (.cells #[.slice a n c] 26)
      have hg4 := heap_alloc_new w3 (.cells #[.slice a n c] 26)
      have hsl4 := run_take (w3.alloc (.cells #[.slice a n c] 26)) pa pn pc d (by omega)
      have hLd : RowsAt w3 pa d (L.take d) := hL3.take hdp
      go_wp2_with fail
      refine (HWI.out _).mono ?_
      rintro e w' ⟨rfl, rfl⟩
      clear HWI
      go_wp2_with (at_builtin; refine wpList_front rfl rfl rfl rfl hg4 (Nat.le_refl _) g4 hx3 hLd (by omega) ?_; intro ra rc w5 hA g5)
      clear hg4 g4 hsl hsl4 hLd
      go_wp2_with fail
      go_loopw [10, 15] (fun o i wr => ∃ (k : Nat) (Lo : List (List Int)), k ≤ d ∧ i = .int .i64 ((k : Int) - 1) ∧ Gr w5 wr ∧ OutR wr w5.heap.size o Lo ∧ Lo.length = d - k ∧ Hid (Lo ++ bk xs L k = bk xs L d)) (fun _ i _ => (intOf i + 1).toNat)
      case atStart => exact ⟨d, [], Nat.le_refl _, rfl, Gr.refl _, OutR.nil _ _, by simp, Lib.hid rfl⟩
      case round =>
        obtain ⟨k, Lo, hk, rfl, gr, hO, hlo, HT⟩ := hrel
        cases k with
        | zero =>
          have hz : (((0 : Nat) : Int) - 1) = -1 := rfl
          rw [hz]
          have HF : Hid (Lo = backV f xs L bu d) := Lib.hid (by rw [HP.out.2, ← HT.out]; simp [bk])
          clear hz
          go_wp2_with fail
          go_ret2
          rw [← HF.out, HP.out.1]
          exact hO.post ((G3.trans g5).trans gr) (by omega)
        | succ m =>
          have hz : (((m + 1 : Nat) : Int) - 1) = (m : Int) := by omega
          rw [hz]
          obtain ⟨pd, qa, qn, qc, rfl, hpb, hpcell, hqi⟩ := (hA.gr gr).at (j := m) (by omega)
          have hqv : ((xs :: L.take d)[m]?.getD []) = pAt xs L m := by
            unfold pAt
            cases m with
            | zero => rfl
            | succ m => simp only [List.getElem?_cons_succ]; rw [List.getElem?_take_of_lt (by omega)]
          rw [hqv] at hqi
          have hqn : qn = n := by
            have := (HPL.out.at (k := m) (by have := hPN.out; omega)).len
            have := HPL.out.a.len; have := hx.len; have := hqi.len; omega
          subst hqn
          have HT2 : Hid ((Lo ++ [pAt xs L m]) ++ bk xs L m = bk xs L d) := Lib.hid (by rw [← HT.out]; simp [bk])
          generalize pAt xs L m = q at *
          obtain ⟨qd, rfl, _, _⟩ := hqi.at hn1
          have HCN := Lib.hid (clone_any (some qd) qn qc q wr hqi hn1 (by omega))
          have hlc := hqi.len
          clear hqv hz
          go_wp2_with fail
          refine HCN.out.mono ?_
          rintro e w9 ⟨g9, gc, rfl, hge9, hgi, hg9, hg3⟩
          rw [hlc] at hgi ⊢
          have G9 := gr.trans hg9
          have hO9 := hO.gr (hg9.allocR (.cells #[.slice (some ⟨g9, 0, none⟩) qn gc] 26))
          have hy9 := hgi.gr (Gr.alloc w9 (.cells #[.slice (some ⟨g9, 0, none⟩) qn gc] 26))
          have h39 := hg3.gr (Gr.alloc w9 (.cells #[.slice (some ⟨g9, 0, none⟩) qn gc] 26))
          have G10 := G9.allocR (.cells #[.slice (some ⟨g9, 0, none⟩) qn gc] 26)
          have hg10 := heap_alloc_new w9 (.cells #[.slice (some ⟨g9, 0, none⟩) qn gc] 26)
          clear HCN hgi hg3 hg9
          go_wp2_with (at_builtin; refine wpList_push rfl rfl rfl rfl hg10 hO9 G10 hy9 h39 (by omega) ?_; intro v' w11 hO11 G11 _)
          clear hO9 hy9 h39 G10 hg10
          go_wp2_with fail
          go_roundw
          case rel => exact ⟨m, Lo ++ [q], by omega, rfl, G11, hO11, by simp only [List.length_append, List.length_singleton, hlo]; omega, HT2⟩
          case measure => simp [intOf] <;> omega
  · have heb : ((cpR f xs L bu).2 != 0) = true := by simp [he]
    have HP : Hid (backE f xs L bu dn = (cpR f xs L bu).2 ∧ backV f xs L bu dn = []) := Lib.hid (by
      have : backE f xs L bu dn = (cpR f xs L bu).2 := by unfold backE; rw [if_neg he]
      exact ⟨this, by unfold backV; rw [this, if_neg he]⟩)
    clear he
    go_enter Try.func32, Try.ntmps32
    go_wp2_with fail
    refine HC.out.mono ?_
    rintro e w3 ⟨rfl, g3⟩
    go_wp2_with fail
    go_ret2
    exact ⟨none, 0, 0, by rw [HP.out.1]; rfl, by rw [HP.out.2]; exact RowsAt.nil _, g1.trans g3, Nat.le_refl _⟩

set_option maxRecDepth 100000 in
set_option maxHeartbeats 4000000 in
theorem back2_any (ta ca a pa : Option Addr) (tn tc cn cc n c pn pc : Nat) (f : Fl) (xs : List Int) (L : List (List Int)) (bu dn : Int) (w : World) (hf : FlAt w ta tn ca cn f) (hx : Ints w a n xs) (hL : RowsAt w pa pn L) :
    Calls Try.prog 33 #[.agg #[.slice ta tn tc, .slice ca cn cc], .slice a n c, .slice pa pn pc, .int .i64 bu, .int .i64 dn] w (PlanPost w (backV f xs L bu dn) (backE f xs L bu dn)) := by
  have g1 := Gr.alloc w (.cells #[.slice ta tn tc, .slice ca cn cc] 25)
  have c0 := cell_new (w := w) (t := 25) (cs := #[.slice ta tn tc, .slice ca cn cc]) (j := 0) rfl
  have c1 := cell_new (w := w) (t := 25) (cs := #[.slice ta tn tc, .slice ca cn cc]) (j := 1) rfl
  obtain ⟨w1, hw1⟩ : ∃ w1, w.alloc (.cells #[.slice ta tn tc, .slice ca cn cc] 25) = w1 := ⟨_, rfl⟩
  rw [hw1] at g1 c0 c1
  have HC := Lib.hid (checkPlan2_any ta ca a pa tn tc cn cc n c pn pc f xs L bu w1 (hf.gr g1) (hx.gr g1) (hL.gr g1))
  by_cases he : (cpR f xs L bu).2 = 0
  · have heb : ((cpR f xs L bu).2 != 0) = false := by simp [he]
    have HE : Hid (backE f xs L bu dn = (if withinB dn 0 L.length then 0 else 1)) := Lib.hid (by unfold backE; rw [if_pos he])
    have hpl := cpR_pl he
    have HPL := Lib.hid hpl
    have hn1 : 0 < n := by have := hpl.ok.n1; have := hpl.a.len; have := hx.len; omega
    have hn6 : n ≤ 6 := by have := hpl.ok.n6; have := hpl.a.len; have := hx.len; omega
    have hp64 : pn ≤ 64 := by have := hpl.n64; have := hL.len; omega
    have hPN := Lib.hid hL.len
    clear he hpl
    cases hb : withinB dn 0 pn with
    | false =>
      have HP : Hid (backE f xs L bu dn = 1 ∧ backV f xs L bu dn = []) := Lib.hid (by
        have : backE f xs L bu dn = 1 := by rw [HE.out, hL.len, hb]; rfl
        exact ⟨this, by unfold backV; rw [this]; rfl⟩)
      have HWI := Lib.hid (show ∀ W, Calls Try.prog 63 #[.int .i64 dn, .int .i64 0, .int .i64 pn] W fun e w' => e = .returned (.bool false) ∧ W = w' from fun W => hb ▸ within2_any dn 0 pn W)
      clear hb
      go_enter Try.func33, Try.ntmps33
      go_wp2_with fail
      refine HC.out.mono ?_
      rintro e w3 ⟨rfl, g3⟩
      go_wp2_with fail
      refine (HWI.out _).mono ?_
      rintro e w' ⟨rfl, rfl⟩
      go_wp2_with fail
      go_ret2
      exact ⟨none, 0, 0, by rw [HP.out.1]; rfl, by rw [HP.out.2]; exact RowsAt.nil _, g1.trans g3, Nat.le_refl _⟩
    | true =>
      obtain ⟨d, rfl, hdp⟩ : ∃ d : Nat, dn = d ∧ d ≤ pn := by
        simp [withinB] at hb
        exact ⟨dn.toNat, by omega, by omega⟩
      have HP : Hid (backE f xs L bu d = 0 ∧ backV f xs L bu d = bk xs L d) := Lib.hid (by
        have : backE f xs L bu d = 0 := by rw [HE.out, hL.len, hb]; rfl
        exact ⟨this, by unfold backV; rw [this]; rfl⟩)
      have HWI := Lib.hid (show ∀ W, Calls Try.prog 63 #[.int .i64 d, .int .i64 0, .int .i64 pn] W fun e w' => e = .returned (.bool true) ∧ W = w' from fun W => hb ▸ within2_any d 0 pn W)
      clear hb HE
      go_enter Try.func33, Try.ntmps33
      go_wp2_with fail
      refine HC.out.mono ?_
      rintro e w3 ⟨rfl, g3⟩
      have G3 := g1.trans g3
      have hx3 := hx.gr G3
      have hL3 := hL.gr G3
      clear hw1 c0 c1 HC g1 g3
      go_wp2_with fail
      refine (HWI.out _).mono ?_
      rintro e w' ⟨rfl, rfl⟩
      clear HWI
      go_wp2_with fail
      go_loopw [14, 15] (fun o i wr => ∃ (k : Nat) (Lo : List (List Int)), k ≤ d ∧ (k = 0 → d = 0) ∧ i = .int .i64 ((k : Int) - 2) ∧ Gr w3 wr ∧ OutR wr w3.heap.size o Lo ∧ Lo.length = d - k ∧ Hid (Lo ++ bk xs L k = bk xs L d)) (fun _ i _ => (intOf i + 1).toNat)
      case atStart => exact ⟨d, [], Nat.le_refl _, fun h => h, rfl, Gr.refl _, OutR.nil _ _, by simp, Lib.hid rfl⟩
      case round =>
        obtain ⟨k, Lo, hk, hk0, rfl, gr, hO, hlo, HT⟩ := hrel
        match k with
        | 0 =>
          obtain rfl : d = 0 := hk0 rfl
          have hz : (((0 : Nat) : Int) - 2) = -2 := rfl
          rw [hz]
          have HP0 : Hid (backE f xs L bu 0 = 0 ∧ backV f xs L bu 0 = bk xs L 0) := Lib.hid (by have := HP.out; simpa using this)
          have HF : Hid (Lo = backV f xs L bu 0) := Lib.hid (by rw [HP0.out.2, ← HT.out]; simp [bk])
          have hd0 : ¬ (0 : Int) < ((0 : Nat) : Int) := by omega
          clear hz hk0
          go_wp2_with fail
          go_ret2
          rw [← HF.out, HP0.out.1]
          exact hO.post (G3.trans gr) (by omega)
        | 1 =>
          have hz : (((1 : Nat) : Int) - 2) = -1 := rfl
          rw [hz]
          have hd0 : (0 : Int) < (d : Int) := by omega
          have HF : Hid (Lo ++ [xs] = backV f xs L bu d) := Lib.hid (by rw [HP.out.2, ← HT.out]; simp [bk, pAt])
          have hxr := hx3.gr gr
          clear hz hk0
          go_wp2_with (first | (at_builtin; refine wpList_copy rfl rfl rfl rfl hxr hn1 (by omega) ?_; intro g8 gc w9 hgi hg3 hge9 hg9; have G9 := gr.trans hg9; have hO9 := hO.gr (hg9.allocR (.cells #[.slice (some ⟨g8, 0, none⟩) n gc] 26)); have hy9 := hgi.gr (Gr.alloc w9 (.cells #[.slice (some ⟨g8, 0, none⟩) n gc] 26)); have h39 := hg3.gr (Gr.alloc w9 (.cells #[.slice (some ⟨g8, 0, none⟩) n gc] 26)); have G10 := G9.allocR (.cells #[.slice (some ⟨g8, 0, none⟩) n gc] 26); have hg10 := heap_alloc_new w9 (.cells #[.slice (some ⟨g8, 0, none⟩) n gc] 26); clear hgi hg3 hg9) | (at_builtin; refine wpList_push rfl rfl rfl rfl hg10 hO9 G10 hy9 h39 (by omega) ?_; intro v' w11 hO11 G11 _))
          clear hO9 hy9 h39 G10 hg10
          go_wp2_with fail
          go_ret2
          rw [← HF.out, HP.out.1]
          exact hO11.post (G3.trans G11) (by simp; omega)
        | m + 2 =>
          have hz : (((m + 2 : Nat) : Int) - 2) = (m : Int) := by omega
          rw [hz]
          obtain ⟨pd, qa, qn, qc, rfl, hpb, hpcell, hqi⟩ := (hL3.gr gr).at (j := m) (by omega)
          have hqv : (L[m]?.getD []) = pAt xs L (m + 1) := by simp [pAt]
          rw [hqv] at hqi
          have hqn : qn = n := by
            have := (HPL.out.at (k := m + 1) (by have := hPN.out; omega)).len
            have := HPL.out.a.len; have := hx.len; have := hqi.len; omega
          subst hqn
          have HT2 : Hid ((Lo ++ [pAt xs L (m + 1)]) ++ bk xs L (m + 1) = bk xs L d) := Lib.hid (by rw [← HT.out]; simp [bk])
          generalize pAt xs L (m + 1) = q at *
          have hm1 : (((m + 1 : Nat) : Int) - 2) = (m : Int) - 1 := by omega
          have HM1 := Lib.hid hm1
          clear hqv hz hk0 hm1
          go_wp2_with (first | (at_builtin; refine wpList_copy rfl rfl rfl rfl hqi hn1 (by omega) ?_; intro g8 gc w9 hgi hg3 hge9 hg9; have G9 := gr.trans hg9; have hO9 := hO.gr (hg9.allocR (.cells #[.slice (some ⟨g8, 0, none⟩) qn gc] 26)); have hy9 := hgi.gr (Gr.alloc w9 (.cells #[.slice (some ⟨g8, 0, none⟩) qn gc] 26)); have h39 := hg3.gr (Gr.alloc w9 (.cells #[.slice (some ⟨g8, 0, none⟩) qn gc] 26)); have G10 := G9.allocR (.cells #[.slice (some ⟨g8, 0, none⟩) qn gc] 26); have hg10 := heap_alloc_new w9 (.cells #[.slice (some ⟨g8, 0, none⟩) qn gc] 26); clear hgi hg3 hg9) | (at_builtin; refine wpList_push rfl rfl rfl rfl hg10 hO9 G10 hy9 h39 (by omega) ?_; intro v' w11 hO11 G11 _))
          clear hO9 hy9 h39 G10 hg10
          go_wp2_with fail
          go_roundw
          case rel => exact ⟨m + 1, Lo ++ [q], by omega, fun h => by omega, by rw [HM1.out], G11, hO11, by simp only [List.length_append, List.length_singleton, hlo]; omega, HT2⟩
          case measure => simp [intOf] <;> omega
  · have heb : ((cpR f xs L bu).2 != 0) = true := by simp [he]
    have HP : Hid (backE f xs L bu dn = (cpR f xs L bu).2 ∧ backV f xs L bu dn = []) := Lib.hid (by
      have : backE f xs L bu dn = (cpR f xs L bu).2 := by unfold backE; rw [if_neg he]
      exact ⟨this, by unfold backV; rw [this, if_neg he]⟩)
    clear he
    go_enter Try.func33, Try.ntmps33
    go_wp2_with fail
    refine HC.out.mono ?_
    rintro e w3 ⟨rfl, g3⟩
    go_wp2_with fail
    go_ret2
    exact ⟨none, 0, 0, by rw [HP.out.1]; rfl, by rw [HP.out.2]; exact RowsAt.nil _, g1.trans g3, Nat.le_refl _⟩
end
section
open Go.RowKit

theorem Try.info46 : (Try.prog.info? 46).map (fun i => (i.zero, i.size, i.bytes)) = some (some (.agg #[.int .i64 0, .int .i64 0, .string ⟨#[]⟩, .int .i64 0]), 4, 40) := by kernel_rfl
/-- a packet -/
structure Pk where
  c : Int
  v : Int
  data : ByteArray
  tg : Int
instance : Inhabited Pk := ⟨⟨0, 0, ⟨#[]⟩, 0⟩⟩
def Pk.val (p : Pk) : Value := .agg #[.int .i64 p.c, .int .i64 p.v, .string p.data, .int .i64 p.tg]

def PkAt (w : World) (a : Option Addr) (n : Nat) (P : List Pk) : Prop :=
  P.length = n ∧ n < 1152921504606846976 ∧ ∀ j, j < n → ∃ ad, a = some ad ∧ ad.block < w.heap.size ∧ (P[j]?.getD default).data.size < 1152921504606846976 ∧
    w.cell? (ad.add (j * 4)) = some (.int .i64 (P[j]?.getD default).c) ∧ w.cell? ⟨(ad.add (j * 4)).block, (ad.add (j * 4)).off + 1, none⟩ = some (.int .i64 (P[j]?.getD default).v) ∧
    w.cell? ⟨(ad.add (j * 4)).block, (ad.add (j * 4)).off + 2, none⟩ = some (.string (P[j]?.getD default).data) ∧ w.cell? ⟨(ad.add (j * 4)).block, (ad.add (j * 4)).off + 3, none⟩ = some (.int .i64 (P[j]?.getD default).tg)
theorem PkAt.len {w : World} {a : Option Addr} {n : Nat} {P : List Pk} (h : PkAt w a n P) : P.length = n := h.1
theorem PkAt.lt {w : World} {a : Option Addr} {n : Nat} {P : List Pk} (h : PkAt w a n P) : n < 1152921504606846976 := h.2.1
theorem PkAt.at {w : World} {a : Option Addr} {n : Nat} {P : List Pk} (h : PkAt w a n P) {j : Nat} (hj : j < n) : ∃ ad, a = some ad ∧ ad.block < w.heap.size ∧ (P[j]?.getD default).data.size < 1152921504606846976 ∧
    w.cell? (ad.add (j * 4)) = some (.int .i64 (P[j]?.getD default).c) ∧ w.cell? ⟨(ad.add (j * 4)).block, (ad.add (j * 4)).off + 1, none⟩ = some (.int .i64 (P[j]?.getD default).v) ∧
    w.cell? ⟨(ad.add (j * 4)).block, (ad.add (j * 4)).off + 2, none⟩ = some (.string (P[j]?.getD default).data) ∧ w.cell? ⟨(ad.add (j * 4)).block, (ad.add (j * 4)).off + 3, none⟩ = some (.int .i64 (P[j]?.getD default).tg) := h.2.2 j hj
theorem PkAt.gr {w w' : World} {a : Option Addr} {n : Nat} {P : List Pk} (h : PkAt w a n P) (g : Gr w w') : PkAt w' a n P :=
  ⟨h.1, h.2.1, fun j hj => by
    obtain ⟨ad, e, hb, hd, h0, h1, h2, h3⟩ := h.2.2 j hj
    exact ⟨ad, e, Nat.lt_of_lt_of_le hb g.size, hd, (g.cell (lt_cell h0)).trans h0, (g.cell (lt_cell h1)).trans h1, (g.cell (lt_cell h2)).trans h2, (g.cell (lt_cell h3)).trans h3⟩⟩
theorem PkAt.take {w : World} {a : Option Addr} {n : Nat} {P : List Pk} (h : PkAt w a n P) {d : Nat} (hd : d ≤ n) : PkAt w a d (P.take d) := by
  refine ⟨by have := h.len; simp; omega, by have := h.lt; omega, fun j hj => ?_⟩
  rw [List.getElem?_take_of_lt hj]
  exact h.at (j := j) (by omega)

/-- a block of the call's own that begins with these numbers -/
def OwnS (w : World) (g n : Nat) (xs : List Int) : Prop := xs.length = n ∧ n < 1152921504606846976 ∧ ∃ rest : List Value, w.heap[g]? = some (.cells (xs.map (Value.int .i64) ++ rest).toArray 3 (0, 0))
theorem OwnS.gr {w w' : World} {g n : Nat} {xs : List Int} (h : OwnS w g n xs) (k : Gr w w') : OwnS w' g n xs := by
  obtain ⟨h1, h2, rest, h3⟩ := h
  refine ⟨h1, h2, rest, ?_⟩
  have hlt := (Array.getElem?_eq_some_iff.1 h3).1
  have := (k.only (fun _ => False)).block g hlt (fun h => h)
  rw [this]; exact h3
theorem addr_add0 (g j : Nat) : (⟨g, 0, none⟩ : Addr).add j = ⟨g, j, none⟩ := by
  unfold Addr.add; split
  · subst_vars; rfl
  · simp
theorem OwnS.ints {w : World} {g n : Nat} {xs : List Int} (h : OwnS w g n xs) : Ints w (some ⟨g, 0, none⟩) n xs := by
  obtain ⟨h1, h2, rest, h3⟩ := h
  refine ⟨h1, h2, fun j hj => ⟨_, rfl, (Array.getElem?_eq_some_iff.1 h3).1, ?_⟩⟩
  rw [addr_add0]
  refine cell_at h3 ?_
  have hj1 : j < xs.length := by omega
  simp [List.getElem?_append, hj1]
theorem OwnS.lt {w : World} {g n : Nat} {xs : List Int} (h : OwnS w g n xs) : g < w.heap.size := by
  obtain ⟨_, _, rest, h3⟩ := h
  exact (Array.getElem?_eq_some_iff.1 h3).1
theorem OwnS.free {w : World} {g n : Nat} {xs : List Int} (h : OwnS w g n xs) (j : Nat) : w.frozen? ⟨g, j, none⟩ = false := by
  obtain ⟨_, _, rest, h3⟩ := h
  unfold World.frozen?
  simp [h3]
theorem OwnS.cell {w : World} {g n : Nat} {xs : List Int} (h : OwnS w g n xs) {j : Nat} (hj : j < n) : w.cell? ⟨g, j, none⟩ = some (.int .i64 (xs[j]?.getD 0)) := by
  obtain ⟨ad, e, _, hc⟩ := h.ints.at hj
  cases e
  rw [addr_add0] at hc; exact hc
theorem OwnS.set {w : World} {g n : Nat} {xs : List Int} (h : OwnS w g n xs) {j : Nat} (hj : j < n) (x : Int) : OwnS (w.setCell ⟨g, j, none⟩ (.int .i64 x)) g n (xs.set j x) := by
  obtain ⟨h1, h2, rest, h3⟩ := h
  refine ⟨by simp [h1], h2, rest, ?_⟩
  have hj1 : j < xs.length := by omega
  rw [heap_setCell_same w g j _ 3 _ h3]
  congr 2
  simp [List.set_append, hj1, List.map_set]

/-- Install: the rounds. done: the packets before, r: the rest, cur: the state so far -/
def instL (f : Fl) (se : Int) (s : List Int) : List Pk → List Pk → List Int → Int × Int × List Int
  | _, [], cur => (0, 0, cur)
  | done, p :: r, cur => if acceptE f se p.c p.v p.data p.tg = 0 then (if done.any (fun q => q.c == p.c) then (done.length, 1, []) else if p.v ≤ s[p.c.toNat]?.getD 0 then (done.length, 112, []) else instL f se s (done ++ [p]) r (cur.set p.c.toNat p.v)) else (done.length, acceptE f se p.c p.v p.data p.tg, [])
/-- what Install returns: the state, the packet, the error -/
def instR (f : Fl) (se : Int) (s : List Int) (P : List Pk) : List Int × Int × Int :=
  if statesE f [s] = 0 then (if withinB P.length 1 f.times.length then (if (instL f se s [] P s).2.1 = 0 then (if worksB f s && worksB f (instL f se s [] P s).2.2 then ((instL f se s [] P s).2.2, 0, 0) else ([], 0, 111)) else ([], (instL f se s [] P s).1, (instL f se s [] P s).2.1)) else ([], 0, 1)) else ([], 0, statesE f [s])
/-- what a state's function returns -/
def InstPost (w : World) (r : List Int × Int × Int) (e : Ending) (w' : World) : Prop := ∃ a n c, e = .returned (.tuple #[.slice a n c, .int .i64 r.2.1, .int .i64 r.2.2]) ∧ Ints w' a n r.1 ∧ Gr w w'

theorem anyP_hit {l : List Pk} {p : Pk → Bool} {k : Nat} (hk : k < l.length) (h : p (l[k]?.getD default) = true) : l.any p = true := by
  rw [List.any_eq_true]; exact ⟨l[k], List.getElem_mem hk, by simpa [hk] using h⟩
theorem anyP_none {l : List Pk} {p : Pk → Bool} (h : ∀ j, j < l.length → p (l[j]?.getD default) = false) : l.any p = false := by
  rw [List.any_eq_false]; intro x hx
  obtain ⟨j, hj, rfl⟩ := List.getElem_of_mem hx
  have := h j hj
  simpa [hj] using this

set_option maxHeartbeats 1000000 in
theorem inst1_any (p : Pk) (B : Nat) (x : Int) (w : World) (hc : w.cell? ⟨B, 0, none⟩ = some (.int .i64 x)) :
    Calls Try.prog 74 #[.agg #[.int .i64 p.c, .int .i64 p.v, .string p.data, .int .i64 p.tg], .pointer (some ⟨B, 0, none⟩)] w fun e w' => e = .returned (.bool (p.c == x)) ∧ Gr w w' := by
  have hg := Gr.alloc w (.cells #[.int .i64 p.c, .int .i64 p.v, .string p.data, .int .i64 p.tg] 46)
  have hc1 := (hg.cell (lt_cell hc)).trans hc
  go_enter Try.func74, Try.ntmps74
  go_wp2
  go_ret
  exact ⟨rfl, hg⟩

set_option maxHeartbeats 1000000 in
theorem indexFunc74 (a : Option Addr) (n c B : Nat) (P : List Pk) (x : Int) (w : World) (hP : PkAt w a n P) (hc : w.cell? ⟨B, 0, none⟩ = some (.int .i64 x)) :
    Calls Try.prog 94 #[.slice a n c, .func (.func 74) #[] #[.pointer (some ⟨B, 0, none⟩)]] w (IdxPost (P.any fun q => q.c == x) w) := by
  have hn := hP.lt
  go_enter Try.func94, Try.ntmps94
  go_wp2
  go_loopw [8] (fun i wr => ∃ k : Nat, k ≤ n ∧ i = .int .i64 k ∧ Gr w wr ∧ Hid (∀ j, j < k → ((P[j]?.getD default).c == x) = false)) (fun i _ => n - (intOf i).toNat)
  case atStart => exact ⟨0, Nat.zero_le _, rfl, Gr.refl _, Lib.hid (by intros; omega)⟩
  case round =>
    obtain ⟨k, hk, rfl, hg, hall⟩ := hrel
    by_cases hlt : k < n
    · obtain ⟨aa, rfl, hab, hds, c0, c1, c2, c3⟩ := (hP.gr hg).at hlt
      have hcon := inst1_any (P[k]?.getD default) B x wr ((hg.cell (lt_cell hc)).trans hc)
      have HCON := Lib.hid hcon
      clear hcon
      cases hb : ((P[k]?.getD default).c == x) with
      | true =>
        rw [hb] at HCON
        go_wp2_with (go_at_call 74; refine HCON.out.mono ?_; rintro e w' ⟨rfl, hg2⟩)
        go_ret
        exact ⟨k, rfl, by rw [anyP_hit (p := fun q => q.c == x) (by rw [hP.len]; exact hlt) hb]; simp, hg.trans hg2⟩
      | false =>
        rw [hb] at HCON
        go_wp2_with (go_at_call 74; refine HCON.out.mono ?_; rintro e w' ⟨rfl, hg2⟩)
        go_roundw
        case rel => exact ⟨k + 1, by omega, by go_num, hg.trans hg2, Lib.hid (fun j hj => by
          by_cases e : j = k
          · subst e; exact hb
          · exact hall.out j (by omega))⟩
        case measure => simp [intOf]; omega
    · obtain rfl : k = n := by omega
      go_wp2
      go_ret
      exact ⟨-1, rfl, by rw [anyP_none (p := fun q => q.c == x) (fun j hj => hall.out j (by rw [← hP.len]; exact hj))]; simp, hg⟩

theorem run_take53 (w : World) (pa : Option Addr) (n c k : Nat) (hk : k ≤ c) : (Instr.slice 53 (.slice pa n c) none (some (.int .i64 k)) none).run Try.prog w = .ok (.slice pa k c) w := by
  have hu := Try.underlying53
  have ha : ∀ a : Addr, a.add 0 = a := fun a => by unfold Addr.add; rfl
  have hm : pa.map (fun a => a.add 0) = pa := by cases pa <;> simp [ha]
  have h1 : (0 : Int) ≤ k ∧ (k : Int) ≤ c := by omega
  obtain ⟨i0, hi, hz0, hz1, hz2⟩ := info_parts Try.info46
  simp [Instr.slice, Instr.sliceBounds, Instr.sliceBound, underlying, hu, sizeOf, hi, hz1, asIntOf, h1, hm, go_sem]
  intro h; omega

theorem containsFunc74 (a : Option Addr) (n c B : Nat) (P : List Pk) (x : Int) (w : World) (hP : PkAt w a n P) (hc : w.cell? ⟨B, 0, none⟩ = some (.int .i64 x)) :
    Calls Try.prog 73 #[.slice a n c, .func (.func 74) #[] #[.pointer (some ⟨B, 0, none⟩)]] w fun e w' => e = .returned (.bool (P.any fun q => q.c == x)) ∧ Gr w w' := by
  go_enter Try.func73, Try.ntmps73
  go_wp2_with (go_at_call 94; refine (indexFunc74 _ _ _ _ _ _ _ hP hc).mono ?_; rintro e w' ⟨r, rfl, hr, hg⟩)
  go_ret
  exact ⟨rfl, by assumption⟩
theorem own_of_row {w : World} {base : Nat} {v : Value} {n : Nat} {xs : List Int} (hl : xs.length = n) (hn : n < 1152921504606846976) (h : w.ownsRow base 3 1 v n (xs.map (Value.int .i64))) (h0 : 0 < n) :
    ∃ g c, v = .slice (some ⟨g, 0, none⟩) n c ∧ base ≤ g ∧ n ≤ c ∧ OwnS w g n xs := by
  rcases h.2 with ⟨_, h1⟩ | ⟨g, cap, cur, rfl, hb, hg, hnc, _, _, ht⟩
  · omega
  · refine ⟨g, cap, rfl, hb, hnc, hl, hn, cur.toList.drop (n * 1), ?_⟩
    rw [← ht, List.take_append_drop]; exact hg
def NewOwn (w : World) (n : Nat) (xs : List Int) (e : Ending) (w' : World) : Prop := ∃ g c, e = .returned (.slice (some ⟨g, 0, none⟩) n c) ∧ w.heap.size ≤ g ∧ n ≤ c ∧ OwnS w' g n xs ∧ Gr w w'
set_option maxHeartbeats 1000000 in
theorem cloneOwn_any (a : Option Addr) (n c : Nat) (xs : List Int) (w : World) (hx : Ints w a n xs) (h0 : 0 < n) (hn : n ≤ 1000000) : Calls Try.prog 51 #[.slice a n c] w (NewOwn w n xs) := by
  obtain ⟨ad, rfl, hab, _⟩ := hx.at h0
  obtain ⟨i0, hi, hz0, hz1, hz2⟩ := info_parts Try.info3
  have hnil := fun w a n c => Lib.run_eql_slice_nil (P := Try.prog) w 26 3 a n c 0 0 Try.underlying26
  have hg := Gr.alloc w (.cells #[] 3)
  have hxg := hx.gr hg
  have hown : (w.alloc (.cells #[] 3)).ownsRow w.heap.size 3 1 (.slice (some ⟨w.heap.size, 0, none⟩) 0 0) 0 [] := ⟨rfl, .inr ⟨w.heap.size, 0, #[], rfl, Nat.le_refl _, heap_alloc_new w _, Nat.le_refl _, by unfold maxLen; omega, rfl, rfl⟩⟩
  have HOWN := Lib.hid hown
  clear hown
  go_enter Try.func51, Try.ntmps51
  go_wp2_with (at_builtin; refine wpList_append_own _ rfl _ _ 26 rfl w.heap.size 3 i0 (.int .i64 0) 1 8 Try.underlying26 hi hz0 hz1 hz2 rfl (by decide) _ _ _ rfl HOWN.out ad n c (xs.map (Value.int .i64)) rfl (by rw [List.length_map, hx.len, Nat.mul_one]) hxg.cells (ints_one xs) (by unfold maxLen; omega) (by omega) (by simp) ?_; intro v' w1 hown' hgrow _)
  have hown2 : w1.ownsRow w.heap.size 3 1 v' n (xs.map (Value.int .i64)) := by simpa using hown'
  obtain ⟨g, c', rfl, hge, hnc, how⟩ := own_of_row hx.len (by omega) hown2 h0
  go_wp2
  go_ret
  have hgr : Gr w w1 := Below.grown hg hgrow (Gr.size hg) (fun k hk => by cases hk; exact Nat.le_refl _)
  exact ⟨g, c', rfl, hge, hnc, how, hgr⟩
/-- 'append([]int(nil), xs...)' of some numbers: a block of the call's own -/
theorem wpList_copyOwn {ops : Array Oper} {rest : List Oper} {o : Oper} {a : Act} {W : World} {Q : Exit → Act → World → Prop} (hgd : o.guard = none) {s x : Operand} {sa : Option Addr} {n c : Nat} {y : List Int}
    (ho : o.op = .call { callee := .builtin .append, args := #[s, x], argTypes := #[26, 26] }) (hs : a.eval s = .slice none 0 0) (hx : a.eval x = .slice sa n c) (hy : Ints W sa n y) (h0 : 0 < n) (hn : n ≤ 1000000)
    (h : ∀ g c' w', OwnS w' g n y → n ≤ c' → W.heap.size ≤ g → Gr W w' → wpList Try.prog ops Q rest (a.put o.dst (.slice (some ⟨g, 0, none⟩) n c')) w') : wpList Try.prog ops Q (o :: rest) a W := by
  refine wpList_plain hgd fun K hK => ?_
  obtain ⟨ad, rfl, hab, _⟩ := hy.at h0
  obtain ⟨i0, hi, hz0, hz1, hz2⟩ := info_parts Try.info3
  refine wp_append_own W s x 26 ho W.heap.size 3 i0 (.int .i64 0) 1 8 Try.underlying26 hi hz0 hz1 hz2 rfl (by decide) _ 0 [] hs (World.ownsRow_nil W _ 3 1) ad n c (y.map (Value.int .i64)) hx (by rw [List.length_map, hy.len, Nat.mul_one]) hy.cells (ints_one y) (by unfold maxLen; omega) (by omega) (Nat.le_refl _) (fun v' w' hown' hgrow _ => ?_)
  have hown2 : w'.ownsRow W.heap.size 3 1 v' n (y.map (Value.int .i64)) := by simpa using hown'
  obtain ⟨g, c', rfl, hge, hnc, how⟩ := own_of_row hy.len (by omega) hown2 h0
  exact hK _ _ (h g c' w' how hnc hge ((only_grown hgrow).gr (fun i hi e => by simp [Value.ownBlock] at e)))
end
end Go.Proofs.Ytlilojpnhmfnaaa
