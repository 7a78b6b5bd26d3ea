/- Several texts of this claim in one file. (1) A range over a function whose variable lies in memory. Nothing of the program is proved here. (2) More operations for the walk by lemmas. Nothing of the program is proved here. (3) Closed facts about the types. (4) The play of a cluster in plain words, and the cells that hold its state. Nothing of the program is proved here. (5) Which clusters, ticks and nudges are valid, in plain words. Nothing of the program is proved here. (6) Contracts: within; bit. (7) A call of yield as an operation; what an iterator over nudges stands on. Nothing of the program is proved here. (8) Contracts: slices.Index, slices.Contains, at. (9) Contract: the iterator over the nudges of some kinds in a tick. (10) A range over the nudges of some kinds in a tick. (11) Slices of a call's own that grow. Nothing of the program is proved here. (12) A play in memory; what its steps keep. -/
import Derived.Test.YtoalamakhjbedaaBd1
import Derived.Test.YtoalamakhjbedaaProg
import Derived.Shelf.Abstract
import Derived.Maps.AppendAt
namespace Go.Proofs.Ytoalamakhjbedaa
set_option linter.unusedSimpArgs false
set_option linter.unusedVariables false
section
set_option linter.unusedVariables false
open Go.RowKit
theorem Only.step {S : Nat → Prop} {a b c : World} {r : Nat} (h : Only S a b) (k : Only (fun x => x = r) b c) (hr : S r ∨ a.heap.size ≤ r) : Only S a c :=
  ⟨k.os.trans h.os, k.tape.trans h.tape, k.output.trans h.output, Nat.le_trans h.size k.size, fun i hi hn => by
    have h1 := h.size
    refine (k.block i (by omega) (fun e => ?_)).trans (h.block i hi hn)
    subst e
    rcases hr with hr | hr
    · exact hn hr
    · omega⟩
theorem Only.step2 {S T : Nat → Prop} {a b c : World} (h : Only S a b) (k : Only T b c) (hr : ∀ r, T r → S r ∨ a.heap.size ≤ r) : Only S a c :=
  ⟨k.os.trans h.os, k.tape.trans h.tape, k.output.trans h.output, Nat.le_trans h.size k.size, fun i hi hn => by
    have h1 := h.size
    refine (k.block i (by omega) (fun e => ?_)).trans (h.block i hi hn)
    rcases hr i e with hr | hr
    · exact hn hr
    · omega⟩
theorem RCells.only {S : Nat → Prop} {w w' : World} {L : List (Addr × Value)} (h : RCells w L) (g : Only S w w') (hn : ∀ p ∈ L, ¬ S p.1.block) : RCells w' L := fun p hp => g.cell (h p hp) (hn p hp)
/-- **A RANGE OVER A FUNCTION.** D: the heap's size where the loop begins. -/
theorem range_rule3 {P : Program} {α : Type} {g : Operand} {ps : Array Tmp} {assign body : Code} {Q : Exit → Act → World → Prop} {a : Act} {w : World} {gf : Nat} {lb : Array Value}
    (hg : a.eval g = .func (.func gf) #[] lb) (eg : ∀ args w, (callFunc gf args).run P w = .ok (.enter gf args) w)
    (I : List α → World → Prop) (Ix : Code → World → Prop) (Y : Nat → Prop) (E : List α → α → Array Value → World → Prop) (S : List α → Prop) (Asg : α → Act → World → Prop) (B : List α → α → World → Prop)
    (hIg : ∀ xs W W', I xs W → Gr W W' → I xs W') (hAp : ∀ x A1 W o, Asg x A1 W → Asg x A1 (W.putObj (w.heap.size + 1) (.loop o))) (hEB : ∀ pre x args W, E pre x args W → B pre x W) (hBo : ∀ pre x W W', B pre x W → Only (fun b => w.heap.size ≤ b) W W' → B pre x W')
    (hY0 : ¬ Y w.heap.size) (hY1 : ¬ Y (w.heap.size + 1))
    (hI : ∀ xs W o, I xs W → I xs (W.putObj (w.heap.size + 1) (.loop o))) (hIx : ∀ c W o, Ix c W → Ix c (W.putObj (w.heap.size + 1) (.loop o)))
    (hEs : ∀ pre x args W, E pre x args W → args.size = ps.size) (hEp : ∀ pre x args W o, E pre x args W → E pre x args (W.putObj (w.heap.size + 1) (.loop o)))
    (h0 : I [] w) (hIa : ∀ xs W o, I xs W → I xs (W.alloc o))
    (hassign : ∀ (l : Nat) (pre : List α) (x : α) (args : Array Value) (W : World) (K : Act → World → Prop), w.heap.size + 1 < W.heap.size → E pre x args W → (∀ A1 W1, Gr W W1 → Asg x A1 W1 → K A1 W1) →
      assign.wpIn (Fence.wide.inRound l) 0 P (Exit.then K (fun _ _ _ => False)) { tmps := (ps.zip args).foldl (fun t (p, v) => t.setIfInBounds p v) a.tmps, defers := [] } W)
    (hbody : ∀ (pre : List α) (x : α) (W : World) (A1 : Act), I pre W → B pre x W → Asg x A1 W → w.heap.size + 1 < W.heap.size → body.wpIn (Fence.wide.inRound (w.heap.size + 1)) 0 P (roundQ Y I Ix (pre ++ [x]) W) A1 W)
    (hiter : ∀ (L : Loop), L.state = .ready → L.pending = none →
      (∀ pre x args W, Between w.heap.size L I pre W → E pre x args W → YieldAt Fence.wide 0 P (w.heap.size + 1) args W fun e W' =>
        (e = .returned (.bool true) ∧ Between w.heap.size L I (pre ++ [x]) W' ∧ Only Y W W') ∨ (e = .returned (.bool false) ∧ Left w.heap.size L Ix W')) →
      Between w.heap.size L I [] ((w.alloc (.deferred (some []))).alloc (.loop L)) →
      CallsIn Fence.wide 0 P gf (#[.func (.yield (w.heap.size + 1)) #[] #[]] ++ lb) ((w.alloc (.deferred (some []))).alloc (.loop L)) fun e W' =>
        (∃ v, e = .returned v) ∧ ((∃ xs, S xs ∧ Between w.heap.size L I xs W') ∨ Left w.heap.size L Ix W'))
    (hdone : ∀ (xs : List α) (W : World), S xs → I xs W → W.heap[w.heap.size]? = some (.deferred (some [])) → Q .normal { a with defers := { target := .collected w.heap.size, args := #[] } :: a.defers } W)
    (hstop : ∀ (c : Code) (W : World), Ix c W → W.heap[w.heap.size]? = some (.deferred (some [])) → c.wpIn Fence.wide 0 P Q { a with defers := { target := .collected w.heap.size, args := #[] } :: a.defers } W) :
    (Code.rangeFunc g ps assign body).wp P Q a w := by
  refine (wpIn_wide (n := 0)).1 ?_
  refine wpIn_rangeFunc ?_
  intro fn hfn
  obtain ⟨L, hL⟩ : ∃ L : Loop, L = { state := .ready, pending := none, fn, tmps := a.tmps, params := ps, assign, body, defers := w.heap.size } := ⟨_, rfl⟩
  obtain ⟨W1, hW1⟩ : ∃ W1, (w.alloc (.deferred (some []))).alloc (.loop L) = W1 := ⟨_, rfl⟩
  have hL1 : W1.heap[w.heap.size + 1]? = some (.loop L) := by
    rw [← hW1]; have := World.alloc_heap_new (w.alloc (.deferred (some []))) (.loop L); rwa [World.size_alloc] at this
  have hK1 : W1.heap[w.heap.size]? = some (.deferred (some [])) := by
    rw [← hW1]; exact (Below.heap_alloc _ _ _ (by simp)).trans (World.alloc_heap_new w _)
  have hI1 : I [] W1 := by rw [← hW1]; exact hIa _ _ _ (hIa _ _ _ h0)
  refine ⟨w.heap.size + 1, [{ target := .collected w.heap.size, args := #[] }], W1, { target := .fn (.func gf) lb, args := #[.func (.yield (w.heap.size + 1)) #[] #[]] }, W1, gf,
    #[.func (.yield (w.heap.size + 1)) #[] #[]] ++ lb, W1, ?_, ?_, fun _ _ => trivial, ?_, fun h => by simp [Fence.wide] at h, ?_⟩
  · rw [← hW1, hL]; exact run_enterLoop_outer _ _ _ _ _
  · simp only [resolve, hg]
    simp [go_sem]
  · simp [invoke, go_sem, eg]
  · have hit := hiter L (by rw [hL]) (by rw [hL])
    rw [hW1] at hit
    refine (hit ?_ ⟨hI1, hL1, hK1⟩).mono ?_
    · rintro pre x args W ⟨hi, hl, hk⟩ hE
      have hlt : w.heap.size + 1 < W.heap.size := (Array.getElem?_eq_some_iff.1 hl).1
      have hy := run_yield (P := P) (args := args) hl (by rw [hL]; exact hEs pre x args W hE)
      rw [hL] at hy
      refine ⟨fn, _, assign, body, hy, roundIn_of_wpIn (F := Fence.wide) trivial (hassign _ pre x args W _ hlt hE (fun A1 W1 g1 hAsg => ?_))⟩
      have hl1 : W1.heap[w.heap.size + 1]? = some (.loop L) := (g1.below.block _ hlt).trans hl
      have hlt1 : w.heap.size + 1 < W1.heap.size := Nat.lt_of_lt_of_le hlt g1.size
      have hk1 : W1.heap[w.heap.size]? = some (.deferred (some [])) := (g1.below.block _ (by omega)).trans hk
      have hi1 : I pre W1 := hIg _ _ _ hi g1
      have hB1 : B pre x W1 := hBo _ _ _ _ (hEB _ _ _ _ hE) (g1.only _)
      refine ⟨_, run_beginRound hl1 (by rw [hL]), ?_⟩
      have hl2 : (W1.putObj (w.heap.size + 1) (.loop { L with state := .busy })).heap[w.heap.size + 1]? = some (.loop { L with state := .busy }) := World.putObj_heap_same hlt1
      have hk2 : (W1.putObj (w.heap.size + 1) (.loop { L with state := .busy })).heap[w.heap.size]? = some (.deferred (some [])) := (World.putObj_heap_other (by omega)).trans hk1
      have hsz2 : (W1.putObj (w.heap.size + 1) (.loop { L with state := .busy })).heap.size = W1.heap.size := by simp
      refine wpIn_mono (hbody pre x _ A1 (hI _ _ _ hi1) (hBo _ _ _ _ hB1 ((putObj_only _ _ _).mono' (fun i e => by omega))) (hAp _ _ _ _ hAsg) (by rw [hsz2]; exact hlt1)) ?_
      have hrest : ∀ (W3 : World) (o : Loop), Only Y (W1.putObj (w.heap.size + 1) (.loop { L with state := .busy })) W3 → (W3.putObj (w.heap.size + 1) (.loop o)).heap[w.heap.size]? = some (.deferred (some [])) := fun W3 o ho =>
        (World.putObj_heap_other (by omega)).trans ((ho.block _ (by rw [hsz2]; omega) hY0).trans hk2)
      have hl3 : ∀ (W3 : World), Only Y (W1.putObj (w.heap.size + 1) (.loop { L with state := .busy })) W3 → W3.heap[w.heap.size + 1]? = some (.loop { L with state := .busy }) := fun W3 ho =>
        (ho.block _ (by rw [hsz2]; omega) hY1).trans hl2
      rintro e a3 W3 hp
      cases e with
      | normal =>
        obtain ⟨ho, hi3⟩ := hp
        have hl4 := hl3 W3 ho
        have hlt4 : w.heap.size + 1 < W3.heap.size := (Array.getElem?_eq_some_iff.1 hl4).1
        have hrun := run_endRound (P := P) none hl4
        have hLL : ({ ({ L with state := .busy } : Loop) with state := if (none : Option Code).isNone then .ready else .done, pending := none } : Loop) = L := by rw [hL]; rfl
        rw [hLL] at hrun
        refine ⟨_, _, hrun, .inl ⟨rfl, ⟨hI _ _ _ hi3, World.putObj_heap_same hlt4, hrest W3 L ho⟩, ?_⟩⟩
        refine (g1.only Y).trans ⟨ho.os, ho.tape, ho.output, by have := ho.size; simp at this ⊢; exact this, fun b hb hn => ?_⟩
        by_cases e : b = w.heap.size + 1
        · subst e; rw [World.putObj_heap_same hlt4, hl1]
        · rw [World.putObj_heap_other e, ho.block b (by rw [hsz2]; exact hb) hn, World.putObj_heap_other e]
      | ret =>
        obtain ⟨ho, hi3⟩ := hp
        have hl4 := hl3 W3 ho
        have hlt4 : w.heap.size + 1 < W3.heap.size := (Array.getElem?_eq_some_iff.1 hl4).1
        have hrun := run_endRound (P := P) (some .ret) hl4
        exact ⟨_, _, hrun, .inr ⟨rfl, .ret, hIx _ _ _ hi3, World.putObj_heap_same hlt4, hrest W3 _ ho⟩⟩
      | exit id =>
        obtain ⟨ho, hi3⟩ := hp
        have hl4 := hl3 W3 ho
        have hlt4 : w.heap.size + 1 < W3.heap.size := (Array.getElem?_eq_some_iff.1 hl4).1
        have hrun := run_endRound (P := P) (some (.exit id)) hl4
        exact ⟨_, _, hrun, .inr ⟨rfl, .exit id, hIx _ _ _ hi3, World.putObj_heap_same hlt4, hrest W3 _ ho⟩⟩
      | goto t => exact hp.elim
      | panic ch => exact hp.elim
      | outgrown => exact hp.elim
    · rintro e W2 ⟨⟨v, rfl⟩, (⟨xs, hS, hi, hl, hk⟩ | ⟨c, hi, hl, hk⟩)⟩
      · refine ⟨L.pending, _, run_endLoop (P := P) hl (by rw [hL]; simp), ?_⟩
        have : L.pending = none := by rw [hL]
        rw [this]
        exact hdone xs _ hS (hI _ _ _ hi) ((World.putObj_heap_other (by omega)).trans hk)
      · refine ⟨some c, _, run_endLoop (P := P) hl (by simp), ?_⟩
        exact hstop c _ (hIx _ _ _ hi) ((World.putObj_heap_other (by omega)).trans hk)
end
section
set_option linter.unusedVariables false
open Go.RowKit
namespace Y
variable {P : Program} {W W' : World} {o : Oper} {ρ : Operand → Value}
theorem min2 {x y : Operand} {ats : Array TypeId} {p q : Int} (ho : o.op = .call { callee := .builtin .min, args := #[x, y], argTypes := ats }) (hx : ρ x = .int .i64 p) (hy : ρ y = .int .i64 q) : (execOp ρ o).run P W = .ok (.value (.int .i64 (min p q))) W := by
  have e : (if q < p then q else p) = min p q := by split <;> omega
  simp [execOp, ho, hx, hy, resolve, invoke, builtin, Builtin.min_, Builtin.min2, go_sem, e]
theorem nilC {x : Operand} {p : Addr} (ho : o.op = .nilCheck x) (hx : ρ x = .pointer (some p)) : (execOp ρ o).run P W = .ok (.value (.pointer (some p))) W := by
  simp [execOp, ho, hx, go_sem]
theorem fnc {fn : Fn} {xs : Array Operand} {vs : Array Value} (ho : o.op = .makeFunc fn #[] xs) (hx : xs.map ρ = vs) : (execOp ρ o).run P W = .ok (.value (.func fn #[] vs)) W := by
  simp [execOp, ho, hx, Instr.makeFunc, go_sem]
theorem inx {t e : TypeId} {n : Nat} {x y : Operand} {vs : List Value} {k : Nat} {z : Int} {v : Value} (ho : o.op = .index t x y) (hx : ρ x = .agg vs.toArray) (hy : ρ y = .int .i64 z) (hu : P.underlying t = some (.array n e)) (hA : (isAgg e).run P W = .ok false W) (hS : (sizeOf e).run P W = .ok 1 W) (hk : k < n) (hz : z = (k : Int)) (hv : vs[k]? = some v) : (execOp ρ o).run P W = .ok (.value v) W := by
  subst hz
  have h1 : (0 : Int) ≤ k ∧ (k : Int) < n := by omega
  simp [execOp, ho, hx, hy, Instr.index, part, run_underlying hu, hS, hA, asIntOf, h1, hv, go_sem]
  intro h; omega
theorem idxA {t e : TypeId} {p : Addr} {n k sz : Nat} (hu : P.underlying t = some (.array n e)) (hS : (sizeOf e).run P W = .ok sz W) (h1 : 1 < n) (hk : k < n) {z : Int} (hz : z = (k : Int)) {q : Addr} (hq : p.add (k * sz) = q) : (Instr.indexAt t (.pointer (some p)) (.int .i64 z)).run P W = .ok (.pointer (some q)) W := by
  subst hz hq
  have h2 : (0 : Int) ≤ k ∧ (k : Int) < n := by omega
  simp [Instr.indexAt, Instr.sureAddr, run_underlying hu, hS, asIntOf, h2, go_sem]
  intro h; omega
/-- the cells from a place on hold these -/
def AtFrom (W : World) (p : Addr) (k : Nat) (vs : List Value) : Prop := ∀ j v, vs[j]? = some v → W.cell? (p.add (k + j)) = some v
theorem AtFrom.nil (W : World) (p : Addr) (k : Nat) : AtFrom W p k [] := fun j v h => by simp at h
theorem AtFrom.cons {p : Addr} {k : Nat} {v : Value} {vs : List Value} (h : W.cell? (p.add k) = some v) (t : AtFrom W p (k + 1) vs) : AtFrom W p k (v :: vs) := fun j u hj => by
  cases j with
  | zero => simp at hj; subst hj; exact h
  | succ j => have := t j u (by simpa using hj); rwa [show k + 1 + j = k + (j + 1) by omega] at this
theorem AtFrom.z {p : Addr} {vs : List Value} (h : AtFrom W p 0 vs) : ∀ j v, vs[j]? = some v → W.cell? (p.add j) = some v := fun j v hj => by have := h j v hj; rwa [Nat.zero_add] at this
theorem atz {vs : List Value} (p : Addr) (h : AtFrom W p 0 vs) : ∀ j v, vs[j]? = some v → W.cell? (p.add j) = some v := h.z
theorem alloc_set (W : World) (cs : Array Value) (T : TypeId) (i : Nat) (v : Value) : (W.alloc (.cells cs T)).setCell ⟨W.heap.size, i, none⟩ v = W.alloc (.cells (cs.setIfInBounds i v) T) := by
  unfold World.alloc World.setCell
  congr 1
  apply Array.ext
  · simp
  · intro j h1 h2
    rw [Array.getElem_modify]
    by_cases e : W.heap.size = j
    · subst e; simp
    · rw [if_neg e]
      have hj : j < W.heap.size := by simp at h2; omega
      rw [Array.getElem_push_lt hj, Array.getElem_push_lt hj]
theorem fresh_fz (W : World) (cs : Array Value) (T : TypeId) (i : Nat) : (W.alloc (.cells cs T)).frozen? ⟨W.heap.size, i, none⟩ = false := by
  have := World.alloc_heap_new W (.cells cs T)
  unfold World.frozen?
  simp only [this]
  simp
theorem store_fill (T : TypeId) : ∀ (rest zs pre : List Value), zs.length = rest.length → (∀ v ∈ rest, v.oneCell' = true) →
    (storeCells ⟨W.heap.size, 0, none⟩ rest pre.length).run P (W.alloc (.cells (pre ++ zs).toArray T)) = .ok () (W.alloc (.cells (pre ++ rest).toArray T)) := by
  intro rest
  induction rest with
  | nil => intro zs pre h _; simp at h; subst h; simp [storeCells, go_sem]
  | cons v rest ih =>
    intro zs pre h h1
    cases zs with
    | nil => simp at h
    | cons z zs =>
      have hc : (W.alloc (.cells (pre ++ z :: zs).toArray T)).cell? ⟨W.heap.size, pre.length, none⟩ = some z := cell_new (by simp)
      have hs := run_store P (W.alloc (.cells (pre ++ z :: zs).toArray T)) ⟨W.heap.size, pre.length, none⟩ v .plain (h1 v (by simp))
      rw [hc, fresh_fz] at hs
      simp only [Bool.false_eq_true, if_false] at hs
      have e : (pre ++ z :: zs).toArray.setIfInBounds pre.length v = ((pre ++ [v]) ++ zs).toArray := by simp
      rw [alloc_set, e] at hs
      have hi := ih zs (pre ++ [v]) (by simpa using h) (fun u hu => h1 u (by simp [hu]))
      have e2 : (pre ++ [v]).length = pre.length + 1 := by simp
      have e3 : (pre ++ [v]) ++ rest = pre ++ v :: rest := by simp
      rw [e2, e3] at hi
      have e4 : (⟨W.heap.size, 0, none⟩ : Addr).add pre.length = ⟨W.heap.size, pre.length, none⟩ := addr_add0 _ _
      simp [storeCells, e4, hs, go_sem]
      simpa using hi
/-- a variable that is made and filled -/
theorem stNew {t T : TypeId} (vs zs : List Value) (hS : (sizeOf t).run P (W.alloc (.cells zs.toArray T)) = .ok vs.length (W.alloc (.cells zs.toArray T))) (hl : zs.length = vs.length) (h1 : (vs.all fun v => v.oneCell') = true) :
    (Instr.storeAt t (.pointer (some ⟨W.heap.size, 0, none⟩)) (.agg vs.toArray)).run P (W.alloc (.cells zs.toArray T)) = .ok () (W.alloc (.cells vs.toArray T)) := by
  have h := store_fill (P := P) (W := W) T vs zs [] hl (fun v hv => List.all_eq_true.1 h1 v hv)
  simp only [List.nil_append, List.length_nil] at h
  simp [Instr.storeAt, storeVar, Instr.sureAddr, hS, Value.cells, go_sem]
  exact h
theorem bx1 {t : TypeId} {v : Value} (h : v.cells = #[v]) : (Instr.box t v).run P W = .ok (.pointer (some ⟨W.heap.size, 0, none⟩)) (W.alloc (.cells #[v] t)) := by
  unfold Value.cells at h
  simp [Instr.box, newVar, newRow, Value.cells, h, go_sem]
theorem m1 {x : Operand} {v : Value} (h : ρ x = v) : #[x].map ρ = #[v] := by simp [h]
theorem m2 {x y : Operand} {v z : Value} (h : ρ x = v) (k : ρ y = z) : #[x, y].map ρ = #[v, z] := by simp [h, k]
theorem m3 {x y u : Operand} {v z r : Value} (h : ρ x = v) (k : ρ y = z) (l : ρ u = r) : #[x, y, u].map ρ = #[v, z, r] := by simp [h, k, l]
theorem fldv {t : TypeId} {x : Operand} {k : Nat} {vs : List Value} {fs : Array Field} {f : Field} {v : Value} (ho : o.op = .field t x k) (hx : ρ x = .agg vs.toArray) (hu : P.underlying t = some (.struct fs)) (hf : fs[k]? = some f) (hA : (isAgg f.type).run P W = .ok false W) (hv : vs[f.offset]? = some v) : (execOp ρ o).run P W = .ok (.value v) W := by
  simp [execOp, ho, hx, Instr.field, part, run_underlying hu, hf, hA, asAgg, hv, go_sem]
theorem rs0 {fn : Func} {tmps : Array Value} (hr : fn.results = #[]) : (results fn tmps).run P W = .ok (.tuple #[]) W := by
  unfold results; rw [hr]; simp [go_sem]
end Y
end
section
open Go.RowKit
theorem Try.agg3 (w : World) : (isAgg 3).run Try.prog w = .ok false w := by kernel_rfl
theorem Try.siz3 (w : World) : (sizeOf 3).run Try.prog w = .ok 1 w := by kernel_rfl
theorem Try.agg4 (w : World) : (isAgg 4).run Try.prog w = .ok false w := by kernel_rfl
theorem Try.siz4 (w : World) : (sizeOf 4).run Try.prog w = .ok 1 w := by kernel_rfl
theorem Try.agg22 (w : World) : (isAgg 22).run Try.prog w = .ok false w := by kernel_rfl
theorem Try.siz22 (w : World) : (sizeOf 22).run Try.prog w = .ok 1 w := by kernel_rfl
theorem Try.agg24 (w : World) : (isAgg 24).run Try.prog w = .ok true w := by kernel_rfl
theorem Try.siz24 (w : World) : (sizeOf 24).run Try.prog w = .ok 3 w := by kernel_rfl
theorem Try.agg25 (w : World) : (isAgg 25).run Try.prog w = .ok false w := by kernel_rfl
theorem Try.siz25 (w : World) : (sizeOf 25).run Try.prog w = .ok 1 w := by kernel_rfl
theorem Try.agg31 (w : World) : (isAgg 31).run Try.prog w = .ok true w := by kernel_rfl
theorem Try.siz31 (w : World) : (sizeOf 31).run Try.prog w = .ok 5 w := by kernel_rfl
theorem Try.agg33 (w : World) : (isAgg 33).run Try.prog w = .ok true w := by kernel_rfl
theorem Try.siz33 (w : World) : (sizeOf 33).run Try.prog w = .ok 4 w := by kernel_rfl
theorem Try.agg34 (w : World) : (isAgg 34).run Try.prog w = .ok false w := by kernel_rfl
theorem Try.agg60 (w : World) : (isAgg 60).run Try.prog w = .ok false w := by kernel_rfl
theorem Try.agg69 (w : World) : (isAgg 69).run Try.prog w = .ok true w := by kernel_rfl
theorem Try.siz69 (w : World) : (sizeOf 69).run Try.prog w = .ok 2 w := by kernel_rfl
theorem Try.agg72 (w : World) : (isAgg 72).run Try.prog w = .ok true w := by kernel_rfl
theorem Try.siz72 (w : World) : (sizeOf 72).run Try.prog w = .ok 2 w := by kernel_rfl
theorem Try.agg99 (w : World) : (isAgg 99).run Try.prog w = .ok false w := by kernel_rfl
theorem Try.siz99 (w : World) : (sizeOf 99).run Try.prog w = .ok 1 w := by kernel_rfl
theorem Try.agg102 (w : World) : (isAgg 102).run Try.prog w = .ok true w := by kernel_rfl
theorem Try.siz102 (w : World) : (sizeOf 102).run Try.prog w = .ok 9 w := by kernel_rfl
theorem Try.agg104 (w : World) : (isAgg 104).run Try.prog w = .ok true w := by kernel_rfl
theorem Try.siz104 (w : World) : (sizeOf 104).run Try.prog w = .ok 17 w := by kernel_rfl
theorem Try.agg108 (w : World) : (isAgg 108).run Try.prog w = .ok false w := by kernel_rfl
theorem Try.siz108 (w : World) : (sizeOf 108).run Try.prog w = .ok 1 w := by kernel_rfl
theorem Try.siz135 (w : World) : (sizeOf 135).run Try.prog w = .ok 16 w := by kernel_rfl
theorem Try.new31 (w : World) : (Instr.alloc 31 true (.tuple #[])).run Try.prog w = .ok (.pointer (some ⟨w.heap.size, 0, none⟩)) (w.alloc (.cells #[.int .i64 0, .int .i64 0, .int .i64 0, .int .i64 0, .int .i64 0] 31)) := by kernel_rfl
theorem Try.new33 (w : World) : (Instr.alloc 33 true (.tuple #[])).run Try.prog w = .ok (.pointer (some ⟨w.heap.size, 0, none⟩)) (w.alloc (.cells #[.int .i64 0, .int .i64 0, .int .i64 0, .int .i64 0] 33)) := by kernel_rfl
theorem Try.new104 (w : World) : (Instr.alloc 104 true (.tuple #[])).run Try.prog w = .ok (.pointer (some ⟨w.heap.size, 0, none⟩)) (w.alloc (.cells #[.int .i64 0, .int .i64 0, .int .i64 0, .int .i64 0, .int .i64 0, .int .i64 0, .int .i64 0, .int .i64 0, .int .i64 0, .int .i64 0, .int .i64 0, .int .i64 0, .int .i64 0, .int .i64 0, .int .i64 0, .int .i64 0, .bool false] 104)) := by kernel_rfl
theorem Try.new136 (w : World) : (Instr.alloc 136 true (.tuple #[])).run Try.prog w = .ok (.pointer (some ⟨w.heap.size, 0, none⟩)) (w.alloc (.cells (List.replicate 256 (.bool false)).toArray 136)) := by kernel_rfl
theorem Try.new69 (w : World) : (Instr.alloc 69 true (.tuple #[])).run Try.prog w = .ok (.pointer (some ⟨w.heap.size, 0, none⟩)) (w.alloc (.cells #[.int .i64 0, .int .i64 0] 69)) := by kernel_rfl
theorem Try.new72 (w : World) : (Instr.alloc 72 true (.tuple #[])).run Try.prog w = .ok (.pointer (some ⟨w.heap.size, 0, none⟩)) (w.alloc (.cells #[.int .i64 0, .int .i64 0] 72)) := by kernel_rfl
theorem Try.new24 (w : World) : (Instr.alloc 24 true (.tuple #[])).run Try.prog w = .ok (.pointer (some ⟨w.heap.size, 0, none⟩)) (w.alloc (.cells #[.int .i64 0, .int .i64 0, .slice none 0 0] 24)) := by kernel_rfl
theorem Try.bs34_1 (x0 : Int) (w : World) : (Instr.buildSlice 34 1 #[(0, .int .i64 x0)]).run Try.prog w = .ok (.slice (some ⟨w.heap.size, 0, none⟩) 1 1) (w.alloc (.cells #[.int .i64 x0] 3)) := by kernel_rfl
theorem Try.bs34_2 (x0 x1 : Int) (w : World) : (Instr.buildSlice 34 2 #[(0, .int .i64 x0), (1, .int .i64 x1)]).run Try.prog w = .ok (.slice (some ⟨w.heap.size, 0, none⟩) 2 2) (w.alloc (.cells #[.int .i64 x0, .int .i64 x1] 3)) := by kernel_rfl
theorem Try.info3 : (Try.prog.info? 3).map (fun i => (i.zero, i.size, i.bytes)) = some (some (.int .i64 0), 1, 8) := by kernel_rfl
theorem Try.info31 : (Try.prog.info? 31).map (fun i => (i.zero, i.size, i.bytes)) = some (some (.agg #[.int .i64 0, .int .i64 0, .int .i64 0, .int .i64 0, .int .i64 0]), 5, 40) := by kernel_rfl
theorem Try.info33 : (Try.prog.info? 33).map (fun i => (i.zero, i.size, i.bytes)) = some (some (.agg #[.int .i64 0, .int .i64 0, .int .i64 0, .int .i64 0]), 4, 32) := by kernel_rfl
theorem Try.info104 : (Try.prog.info? 104).map (fun i => (i.zero, i.size, i.bytes)) = some (some (.agg #[.int .i64 0, .int .i64 0, .int .i64 0, .int .i64 0, .int .i64 0, .int .i64 0, .int .i64 0, .int .i64 0, .int .i64 0, .int .i64 0, .int .i64 0, .int .i64 0, .int .i64 0, .int .i64 0, .int .i64 0, .int .i64 0, .bool false]), 17, 136) := by kernel_rfl
end
section
set_option linter.unusedVariables false
open Go.RowKit

/-- what the nodes of a play hold: node, cell -/
def PS : Type := Nat → Nat → Int
def up (s : PS) (i j : Nat) (v : Int) : PS := fun a b => if a = i ∧ b = j then v else s a b
theorem up_same (s : PS) (i j : Nat) (v : Int) : up s i j v i j = v := if_pos ⟨rfl, rfl⟩
theorem up_ne (s : PS) {i j a b : Nat} (v : Int) (h : a ≠ i ∨ b ≠ j) : up s i j v a b = s a b := if_neg (fun e => by rcases h with h | h; exact h e.1; exact h e.2)
/-- n steps -/
def itN {σ : Type} (f : Nat → σ → σ) : Nat → σ → σ
  | 0, s => s
  | k + 1, s => f k (itN f k s)
theorem itN_zero {σ : Type} (f : Nat → σ → σ) (s : σ) : itN f 0 s = s := rfl
theorem itN_succ {σ : Type} (f : Nat → σ → σ) (k : Nat) (s : σ) : itN f (k + 1) s = f k (itN f k s) := rfl
/-- a number of a nudge: tick, kind, node, argument -/
def nv (x : List Int) (r : Nat) : Int := x[r]?.getD 0
/-- the nudges of some kinds in a tick -/
def pickB (t : Int) (ks : List Int) (x : List Int) : Bool := nv x 0 == t && ks.contains (nv x 1)
def picks (l : List (List Int)) (t : Int) (ks : List Int) : List (List Int) := l.filter (pickB t ks)

def startS (nd : List (List Int)) : PS := fun i j => if j < 5 then cv nd i j else if j = 15 then cv nd i 3 else 0
def askA (s : PS) (x : List Int) : PS := up s (nv x 2).toNat 5 (orV (s (nv x 2).toNat 5) (shlV 1 (nv x 3)))
def askX (s : PS) (x : List Int) : PS := if nv x 1 = 2 then up (askA s x) (nv x 2).toNat 5 (anotV (askA s x (nv x 2).toNat 5) (shlV 1 (nv x 3))) else askA s x
def askS (l : List (List Int)) (t : Int) (s : PS) : PS := (picks l t [1, 2]).foldl askX s
def asksG (n : Nat) (s : PS) : Int := itN (fun i a => orV a (s i 5)) n 0
def refill1 (t : Int) (i : Nat) (s : PS) : PS := if 0 < t ∧ t % s i 4 = 0 then up s i 15 (min (s i 15 + 1) (s i 3)) else s
def noiseX (hold : Int) (s : PS) (x : List Int) : PS :=
  if s (nv x 2).toNat 16 = 0 ∧ 0 < s (nv x 2).toNat 15 ∧ s (nv x 2).toNat 14 = 0 then up (up s (nv x 2).toNat 15 (s (nv x 2).toNat 15 - 1)) (nv x 2).toNat 14 hold else s
def disturbS (hold : Int) (l : List (List Int)) (n : Nat) (t : Int) (s : PS) : PS := (picks l t [3]).foldl (noiseX hold) (itN (refill1 t) n s)
/-- what is lost: from, to -/
def lostX (f : Nat → Nat → Bool) (x : List Int) : Nat → Nat → Bool := fun a b => if a = (nv x 2).toNat ∧ b = (nv x 3).toNat then true else f a b
def lostF (l : List (List Int)) (t : Int) : Nat → Nat → Bool := (picks l t [4]).foldl lostX (fun _ _ => false)
def send1 (hold : Int) (lost : Nat → Nat → Bool) (src dst g : Nat) (s : PS) : PS := if lost src dst = false ∧ bitB (andV (s src 5) (s dst 0)) g = true then up s dst (6 + g) hold else s
def send2 (hold : Int) (gr : Nat) (lost : Nat → Nat → Bool) (src dst : Nat) (s : PS) : PS := itN (send1 hold lost src dst) gr s
def send3 (hold : Int) (gr n : Nat) (lost : Nat → Nat → Bool) (src : Nat) (s : PS) : PS := itN (send2 hold gr lost src) n s
def sendS (hold : Int) (gr n : Nat) (lost : Nat → Nat → Bool) (s : PS) : PS := itN (send3 hold gr n lost) n s
def pass1 (i k : Nat) (s : PS) : PS := if 0 < s i (6 + k) then up (up s i 16 1) i (6 + k) (s i (6 + k) - 1) else s
def passN (i : Nat) (s : PS) : PS := itN (pass1 i) 9 (up s i 16 0)
def pass2 (i : Nat) (p : PS × Int) : PS × Int := (passN i p.1, if passN i p.1 i 16 = 0 then p.2 else orV p.2 (shlV 1 i))
def passS (n : Nat) (s : PS) : PS × Int := itN pass2 n (s, 0)
/-- the state behind some ticks, what was asked for, and who was awake -/
structure PR where
  s : PS
  asked : List Int
  rows : List Int
def tick (hold : Int) (gr n : Nat) (l : List (List Int)) (t : Nat) (p : PR) : PR :=
  let a := askS l t p.s
  let q := passS n (sendS hold gr n (lostF l t) (disturbS hold l n t a))
  ⟨q.1, p.asked ++ [asksG n a], p.rows ++ [q.2]⟩

/-- the cells of the nodes -/
def NV (s : PS) : Nat → Value := fun k => if k % 17 = 16 then .bool (s (k / 17) 16 != 0) else .int .i64 (s (k / 17) (k % 17))
theorem NV_int (s : PS) (i j : Nat) (h : j < 16) : NV s (i * 17 + j) = .int .i64 (s i j) := by
  have h1 : (i * 17 + j) % 17 = j := by omega
  have h2 : (i * 17 + j) / 17 = i := by omega
  unfold NV
  rw [h1, h2, if_neg (by omega)]
theorem NV_bool (s : PS) (i : Nat) : NV s (i * 17 + 16) = .bool (s i 16 != 0) := by
  have h1 : (i * 17 + 16) % 17 = 16 := by omega
  have h2 : (i * 17 + 16) / 17 = i := by omega
  unfold NV
  rw [h1, h2, if_pos rfl]
theorem NV_up (s : PS) (i j : Nat) (h : j < 16) (v : Int) : (fun k => if k = i * 17 + j then .int .i64 v else NV s k) = NV (up s i j v) := by
  funext k
  by_cases e : k = i * 17 + j
  · subst e; rw [if_pos rfl, NV_int _ _ _ h, up_same]
  · rw [if_neg e]
    unfold NV
    by_cases e2 : k % 17 = 16
    · rw [if_pos e2, if_pos e2, up_ne _ _ (.inr (by omega))]
    · rw [if_neg e2, if_neg e2, up_ne _ _ (by omega)]
theorem NV_upB (s : PS) (i : Nat) (b : Bool) : (fun k => if k = i * 17 + 16 then .bool b else NV s k) = NV (up s i 16 (if b then 1 else 0)) := by
  funext k
  by_cases e : k = i * 17 + 16
  · subst e; rw [if_pos rfl, NV_bool, up_same]; cases b <;> rfl
  · rw [if_neg e]
    unfold NV
    by_cases e2 : k % 17 = 16
    · rw [if_pos e2, if_pos e2, up_ne _ _ (by omega)]
    · rw [if_neg e2, if_neg e2, up_ne _ _ (.inr e2)]
end
section
open Go.RowKit

def withinB (n lo hi : Int) : Bool := decide (lo ≤ n) && decide (n ≤ hi)
theorem withinB_ok {n lo hi : Int} (h : withinB n lo hi = true) : lo ≤ n ∧ n ≤ hi := by
  unfold withinB at h
  simpa using h
theorem withinB_of {n lo hi : Int} (h : lo ≤ n) (k : n ≤ hi) : withinB n lo hi = true := by
  unfold withinB
  simp [h, k]
/-- for all numbers below -/
def allN (p : Nat → Bool) : Nat → Bool
  | 0 => true
  | k + 1 => allN p k && p k
theorem allN_iff {p : Nat → Bool} {n : Nat} : allN p n = true ↔ ∀ i, i < n → p i = true := by
  induction n with
  | zero => simp [allN]
  | succ n ih =>
    simp only [allN, Bool.and_eq_true, ih]
    constructor
    · rintro ⟨h, k⟩ i hi
      by_cases e : i = n
      · rw [e]; exact k
      · exact h i (by omega)
    · exact fun h => ⟨fun i hi => h i (by omega), h n (by omega)⟩
theorem allN_bad {p : Nat → Bool} {n i : Nat} (hi : i < n) (h : p i = false) : allN p n = false := by
  cases e : allN p n with
  | false => rfl
  | true => rw [allN_iff.1 e i hi] at h; cases h
theorem shl_bd {g : Int} (h : 0 ≤ g) (k : g ≤ 62) : 1 ≤ shlV 1 g ∧ shlV 1 g ≤ 4611686018427387904 := by
  obtain ⟨n, rfl⟩ : ∃ n : Nat, g = n := ⟨g.toNat, by omega⟩
  rw [shl_nat (by omega)]
  have h1 : 1 ≤ 2 ^ n := Nat.one_le_two_pow
  have h2 : 2 ^ n ≤ 2 ^ 62 := Nat.pow_le_pow_right (by decide) (by omega)
  omega
def nodeB (gr : Int) (nd : List (List Int)) (i : Nat) : Bool :=
  withinB (cv nd i 0) 0 (shlV 1 gr - 1) && (withinB (cv nd i 1) 0 10000 && (withinB (cv nd i 2) 0 (cv nd i 1) && (withinB (cv nd i 3) 0 20 && withinB (cv nd i 4) 1 1000)))
def cluB (gr hold : Int) (n : Nat) : Bool := withinB gr 1 8 && (withinB hold 1 100 && decide ((n : Int) ≤ 16))
def cluE (gr hold : Int) (nd : List (List Int)) : Int := if cluB gr hold nd.length && allN (nodeB gr nd) nd.length then 0 else 90
theorem cluE_bad {gr hold : Int} {nd : List (List Int)} {n : Nat} (hn : nd.length = n) (h : cluB gr hold n = false) : cluE gr hold nd = 90 := by
  unfold cluE; rw [hn, h]; rfl
theorem cluE_node {gr hold : Int} {nd : List (List Int)} {n i : Nat} (hn : nd.length = n) (hi : i < n) (h : nodeB gr nd i = false) : cluE gr hold nd = 90 := by
  unfold cluE; rw [hn, allN_bad hi h]; simp
theorem cluE_good {gr hold : Int} {nd : List (List Int)} {n : Nat} (hn : nd.length = n) (h : cluB gr hold n = true) (ha : allN (nodeB gr nd) n = true) : cluE gr hold nd = 0 := by
  unfold cluE; rw [hn, h, ha]; rfl
/-- a valid cluster -/
structure CluOk (gr hold : Int) (nd : List (List Int)) : Prop where
  g1 : 1 ≤ gr
  g8 : gr ≤ 8
  h1 : 1 ≤ hold
  h100 : hold ≤ 100
  n16 : nd.length ≤ 16
  gro : ∀ i, i < nd.length → 0 ≤ cv nd i 0 ∧ cv nd i 0 ≤ shlV 1 gr - 1
  awk : ∀ i, i < nd.length → 0 ≤ cv nd i 1 ∧ cv nd i 1 ≤ 10000
  asl : ∀ i, i < nd.length → 0 ≤ cv nd i 2 ∧ cv nd i 2 ≤ cv nd i 1
  bud : ∀ i, i < nd.length → 0 ≤ cv nd i 3 ∧ cv nd i 3 ≤ 20
  ref : ∀ i, i < nd.length → 1 ≤ cv nd i 4 ∧ cv nd i 4 ≤ 1000
theorem cluE_ok {gr hold : Int} {nd : List (List Int)} (h : cluE gr hold nd = 0) : CluOk gr hold nd := by
  unfold cluE at h
  split at h
  · rename_i hc
    rw [Bool.and_eq_true] at hc
    obtain ⟨hb, ha⟩ := hc
    unfold cluB at hb
    simp only [Bool.and_eq_true, decide_eq_true_eq] at hb
    obtain ⟨hg, hh, hn⟩ := hb
    have hg := withinB_ok hg
    have hh := withinB_ok hh
    have hall : ∀ i, i < nd.length → withinB (cv nd i 0) 0 (shlV 1 gr - 1) = true ∧ withinB (cv nd i 1) 0 10000 = true ∧ withinB (cv nd i 2) 0 (cv nd i 1) = true ∧ withinB (cv nd i 3) 0 20 = true ∧ withinB (cv nd i 4) 1 1000 = true := fun i hi => by
      have := allN_iff.1 ha i hi
      unfold nodeB at this
      simpa only [Bool.and_eq_true] using this
    exact ⟨hg.1, hg.2, hh.1, hh.2, by omega, fun i hi => withinB_ok (hall i hi).1, fun i hi => withinB_ok (hall i hi).2.1, fun i hi => withinB_ok (hall i hi).2.2.1, fun i hi => withinB_ok (hall i hi).2.2.2.1, fun i hi => withinB_ok (hall i hi).2.2.2.2⟩
  · cases h
def ticksE (gr hold : Int) (nd : List (List Int)) (t : Int) : Int := if cluE gr hold nd ≠ 0 then cluE gr hold nd else if withinB t 0 1000 then 0 else 1
theorem ticksE_ok {gr hold : Int} {nd : List (List Int)} {t : Int} (h : ticksE gr hold nd t = 0) : CluOk gr hold nd ∧ 0 ≤ t ∧ t ≤ 1000 := by
  unfold ticksE at h
  split at h
  · contradiction
  · rename_i hc
    split at h
    · rename_i ht
      exact ⟨cluE_ok (by simpa using hc), withinB_ok ht⟩
    · cases h
/-- a nudge is valid -/
def kindB (gr : Int) (nd : List (List Int)) (x : List Int) : Bool :=
  if nv x 1 = 1 ∨ nv x 1 = 2 then withinB (nv x 3) 0 (gr - 1) && bitB (cv nd (nv x 2).toNat 0) (nv x 3)
  else if nv x 1 = 3 then nv x 3 == 0 else if nv x 1 = 4 then withinB (nv x 3) 0 ((nd.length : Int) - 1) && nv x 3 != nv x 2 else false
def rightB (gr : Int) (nd : List (List Int)) (t : Int) (x : List Int) : Bool :=
  withinB (nv x 0) 0 (t - 1) && (withinB (nv x 2) 0 ((nd.length : Int) - 1) && kindB gr nd x)
def nudgeB (gr : Int) (nd : List (List Int)) (t : Int) (l : List (List Int)) : Bool := decide (l.length ≤ 200) && allN (fun i => rightB gr nd t (l[i]?.getD [])) l.length
def playE (gr hold : Int) (nd : List (List Int)) (t : Int) (l : List (List Int)) : Int := if ticksE gr hold nd t ≠ 0 then ticksE gr hold nd t else if nudgeB gr nd t l then 0 else 91
/-- a valid nudge's numbers -/
structure NuOk (gr : Int) (nd : List (List Int)) (t : Int) (x : List Int) : Prop where
  a0 : 0 ≤ nv x 0
  a1 : nv x 0 < t
  n0 : 0 ≤ nv x 2
  n1 : nv x 2 < nd.length
  ask : nv x 1 = 1 ∨ nv x 1 = 2 → 0 ≤ nv x 3 ∧ nv x 3 < gr ∧ bitB (cv nd (nv x 2).toNat 0) (nv x 3) = true
  noi : nv x 1 = 3 → nv x 3 = 0
  los : nv x 1 = 4 → 0 ≤ nv x 3 ∧ nv x 3 < nd.length ∧ nv x 3 ≠ nv x 2
  kind : nv x 1 = 1 ∨ nv x 1 = 2 ∨ nv x 1 = 3 ∨ nv x 1 = 4
theorem rightB_ok {gr : Int} {nd : List (List Int)} {t : Int} {x : List Int} (h : rightB gr nd t x = true) : NuOk gr nd t x := by
  unfold rightB at h
  simp only [Bool.and_eq_true] at h
  obtain ⟨h0, h1, h2⟩ := h
  have h0 := withinB_ok h0
  have h1 := withinB_ok h1
  unfold kindB at h2
  refine ⟨h0.1, by omega, h1.1, by omega, fun e => ?_, fun e => ?_, fun e => ?_, ?_⟩
  · rw [if_pos e, Bool.and_eq_true] at h2
    have := withinB_ok h2.1
    exact ⟨this.1, by omega, h2.2⟩
  · rw [if_neg (by omega), if_pos e] at h2
    simpa using h2
  · rw [if_neg (by omega), if_neg (by omega), if_pos e, Bool.and_eq_true] at h2
    have := withinB_ok h2.1
    exact ⟨this.1, by omega, by simpa using h2.2⟩
  · by_cases e1 : nv x 1 = 1 ∨ nv x 1 = 2
    · omega
    · rw [if_neg e1] at h2
      by_cases e3 : nv x 1 = 3
      · omega
      · rw [if_neg e3] at h2
        by_cases e4 : nv x 1 = 4
        · omega
        · rw [if_neg e4] at h2; cases h2
structure PlayOk (gr hold : Int) (nd : List (List Int)) (t : Int) (l : List (List Int)) : Prop where
  c : CluOk gr hold nd
  t0 : 0 ≤ t
  t1 : t ≤ 1000
  len : l.length ≤ 200
  nu : ∀ i, i < l.length → NuOk gr nd t (l[i]?.getD [])
theorem playE_ok {gr hold : Int} {nd : List (List Int)} {t : Int} {l : List (List Int)} (h : playE gr hold nd t l = 0) : PlayOk gr hold nd t l := by
  unfold playE at h
  split at h
  · contradiction
  · rename_i hc
    split at h
    · rename_i hn
      have h1 := ticksE_ok (show ticksE gr hold nd t = 0 by simpa using hc)
      unfold nudgeB at hn
      simp only [Bool.and_eq_true, decide_eq_true_eq] at hn
      exact ⟨h1.1, h1.2.1, h1.2.2, hn.1, fun i hi => rightB_ok (allN_iff.1 hn.2 i hi)⟩
    · cases h
end
section
open Go.RowKit

set_option maxRecDepth 100000 in
set_option maxHeartbeats 400000 in
theorem within_any (x lo hi : Int) (w : World) :
  Calls Try.prog 54 #[Vi x, Vi lo, Vi hi] w fun e w' => e = .returned (.bool (withinB x lo hi)) ∧ w' = w := by
 have G := Gr.refl w
 refine Y.calls 15 Try.func54 rfl rfl ?_
 intro ac F0
 have F : Fr ac 15 [(0, Vi x), (1, Vi lo), (2, Vi hi)] := F0.sub _
 clear F0
 refine Y.seq ?_
 refine Y.lit (by kernel_rfl) ?_
 refine Y.pv F (X.assign rfl (X.kc (.bool false) rfl)) ?_;clear F ac;intro ac F
 refine Y.nil ?_
 replace F : Fr ac 15 [(0, Vi x), (1, Vi lo), (2, Vi hi)] := F.sub _
 refine X.thenN ?_
 refine Y.seq ?_
 refine Y.lit (by kernel_rfl) ?_
 refine Y.pv F (X.move rfl (F.e 0 rfl)) ?_;clear F ac;intro ac F
 refine Y.pv F (X.move rfl (F.e 1 rfl)) ?_;clear F ac;intro ac F
 refine Y.pv F (X.binop rfl (F.e 7 rfl) (F.e 8 rfl) (X.geqI Try.underlying3 rfl)) ?_;clear F ac;intro ac F
 refine Y.pv F (X.move rfl (F.e 9 rfl)) ?_;clear F ac;intro ac F
 cases h3 : decide ((lo : Int) ≤ x) with
 | false =>
  try rw [h3] at F
  have h3p : ¬ ((lo : Int) ≤ x) := of_decide_eq_false h3
  refine Y.pskip F (X.w2 rfl (F.yl (j := 3) (d := 10) (b := false) rfl (by kernel_rfl)) rfl) rfl ?_;clear F ac;intro ac F
  refine Y.pskip F (X.w2 rfl (F.yl (j := 3) (d := 10) (b := false) rfl (by kernel_rfl)) rfl) rfl ?_;clear F ac;intro ac F
  refine Y.pskip F (X.w2 rfl (F.yl (j := 3) (d := 10) (b := false) rfl (by kernel_rfl)) rfl) rfl ?_;clear F ac;intro ac F
  refine Y.pv F (X.pickF rfl (F.e 10 rfl) (X.kc (.bool false) rfl)) ?_;clear F ac;intro ac F
  refine Y.pv F (X.assign rfl (F.e 14 rfl)) ?_;clear F ac;intro ac F
  refine Y.nil ?_
  replace F : Fr ac 15 [(6, .bool false)] := F.sub _
  refine X.thenN ?_
  refine Y.ret ?_
  exact Y.ret0 (v := .bool false) F (Y.rs1 F rfl (by kernel_rfl)) ⟨by simp [withinB, h3], rfl⟩
 | true =>
  try rw [h3] at F
  have h3p : ((lo : Int) ≤ x) := of_decide_eq_true h3
  refine Y.pval F (X.w1 rfl (F.yl (j := 3) (d := 10) (b := true) rfl (by kernel_rfl))) rfl (X.move rfl (F.e 0 rfl)) ?_;clear F ac;intro ac F
  refine Y.pval F (X.w1 rfl (F.yl (j := 3) (d := 10) (b := true) rfl (by kernel_rfl))) rfl (X.move rfl (F.e 2 rfl)) ?_;clear F ac;intro ac F
  refine Y.pval F (X.w1 rfl (F.yl (j := 3) (d := 10) (b := true) rfl (by kernel_rfl))) rfl (X.binop rfl (F.e 11 rfl) (F.e 12 rfl) (X.leqI Try.underlying3 rfl)) ?_;clear F ac;intro ac F
  refine Y.pv F (X.pickT rfl (F.e 10 rfl) (F.e 13 rfl)) ?_;clear F ac;intro ac F
  refine Y.pv F (X.assign rfl (F.e 14 rfl)) ?_;clear F ac;intro ac F
  refine Y.nil ?_
  replace F : Fr ac 15 [(6, .bool (decide ((x : Int) ≤ hi)))] := F.sub _
  refine X.thenN ?_
  refine Y.ret ?_
  exact Y.ret0 (v := .bool (decide ((x : Int) ≤ hi))) F (Y.rs1 F rfl (by kernel_rfl)) ⟨by simp [withinB, h3], rfl⟩
end
section
set_option linter.unusedVariables false
open Go.RowKit
theorem wp_thenQ {P : Program} {o : Oper} {a : Act} {w : World} {K K2 : Act → World → Prop} {Q : Exit → Act → World → Prop} (h : o.wp P a w K (Exit.then K2 Q)) : o.wp P a w K Q := by
  unfold Oper.wp at h ⊢
  generalize (execOp a.eval o).run P w = r at *
  cases r with
  | ok x w' => cases x <;> simp only [Oper.upon] at h ⊢ <;> exact h
  | halt x w' => cases x <;> simp only [Oper.upon] at h ⊢ <;> exact h
/-- a region, cut before an operation that is walked for itself -/
theorem wpL_cut {P : Program} {ops : Array Oper} {Q : Exit → Act → World → Prop} {ro : Option Nat} {r : List Oper} : ∀ (l : List Oper) (a : Act) (w : World), (l.all fun o => match o.op with | .defer _ => false | _ => true) = true →
    wpL P ops (Exit.then (fun a w => wpListIn { Fence.wide with round := ro } 0 P ops Q r a w) Q) l a w → wpListIn { Fence.wide with round := ro } 0 P ops Q (l ++ r) a w := by
  intro l
  induction l with
  | nil => intro a w _ h; exact h
  | cons o l ih =>
    intro a w hd h
    simp only [List.all_cons, Bool.and_eq_true] at hd
    unfold wpL at h
    rw [List.cons_append]
    unfold wpListIn
    split
    · rename_i hw
      rw [if_pos hw] at h
      exact wpIn_of_wp (ro := ro) (n := 0) (fun c hc => by have := hd.1; rw [hc] at this; cases this) (Oper.wp_mono (fun a w h => ih a w hd.2 h) (wp_thenQ h))
    · rename_i hw; rw [if_neg hw] at h; exact ⟨fun _ _ => trivial, ih _ _ hd.2 h⟩
namespace Y
variable {P : Program} {W : World} {A : Act} {n : Nat} {L : List (Nat × Value)} {D : List Deferred} {ops : Array Oper} {o : Oper} {rest : List Oper} {Q : Exit → Act → World → Prop} {ro : Option Nat}
/-- a region in which yield is called at place k -/
theorem litcut {id : Nat} {l : List Oper} (l1 : List Oper) (o : Oper) (l2 : List Oper) (he : l = l1 ++ o :: l2) (hd : (l1.all fun o => match o.op with | .defer _ => false | _ => true) = true)
    (h : wpL P l.toArray (Exit.then (fun a w => wpListIn { Fence.wide with round := ro } 0 P l.toArray Q (o :: l2) a w) Q) l1 A W) : (Code.region id l.toArray false).wpIn (FW ro) 0 P Q A W := by
  have h2 := wpL_cut l1 A W hd h
  rw [← he] at h2
  exact wpIn_region_lit h2
theorem litcutk {id : Nat} {l : List Oper} (k : Nat) (o : Oper) (ho : l[k]? = some o) (hd : ((l.take k).all fun o => match o.op with | .defer _ => false | _ => true) = true)
    (h : wpL P l.toArray (Exit.then (fun a w => wpListIn { Fence.wide with round := ro } 0 P l.toArray Q (o :: l.drop (k + 1)) a w) Q) (l.take k) A W) : (Code.region id l.toArray false).wpIn (FW ro) 0 P Q A W := by
  refine litcut (l.take k) o (l.drop (k + 1)) ?_ hd h
  have h1 := List.take_append_drop k l
  have h2 : l.drop k = o :: l.drop (k + 1) := by
    obtain ⟨hk, e⟩ := List.getElem?_eq_some_iff.1 ho
    rw [List.drop_eq_getElem_cons hk, e]
  rw [← h2, h1]
/-- not wanted -/
theorem cutskip (F : Fr A n L D) (hw : Region.wanted o (yielded ops A.tmps) = false) (hd : (match o.dst with | some d => decide (d < n) | none => true) = true) (hl : (rest.all fun o => match o.op with | .defer _ => false | _ => true) = true)
    (h : ∀ A', Fr A' n (X.putS L o.dst undef) D → wpL P ops Q rest A' W) : wpListIn { Fence.wide with round := ro } 0 P ops Q (o :: rest) A W := by
  unfold wpListIn
  rw [if_neg (by rw [hw]; decide)]
  exact ⟨fun _ _ => trivial, wpL_in _ _ _ hl (h _ (F.put hd))⟩
/-- a call of yield that goes on -/
theorem cutyield {l : Nat} {f x : Operand} {ts : Array TypeId} {v : Value} {T : World → Prop} (F : Fr A n L D) (hw : Region.wanted o (yielded ops A.tmps) = true) (hd : (match o.dst with | some d => decide (d < n) | none => true) = true) (hl : (rest.all fun o => match o.op with | .defer _ => false | _ => true) = true)
    (ho : o.op = .call { callee := .value f, args := #[x], argTypes := ts }) (hf : A.eval f = .func (.yield l) #[] #[]) (hx : A.eval x = v) (hy : YieldAt Fence.wide 0 P l #[v] W fun e W' => e = .returned (.bool true) ∧ T W')
    (h : ∀ W', T W' → ∀ A', Fr A' n (X.putS L o.dst (.bool true)) D → wpL P ops Q rest A' W') : wpListIn { Fence.wide with round := ro } 0 P ops Q (o :: rest) A W := by
  unfold wpListIn
  rw [if_pos hw]
  exact op_yield ho hf hx hy (fun e W' h => ⟨_, h.1⟩) (fun v' W' hT => by
    obtain ⟨h1, h2⟩ := hT
    injection h1 with h1
    subst h1
    exact wpL_in _ _ _ hl (h W' h2 _ (F.put hd)))
end Y
/-- a nudge as a value -/
def nuV (x : List Int) : Value := .agg #[.int .i64 (nv x 0), .int .i64 (nv x 1), .int .i64 (nv x 2), .int .i64 (nv x 3)]
/-- what the iterator reads -/
structure AtE (W : World) (bx bt bk bp : Nat) (la : Option Addr) (m lc : Nat) (l : List (List Int)) (t : Int) (ka : Option Addr) (kn kc : Nat) (ks : List Int) : Prop where
  cx : W.cell? ⟨bx, 0, none⟩ = some (.pointer (some ⟨bp, 0, none⟩))
  ct : W.cell? ⟨bt, 0, none⟩ = some (.int .i64 t)
  ck : W.cell? ⟨bk, 0, none⟩ = some (.slice ka kn kc)
  cl : W.cell? ⟨bp, 3, none⟩ = some (.slice la m lc)
  l : StAt W 4 la m l
  k : Ints W ka kn ks
theorem picks_take {l : List (List Int)} {t : Int} {ks : List Int} {i : Nat} (h : i < l.length) : picks (l.take (i + 1)) t ks = picks (l.take i) t ks ++ (if pickB t ks (l[i]?.getD []) then [l[i]?.getD []] else []) := by
  unfold picks
  rw [List.take_succ_eq_append_getElem h, List.filter_append]
  congr 1
  rw [List.getElem?_eq_getElem h]
  simp only [List.filter_cons, List.filter_nil, Option.getD_some]
theorem picks_pre {l : List (List Int)} {t : Int} {ks : List Int} {i : Nat} (h : i < l.length) (hp : pickB t ks (l[i]?.getD []) = true) : ∃ rest, picks l t ks = picks (l.take i) t ks ++ (l[i]?.getD []) :: rest := by
  refine ⟨picks (l.drop (i + 1)) t ks, ?_⟩
  have e : l = l.take i ++ (l[i]?.getD []) :: l.drop (i + 1) := by
    rw [List.getElem?_eq_getElem h]
    simp
  have h2 : picks l t ks = picks (l.take i ++ (l[i]?.getD []) :: l.drop (i + 1)) t ks := congrArg (fun z => picks z t ks) e
  rw [h2]
  unfold picks
  rw [List.filter_append, List.filter_cons, if_pos hp]
end
section
open Go.RowKit

theorem contains_no {xs : List Int} {v : Int} (h : ∀ j, j < xs.length → ¬ v = xs[j]?.getD 0) : xs.contains v = false := by
  cases e : xs.contains v with
  | false => rfl
  | true =>
    have hm : v ∈ xs := by simpa using e
    obtain ⟨j, hj, hv⟩ := List.getElem_of_mem hm
    exact absurd (by rw [List.getElem?_eq_getElem hj]; exact hv.symm) (h j hj)

set_option maxRecDepth 100000 in
set_option maxHeartbeats 400000 in
theorem index_any (a : Option Addr) (n c : Nat) (xs : List Int) (v : Int) (w : World) (hx : Ints w a n xs) :
  Calls Try.prog 103 #[.slice a n c, Vi v] w fun e w' => ∃ z, e = .returned (Vi z) ∧ decide (0 ≤ z) = xs.contains v ∧ Gr w w' := by
 have G := Gr.refl w
 have hlen := hx.len
 have hlt := hx.lt
 refine Y.calls 19 Try.func103 rfl rfl ?_
 intro ac F0
 have F : Fr ac 19 [(0, .slice a n c), (1, Vi v)] := F0.sub _
 clear F0
 refine Y.seq ?_
 refine Y.lit (by kernel_rfl) ?_
 refine Y.pv F (X.assign rfl (X.kc (Vi 0) rfl)) ?_;clear F ac;intro ac F
 refine Y.nil ?_
 replace F : Fr ac 19 [(0, .slice a n c), (1, Vi v), (4, Vi 0)] := F.sub _
 refine X.thenN ?_
 refine Y.seq ?_
 refine Y.seq ?_
 refine Y.lit (by kernel_rfl) ?_
 refine Y.pv F (X.move rfl (F.e 0 rfl)) ?_;clear F ac;intro ac F
 refine Y.pv F (X.len1 Try.underlying34 rfl (F.e 6 rfl)) ?_;clear F ac;intro ac F
 refine Y.pv F (X.move rfl (X.kc (Vi 0) rfl)) ?_;clear F ac;intro ac F
 refine Y.nil ?_
 replace F : Fr ac 19 [(0, .slice a n c), (1, Vi v), (4, Vi 0), (7, Vi n), (8, Vi 0)] := F.sub _
 refine X.thenN ?_
 refine Y.block ?_
 have hxB := hx
 have GB := G
 refine Y.loop (fun me_ ac wr => ∃ (i : Nat), me_ = n - i ∧ Gr w wr ∧ i ≤ n ∧ (∀ j, j < i → ¬ v = xs[j]?.getD 0) ∧ Fr ac 19 [(0, .slice a n c), (1, Vi v), (7, Vi n), (8, Vi i)]) _ ⟨0, rfl, Gr.refl _, Nat.zero_le _, fun j h => by omega, F.sub _⟩ ?_
 clear F
 intro me_ ac w3 hI
 obtain ⟨i, rfl, gr, hi0, hno, F⟩ := hI
 replace G := GB.trans gr
 replace hx := hxB.gr gr
 have GB_ := gr
 clear gr
 refine Y.seq ?_
 refine Y.lit (by kernel_rfl) ?_
 refine Y.pv F (X.binop rfl (F.e 8 rfl) (F.e 7 rfl) (X.lssI Try.underlying3 rfl)) ?_;clear F ac;intro ac F
 refine Y.nil ?_
 replace F : Fr ac 19 [(0, .slice a n c), (1, Vi v), (7, Vi n), (8, Vi i), (9, .bool (decide ((i : Int) < n)))] := F.sub _
 refine X.thenN ?_
 refine Y.seq ?_
 cases h4 : decide ((i : Int) < n) with
 | false =>
  try rw [h4] at F
  have h4p : ¬ ((i : Int) < n) := of_decide_eq_false h4
  have hin : i = n := by omega
  have hall : xs.contains v = false := contains_no (fun j hj => hno j (by omega))
  refine Y.condF (F.e 9 rfl) ?_
  refine Y.exit ?_
  refine X.thenX ?_
  refine X.thenX ?_
  refine X.blockX ?_
  refine X.thenN ?_
  refine Y.seq ?_
  refine Y.lit (by kernel_rfl) ?_
  refine Y.pv F (X.assign rfl (X.kc (Vi (-1)) rfl)) ?_;clear F ac;intro ac F
  refine Y.nil ?_
  replace F : Fr ac 19 [(0, .slice a n c), (1, Vi v), (4, Vi (-1)), (7, Vi n), (8, Vi i), (9, .bool false)] := F.sub _
  refine X.thenN ?_
  refine Y.ret ?_
  exact Y.ret0 (v := Vi (-1)) F (Y.rs1 F rfl (by kernel_rfl)) ⟨_, rfl, by rw [hall]; decide, G⟩
 | true =>
  try rw [h4] at F
  have h4p : ((i : Int) < n) := of_decide_eq_true h4
  refine Y.condT (F.e 9 rfl) ?_
  refine Y.skip ?_
  refine X.thenN ?_
  refine Y.seq ?_
  refine Y.block ?_
  refine Y.seq ?_
  refine Y.lit (by kernel_rfl) ?_
  refine Y.pv F (X.move rfl (F.e 8 rfl)) ?_;clear F ac;intro ac F
  refine Y.pv F (X.assign rfl (F.e 10 rfl)) ?_;clear F ac;intro ac F
  refine Y.nil ?_
  replace F : Fr ac 19 [(0, .slice a n c), (1, Vi v), (5, Vi i), (7, Vi n), (8, Vi i), (9, .bool true)] := F.sub _
  refine X.thenN ?_
  refine Y.seq ?_
  refine Y.lit (by kernel_rfl) ?_
  refine Y.pv F (X.move rfl (F.e 1 rfl)) ?_;clear F ac;intro ac F
  refine Y.pv F (X.move rfl (F.e 0 rfl)) ?_;clear F ac;intro ac F
  refine Y.pv F (X.move rfl (F.e 5 rfl)) ?_;clear F ac;intro ac F
  obtain ⟨pd5, pe5, -, pc5⟩ := hx.at (j := i) (by omega)
  subst pe5
  have hC : RCells w3 [(pd5.add i, Vi (xs[i]?.getD 0))] := (RCells.cons pc5 (RCells.nil _))
  clear pc5
  refine Y.pv F (X.index rfl (F.e 12 rfl) (F.e 13 rfl) (X.idx (k := i) Try.underlying34 (Try.siz3 _) (by omega) (by omega) (by rw [Nat.mul_one]))) ?_;clear F ac;intro ac F
  refine Y.pv F (X.load rfl (F.e 14 rfl) (X.ld1 (Try.agg3 _) (hC.at 0 rfl))) ?_;clear F ac;intro ac F
  refine Y.pv F (X.binop rfl (F.e 11 rfl) (F.e 15 rfl) (X.eqlI Try.underlying3 rfl)) ?_;clear F ac;intro ac F
  refine Y.nil ?_
  replace F : Fr ac 19 [(0, .slice (some pd5) n c), (1, Vi v), (5, Vi i), (7, Vi n), (8, Vi i), (9, .bool true), (16, .bool ((v : Int) == (xs[i]?.getD 0)))] := F.sub _
  refine X.thenN ?_
  cases h6 : ((v : Int) == (xs[i]?.getD 0)) with
  | false =>
   try rw [h6] at F
   have h6p : ¬ (v : Int) = (xs[i]?.getD 0) := by simpa using h6
   have hmiss : ¬ v = xs[i]?.getD 0 := h6p
   refine Y.condF (F.e 16 rfl) ?_
   refine Y.skip ?_
   refine X.blockN ?_
   refine X.thenN ?_
   refine Y.lit (by kernel_rfl) ?_
   refine Y.pv F (X.binop rfl (F.e 8 rfl) (X.kc (Vi 1) rfl) (X.addI Try.underlying3 rfl (by omega) (by omega))) ?_;clear F ac;intro ac F
   refine Y.pv F (X.move rfl (F.e 18 rfl)) ?_;clear F ac;intro ac F
   refine Y.nil ?_
   replace F : Fr ac 19 [(0, .slice (some pd5) n c), (1, Vi v), (5, Vi i), (7, Vi n), (8, Vi ((i : Int) + 1)), (9, .bool true), (16, .bool false)] := F.sub _
   refine X.thenN ?_
   refine ⟨_, ?_, i + 1, rfl, GB_, by omega, fun j hj => if e : j = i then by rw [e]; exact hmiss else hno j (by omega), F.sub _⟩
   omega
  | true =>
   try rw [h6] at F
   have h6p : (v : Int) = (xs[i]?.getD 0) := by simpa using h6
   have hhit : v = xs[i]?.getD 0 := h6p
   refine Y.condT (F.e 16 rfl) ?_
   refine Y.seq ?_
   refine Y.lit (by kernel_rfl) ?_
   refine Y.pv F (X.move rfl (F.e 5 rfl)) ?_;clear F ac;intro ac F
   refine Y.pv F (X.assign rfl (F.e 17 rfl)) ?_;clear F ac;intro ac F
   refine Y.nil ?_
   replace F : Fr ac 19 [(0, .slice (some pd5) n c), (1, Vi v), (4, Vi i), (5, Vi i), (7, Vi n), (8, Vi i), (9, .bool true), (16, .bool true)] := F.sub _
   refine X.thenN ?_
   refine Y.ret ?_
   refine X.blockR ?_
   refine X.thenR ?_
   refine X.thenR ?_
   refine X.blockR ?_
   refine X.thenR ?_
   exact Y.ret0 (v := Vi i) F (Y.rs1 F rfl (by kernel_rfl)) ⟨_, rfl, by rw [hhit, List.getElem?_eq_getElem (by omega : i < xs.length)]; simp, G⟩
set_option maxRecDepth 100000 in
set_option maxHeartbeats 400000 in
theorem contains_any (a : Option Addr) (n c : Nat) (xs : List Int) (v : Int) (w : World) (hx : Ints w a n xs) :
  Calls Try.prog 97 #[.slice a n c, Vi v] w fun e w' => e = .returned (.bool (xs.contains v)) ∧ Gr w w' := by
 have G := Gr.refl w
 refine Y.calls 9 Try.func97 rfl rfl ?_
 intro ac F0
 have F : Fr ac 9 [(0, .slice a n c), (1, Vi v)] := F0.sub _
 clear F0
 refine Y.seq ?_
 refine Y.lit (by kernel_rfl) ?_
 refine Y.pv F (X.assign rfl (X.kc (.bool false) rfl)) ?_;clear F ac;intro ac F
 refine Y.nil ?_
 replace F : Fr ac 9 [(0, .slice a n c), (1, Vi v), (4, .bool false)] := F.sub _
 refine X.thenN ?_
 refine Y.seq ?_
 refine Y.lit (by kernel_rfl) ?_
 refine Y.pv F (X.move rfl (F.e 0 rfl)) ?_;clear F ac;intro ac F
 refine Y.pv F (X.move rfl (F.e 1 rfl)) ?_;clear F ac;intro ac F
 refine Y.pcall F (X.w0 rfl) rfl (X.enter (F := 103) rfl (X.kc (.func (.func 103) #[] #[]) rfl) (X.a2 (F.e 5 rfl) (F.e 6 rfl)) (enters_of Try.func103 (by kernel_rfl) rfl _)) (index_any a n c xs v w hx) ?_
 clear F ac
 rintro e w3 ⟨z, rfl, hz, g⟩
 refine ⟨_, rfl, ?_⟩
 intro ac F
 replace G := G.trans g
 replace hx := hx.gr g
 clear g
 refine Y.pv F (X.binop rfl (F.e 7 rfl) (X.kc (Vi 0) rfl) (X.geqI Try.underlying3 rfl)) ?_;clear F ac;intro ac F
 refine Y.pv F (X.assign rfl (F.e 8 rfl)) ?_;clear F ac;intro ac F
 refine Y.nil ?_
 replace F : Fr ac 9 [(0, .slice a n c), (1, Vi v), (4, .bool (decide ((0 : Int) ≤ z)))] := F.sub _
 refine X.thenN ?_
 refine Y.ret ?_
 exact Y.ret0 (v := .bool (decide ((0 : Int) ≤ z))) F (Y.rs1 F rfl (by kernel_rfl)) ⟨by rw [← hz], G⟩
set_option maxRecDepth 100000 in
set_option maxHeartbeats 400000 in
theorem at_any (bp : Nat) (t : Int) (ka : Option Addr) (kn kc : Nat) (w : World) :
  Calls Try.prog 84 #[Vp bp, Vi t, .slice ka kn kc] w fun e w' => ∃ bx bt bk, e = .returned (.func (.func 96) #[] #[Vp bx, Vp bt, Vp bk]) ∧ w'.cell? ⟨bx, 0, none⟩ = some (Vp bp) ∧ w'.cell? ⟨bt, 0, none⟩ = some (Vi t) ∧ w'.cell? ⟨bk, 0, none⟩ = some (.slice ka kn kc) ∧ w.heap.size ≤ bx ∧ (w.heap.size ≤ bt ∧ w.heap.size ≤ bk) ∧ Gr w w' := by
 have G := Gr.refl w
 refine Y.calls 8 Try.func84 rfl rfl ?_
 intro ac F0
 have F : Fr ac 8 [(0, Vp bp), (1, Vi t), (2, .slice ka kn kc)] := F0.sub _
 clear F0
 refine Y.seq ?_
 refine Y.lit (by kernel_rfl) ?_
 refine Y.pv F (X.box rfl (F.e 0 rfl) (Y.bx1 rfl)) ?_;clear F ac;intro ac F
 have hq3 : w.heap.size ≤ w.heap.size := G.size
 have g := Gr.alloc w (.cells #[Vp bp] 60)
 have hb := heap_alloc_new w (.cells #[Vp bp] 60)
 have hbl : w.heap.size < (w.alloc (.cells #[Vp bp] 60)).heap.size := by simp
 have hC2 : RCells (w.alloc (.cells #[Vp bp] 60)) [(Ad w.heap.size 0, Vp bp)] := (RCells.nil w).box (b := w.heap.size) #[Vp bp] 60 rfl
 generalize w.alloc (.cells #[Vp bp] 60) = w4 at *
 replace G := G.trans g
 have hC := hC2
 clear hC2
 clear g hb hbl
 refine Y.pv F (X.box rfl (F.e 1 rfl) (Y.bx1 rfl)) ?_;clear F ac;intro ac F
 have hq5 : w.heap.size ≤ w4.heap.size := G.size
 have g := Gr.alloc w4 (.cells #[Vi t] 3)
 have hb := heap_alloc_new w4 (.cells #[Vi t] 3)
 have hbl : w4.heap.size < (w4.alloc (.cells #[Vi t] 3)).heap.size := by simp
 have hC2 : RCells (w4.alloc (.cells #[Vi t] 3)) [(Ad w.heap.size 0, Vp bp), (Ad w4.heap.size 0, Vi t)] := hC.box (b := w4.heap.size) #[Vi t] 3 rfl
 generalize w4.alloc (.cells #[Vi t] 3) = w6 at *
 replace G := G.trans g
 replace hC := hC2
 clear hC2
 clear g hb hbl
 refine Y.pv F (X.box rfl (F.e 2 rfl) (Y.bx1 rfl)) ?_;clear F ac;intro ac F
 have hq7 : w.heap.size ≤ w6.heap.size := G.size
 have g := Gr.alloc w6 (.cells #[.slice ka kn kc] 34)
 have hb := heap_alloc_new w6 (.cells #[.slice ka kn kc] 34)
 have hbl : w6.heap.size < (w6.alloc (.cells #[.slice ka kn kc] 34)).heap.size := by simp
 have hC2 : RCells (w6.alloc (.cells #[.slice ka kn kc] 34)) [(Ad w.heap.size 0, Vp bp), (Ad w4.heap.size 0, Vi t), (Ad w6.heap.size 0, .slice ka kn kc)] := hC.box (b := w6.heap.size) #[.slice ka kn kc] 34 rfl
 generalize w6.alloc (.cells #[.slice ka kn kc] 34) = w8 at *
 replace G := G.trans g
 replace hC := hC2
 clear hC2
 clear g hb hbl
 refine Y.pv F (X.assign rfl (X.kc (.nilFunc) rfl)) ?_;clear F ac;intro ac F
 refine Y.nil ?_
 replace F : Fr ac 8 [(0, Vp bp), (1, Vi t), (2, .slice ka kn kc), (3, Vp w.heap.size), (4, Vp w4.heap.size), (5, Vp w6.heap.size), (6, .nilFunc)] := F.sub _
 refine X.thenN ?_
 refine Y.seq ?_
 refine Y.lit (by kernel_rfl) ?_
 refine Y.pv F (Y.fnc rfl (Y.m3 (F.e 3 rfl) (F.e 4 rfl) (F.e 5 rfl))) ?_;clear F ac;intro ac F
 refine Y.pv F (X.assign rfl (F.e 7 rfl)) ?_;clear F ac;intro ac F
 refine Y.nil ?_
 replace F : Fr ac 8 [(0, Vp bp), (1, Vi t), (2, .slice ka kn kc), (3, Vp w.heap.size), (4, Vp w4.heap.size), (5, Vp w6.heap.size), (6, .func (.func 96) #[] #[Vp w.heap.size, Vp w4.heap.size, Vp w6.heap.size])] := F.sub _
 refine X.thenN ?_
 refine Y.ret ?_
 exact Y.ret0 (v := .func (.func 96) #[] #[Vp w.heap.size, Vp w4.heap.size, Vp w6.heap.size]) F (Y.rs1 F rfl (by kernel_rfl)) ⟨_, _, _, rfl, hC.at 0 rfl, hC.at 1 rfl, hC.at 2 rfl, Nat.le_refl _, ⟨by omega, by omega⟩, G⟩
end
section
open Go.RowKit

set_option maxRecDepth 100000 in
set_option maxHeartbeats 1000000 in
theorem atIt_any (lp bx bt bk bp : Nat) (la ka : Option Addr) (m lc kn kc : Nat) (l : List (List Int)) (t : Int) (ks : List Int) (S Yb : Nat → Prop) (J : List (List Int) → World → Prop) (w : World)
  (hYS : ∀ b, Yb b → S b) (hk : ∀ W, Only S w W → AtE W bx bt bk bp la m lc l t ka kn kc ks) (hJ0 : J [] w) (hJg : ∀ xs W W', J xs W → Gr W W' → J xs W')
  (hY : ∀ pre x W, J pre W → Only S w W → (∃ rest, picks l t ks = pre ++ x :: rest) → x.length = 4 → YieldAt Fence.wide 0 Try.prog lp #[nuV x] W fun e W' => e = .returned (.bool true) ∧ J (pre ++ [x]) W' ∧ Only Yb W W') :
  Calls Try.prog 96 #[.func (.yield lp) #[] #[], Vp bx, Vp bt, Vp bk] w fun e w' => (∃ v, e = .returned v) ∧ J (picks l t ks) w' := by
 have G := Gr.refl w
 have hE := Only.refl S w
 have gJ := Gr.refl w
 have hJ := hJ0
 have hlm := (hk w hE).l.lt
 have hlen := (hk w hE).l.len
 have hA := hk w hE
 have hl := hA.l
 have hks := hA.k
 have hC : RCells w [(Ad bx 0, Vp bp), (Ad bt 0, Vi t), (Ad bk 0, .slice ka kn kc), (Ad bp 3, .slice la m lc)] := (RCells.cons hA.cx (RCells.cons hA.ct (RCells.cons hA.ck (RCells.cons hA.cl (RCells.nil _)))))
 clear hA
 refine Y.calls 33 Try.func96 rfl rfl ?_
 intro ac F0
 have F : Fr ac 33 [(0, .func (.yield lp) #[] #[]), (1, Vp bx), (2, Vp bt), (3, Vp bk)] := F0.sub _
 clear F0
 refine Y.seq ?_
 refine Y.lit (by kernel_rfl) ?_
 refine Y.pv F (X.load rfl (F.e 1 rfl) (X.ld1 (Try.agg60 _) (hC.at 0 rfl))) ?_;clear F ac;intro ac F
 refine Y.pv F (Y.nilC rfl (F.e 7 rfl)) ?_;clear F ac;intro ac F
 refine Y.pv F (X.field rfl (F.e 8 rfl) (X.fld Try.underlying101 rfl (Try.siz25 _) rfl rfl)) ?_;clear F ac;intro ac F
 refine Y.pv F (X.load rfl (F.e 9 rfl) (X.ld1 (Try.agg25 _) (hC.at 3 rfl))) ?_;clear F ac;intro ac F
 refine Y.pv F (X.len1 Try.underlying25 rfl (F.e 10 rfl)) ?_;clear F ac;intro ac F
 refine Y.pv F (X.move rfl (X.kc (Vi 0) rfl)) ?_;clear F ac;intro ac F
 refine Y.nil ?_
 replace F : Fr ac 33 [(0, .func (.yield lp) #[] #[]), (1, Vp bx), (2, Vp bt), (3, Vp bk), (10, .slice la m lc), (11, Vi m), (12, Vi 0)] := F.sub _
 refine X.thenN ?_
 refine Y.block ?_
 refine Y.loop (fun me_ ac wr => ∃ (i : Nat), me_ = m - i ∧ i ≤ m ∧ Only S w wr ∧ J (picks (l.take i) t ks) wr ∧ Fr ac 33 [(0, .func (.yield lp) #[] #[]), (1, Vp bx), (2, Vp bt), (3, Vp bk), (10, .slice la m lc), (11, Vi m), (12, Vi i)]) _ ⟨0, rfl, Nat.zero_le _, hE, hJg _ _ _ hJ gJ, F.sub _⟩ ?_
 clear F hE hJ gJ hC hl hks G ac
 intro me_ ac w3 hI
 obtain ⟨i, rfl, hi, hE, hJ, F⟩ := hI
 have gJ := Gr.refl w3
 have G := Gr.refl w3
 have hA := hk w3 hE
 have hl := hA.l
 have hks := hA.k
 have hC : RCells w3 [(Ad bx 0, Vp bp), (Ad bt 0, Vi t), (Ad bk 0, .slice ka kn kc), (Ad bp 3, .slice la m lc)] := (RCells.cons hA.cx (RCells.cons hA.ct (RCells.cons hA.ck (RCells.cons hA.cl (RCells.nil _)))))
 clear hA
 refine Y.seq ?_
 refine Y.lit (by kernel_rfl) ?_
 refine Y.pv F (X.binop rfl (F.e 12 rfl) (F.e 11 rfl) (X.lssI Try.underlying3 rfl)) ?_;clear F ac;intro ac F
 refine Y.nil ?_
 replace F : Fr ac 33 [(0, .func (.yield lp) #[] #[]), (1, Vp bx), (2, Vp bt), (3, Vp bk), (10, .slice la m lc), (11, Vi m), (12, Vi i), (13, .bool (decide ((i : Int) < m)))] := F.sub _
 refine X.thenN ?_
 refine Y.seq ?_
 cases h4 : decide ((i : Int) < m) with
 | false =>
  try rw [h4] at F
  have h4p : ¬ ((i : Int) < m) := of_decide_eq_false h4
  refine Y.condF (F.e 13 rfl) ?_
  refine Y.exit ?_
  refine X.thenX ?_
  refine X.thenX ?_
  refine X.blockX ?_
  show bodyPostM _ _ _ _ _ .ret _ _
  have hpi : l.take i = l := List.take_of_length_le (by have := hl.len; omega)
  rw [hpi] at hJ
  exact Y.ret0 (v := .tuple #[]) F (Y.rs0 rfl) ⟨⟨_, rfl⟩, hJg _ _ _ hJ gJ⟩
 | true =>
  try rw [h4] at F
  have h4p : ((i : Int) < m) := of_decide_eq_true h4
  refine Y.condT (F.e 13 rfl) ?_
  refine Y.skip ?_
  refine X.thenN ?_
  refine Y.seq ?_
  refine Y.block ?_
  refine Y.seq ?_
  refine Y.lit (by kernel_rfl) ?_
  obtain ⟨pd5, pe5, -, -, pc5⟩ := hl.at (j := i) (by omega)
  subst pe5
  replace hC : RCells w3 [(Ad bx 0, Vp bp), (Ad bt 0, Vi t), (Ad bk 0, .slice ka kn kc), (Ad bp 3, .slice (some pd5) m lc), (pd5.add (i * 4), Vi (cv l i 0)), (⟨(pd5.add (i * 4)).block, (pd5.add (i * 4)).off + 1, none⟩, Vi (cv l i 1)), (⟨(pd5.add (i * 4)).block, (pd5.add (i * 4)).off + 2, none⟩, Vi (cv l i 2)), (⟨(pd5.add (i * 4)).block, (pd5.add (i * 4)).off + 3, none⟩, Vi (cv l i 3))] := hC.append ((RCells.cons (pc5 0 (by decide)) (RCells.cons (pc5 1 (by decide)) (RCells.cons (pc5 2 (by decide)) (RCells.cons (pc5 3 (by decide)) (RCells.nil _))))))
  clear pc5
  refine Y.pv F (X.index rfl (F.e 10 rfl) (F.e 12 rfl) (X.idx (k := i) Try.underlying25 (Try.siz33 _) (by omega) (by omega) rfl)) ?_;clear F ac;intro ac F
  refine Y.pv F (X.load rfl (F.e 14 rfl) (X.ldN (Try.agg33 _) (Try.siz33 _) (Y.atz (pd5.add (i * 4)) (Y.AtFrom.cons (hC.at 4 rfl) (Y.AtFrom.cons (hC.at 5 rfl) (Y.AtFrom.cons (hC.at 6 rfl) (Y.AtFrom.cons (hC.at 7 rfl) (Y.AtFrom.nil _ _ _)))))))) ?_;clear F ac;intro ac F
  refine Y.pv F (Y.al rfl (Try.new33 _)) ?_;clear F ac;intro ac F
  refine Y.punit F (X.w0 rfl) rfl (X.store rfl (F.e 6 rfl) (F.e 15 rfl) (Y.stNew [Vi (cv l i 0), Vi (cv l i 1), Vi (cv l i 2), Vi (cv l i 3)] [Vi 0, Vi 0, Vi 0, Vi 0] (Try.siz33 _) rfl rfl)) ?_;clear F ac;intro ac F
  have g := Gr.alloc w3 (.cells #[Vi (cv l i 0), Vi (cv l i 1), Vi (cv l i 2), Vi (cv l i 3)] 33)
  have hb := heap_alloc_new w3 (.cells #[Vi (cv l i 0), Vi (cv l i 1), Vi (cv l i 2), Vi (cv l i 3)] 33)
  have hbl : w3.heap.size < (w3.alloc (.cells #[Vi (cv l i 0), Vi (cv l i 1), Vi (cv l i 2), Vi (cv l i 3)] 33)).heap.size := by simp
  have hC2 : RCells (w3.alloc (.cells #[Vi (cv l i 0), Vi (cv l i 1), Vi (cv l i 2), Vi (cv l i 3)] 33)) [(Ad bx 0, Vp bp), (Ad bt 0, Vi t), (Ad bk 0, .slice ka kn kc), (Ad bp 3, .slice (some pd5) m lc), (pd5.add (i * 4), Vi (cv l i 0)), (⟨(pd5.add (i * 4)).block, (pd5.add (i * 4)).off + 1, none⟩, Vi (cv l i 1)), (⟨(pd5.add (i * 4)).block, (pd5.add (i * 4)).off + 2, none⟩, Vi (cv l i 2)), (⟨(pd5.add (i * 4)).block, (pd5.add (i * 4)).off + 3, none⟩, Vi (cv l i 3)), (Ad w3.heap.size 0, Vi (cv l i 0)), (Ad w3.heap.size 1, Vi (cv l i 1)), (Ad w3.heap.size 2, Vi (cv l i 2)), (Ad w3.heap.size 3, Vi (cv l i 3))] := hC.box (b := w3.heap.size) #[Vi (cv l i 0), Vi (cv l i 1), Vi (cv l i 2), Vi (cv l i 3)] 33 rfl
  generalize w3.alloc (.cells #[Vi (cv l i 0), Vi (cv l i 1), Vi (cv l i 2), Vi (cv l i 3)] 33) = w6 at *
  replace G := G.trans g
  replace hC := hC2
  clear hC2
  replace gJ := gJ.trans g
  replace hE := hE.thenGr g
  replace hl := hl.gr g
  replace hks := hks.gr g
  clear g hb hbl
  refine Y.nil ?_
  replace F : Fr ac 33 [(0, .func (.yield lp) #[] #[]), (1, Vp bx), (2, Vp bt), (3, Vp bk), (6, Vp w3.heap.size), (10, .slice (some pd5) m lc), (11, Vi m), (12, Vi i), (13, .bool true)] := F.sub _
  refine X.thenN ?_
  refine Y.seq ?_
  refine Y.litcutk 13 _ rfl (by kernel_rfl) ?_
  simp only [List.take_succ_cons, List.take_zero, List.drop_succ_cons, List.drop_zero]
  refine Y.pv F (X.field rfl (F.e 6 rfl) (X.fld Try.underlying33 rfl (Try.siz3 _) rfl rfl)) ?_;clear F ac;intro ac F
  refine Y.pv F (X.load rfl (F.e 16 rfl) (X.ld1 (Try.agg3 _) (hC.at 8 rfl))) ?_;clear F ac;intro ac F
  refine Y.pv F (X.load rfl (F.e 2 rfl) (X.ld1 (Try.agg3 _) (hC.at 1 rfl))) ?_;clear F ac;intro ac F
  refine Y.pv F (X.binop rfl (F.e 17 rfl) (F.e 18 rfl) (X.eqlI Try.underlying3 rfl)) ?_;clear F ac;intro ac F
  refine Y.pv F (X.move rfl (F.e 19 rfl)) ?_;clear F ac;intro ac F
  cases h7 : ((cv l i 0 : Int) == t) with
  | false =>
   try rw [h7] at F
   have h7p : ¬ (cv l i 0 : Int) = t := by simpa using h7
   have hpk : pickB t ks (l[i]?.getD []) = false := by show ((cv l i 0 == t) && ks.contains (cv l i 1)) = false; rw [h7]; rfl
   refine Y.pskip F (X.w2 rfl (F.yl (j := 4) (d := 20) (b := false) rfl (by kernel_rfl)) rfl) rfl ?_;clear F ac;intro ac F
   refine Y.pskip F (X.w2 rfl (F.yl (j := 4) (d := 20) (b := false) rfl (by kernel_rfl)) rfl) rfl ?_;clear F ac;intro ac F
   refine Y.pskip F (X.w2 rfl (F.yl (j := 4) (d := 20) (b := false) rfl (by kernel_rfl)) rfl) rfl ?_;clear F ac;intro ac F
   refine Y.pskip F (X.w2 rfl (F.yl (j := 4) (d := 20) (b := false) rfl (by kernel_rfl)) rfl) rfl ?_;clear F ac;intro ac F
   refine Y.pv F (X.pickF rfl (F.e 20 rfl) (X.kc (.bool false) rfl)) ?_;clear F ac;intro ac F
   refine Y.pv F (X.move rfl (F.e 25 rfl)) ?_;clear F ac;intro ac F
   refine Y.pskip F (X.w2 rfl (F.yl (j := 10) (d := 26) (b := false) rfl (by kernel_rfl)) rfl) rfl ?_;clear F ac;intro ac F
   refine Y.pskip F (X.w2 rfl (F.yl (j := 10) (d := 26) (b := false) rfl (by kernel_rfl)) rfl) rfl ?_;clear F ac;intro ac F
   refine Y.nil ?_
   refine X.thenN ?_
   refine Y.cutskip F (X.w2 rfl (F.yl (j := 10) (d := 26) (b := false) rfl (by kernel_rfl)) rfl) rfl (by kernel_rfl) ?_;clear F ac;intro ac F
   refine Y.pskip F (X.w2 rfl (F.yl (j := 10) (d := 26) (b := false) rfl (by kernel_rfl)) rfl) rfl ?_;clear F ac;intro ac F
   refine Y.pv F (X.pickF rfl (F.e 26 rfl) (X.kc (.bool false) rfl)) ?_;clear F ac;intro ac F
   refine Y.nil ?_
   replace F : Fr ac 33 [(0, .func (.yield lp) #[] #[]), (1, Vp bx), (2, Vp bt), (3, Vp bk), (6, Vp w3.heap.size), (10, .slice (some pd5) m lc), (11, Vi m), (12, Vi i), (13, .bool true), (31, .bool false)] := F.sub _
   refine X.thenN ?_
   refine Y.condF (F.e 31 rfl) ?_
   refine Y.skip ?_
   refine X.blockN ?_
   refine X.thenN ?_
   refine Y.lit (by kernel_rfl) ?_
   refine Y.pv F (X.binop rfl (F.e 12 rfl) (X.kc (Vi 1) rfl) (X.addI Try.underlying3 rfl (by omega) (by omega))) ?_;clear F ac;intro ac F
   refine Y.pv F (X.move rfl (F.e 32 rfl)) ?_;clear F ac;intro ac F
   refine Y.nil ?_
   replace F : Fr ac 33 [(0, .func (.yield lp) #[] #[]), (1, Vp bx), (2, Vp bt), (3, Vp bk), (6, Vp w3.heap.size), (10, .slice (some pd5) m lc), (11, Vi m), (12, Vi ((i : Int) + 1)), (13, .bool true), (31, .bool false)] := F.sub _
   refine X.thenN ?_
   refine ⟨_, ?_, i + 1, rfl, by omega, hE, by rw [picks_take (by omega), hpk]; simp only [Bool.false_eq_true, if_false, List.append_nil]; exact hJg _ _ _ hJ gJ, F.sub _⟩
   omega
  | true =>
   try rw [h7] at F
   have h7p : (cv l i 0 : Int) = t := by simpa using h7
   refine Y.pval F (X.w1 rfl (F.yl (j := 4) (d := 20) (b := true) rfl (by kernel_rfl))) rfl (X.load rfl (F.e 3 rfl) (X.ld1 (Try.agg34 _) (hC.at 2 rfl))) ?_;clear F ac;intro ac F
   refine Y.pval F (X.w1 rfl (F.yl (j := 4) (d := 20) (b := true) rfl (by kernel_rfl))) rfl (X.field rfl (F.e 6 rfl) (X.fld Try.underlying33 rfl (Try.siz3 _) rfl rfl)) ?_;clear F ac;intro ac F
   refine Y.pval F (X.w1 rfl (F.yl (j := 4) (d := 20) (b := true) rfl (by kernel_rfl))) rfl (X.load rfl (F.e 22 rfl) (X.ld1 (Try.agg3 _) (hC.at 9 rfl))) ?_;clear F ac;intro ac F
   refine Y.pcall F (X.w1 rfl (F.yl (j := 4) (d := 20) (b := true) rfl (by kernel_rfl))) rfl (X.enter (F := 97) rfl (X.kc (.func (.func 97) #[] #[]) rfl) (X.a2 (F.e 21 rfl) (F.e 23 rfl)) (enters_of Try.func97 (by kernel_rfl) rfl _)) (contains_any ka kn kc ks (cv l i 1) w6 hks) ?_
   clear F ac
   rintro e w8 ⟨rfl, g⟩
   refine ⟨_, rfl, ?_⟩
   intro ac F
   replace G := G.trans g
   replace hC := hC.gr g
   replace gJ := gJ.trans g
   replace hE := hE.thenGr g
   replace hl := hl.gr g
   replace hks := hks.gr g
   clear g
   refine Y.pv F (X.pickT rfl (F.e 20 rfl) (F.e 24 rfl)) ?_;clear F ac;intro ac F
   refine Y.pv F (X.move rfl (F.e 25 rfl)) ?_;clear F ac;intro ac F
   cases h9 : ks.contains (cv l i 1) with
   | false =>
    try rw [h9] at F
    have hpk : pickB t ks (l[i]?.getD []) = false := by show ((cv l i 0 == t) && ks.contains (cv l i 1)) = false; rw [h7, h9]; rfl
    refine Y.pskip F (X.w2 rfl (F.yl (j := 10) (d := 26) (b := false) rfl (by kernel_rfl)) rfl) rfl ?_;clear F ac;intro ac F
    refine Y.pskip F (X.w2 rfl (F.yl (j := 10) (d := 26) (b := false) rfl (by kernel_rfl)) rfl) rfl ?_;clear F ac;intro ac F
    refine Y.nil ?_
    refine X.thenN ?_
    refine Y.cutskip F (X.w2 rfl (F.yl (j := 10) (d := 26) (b := false) rfl (by kernel_rfl)) rfl) rfl (by kernel_rfl) ?_;clear F ac;intro ac F
    refine Y.pskip F (X.w2 rfl (F.yl (j := 10) (d := 26) (b := false) rfl (by kernel_rfl)) rfl) rfl ?_;clear F ac;intro ac F
    refine Y.pv F (X.pickF rfl (F.e 26 rfl) (X.kc (.bool false) rfl)) ?_;clear F ac;intro ac F
    refine Y.nil ?_
    replace F : Fr ac 33 [(0, .func (.yield lp) #[] #[]), (1, Vp bx), (2, Vp bt), (3, Vp bk), (6, Vp w3.heap.size), (10, .slice (some pd5) m lc), (11, Vi m), (12, Vi i), (13, .bool true), (31, .bool false)] := F.sub _
    refine X.thenN ?_
    refine Y.condF (F.e 31 rfl) ?_
    refine Y.skip ?_
    refine X.blockN ?_
    refine X.thenN ?_
    refine Y.lit (by kernel_rfl) ?_
    refine Y.pv F (X.binop rfl (F.e 12 rfl) (X.kc (Vi 1) rfl) (X.addI Try.underlying3 rfl (by omega) (by omega))) ?_;clear F ac;intro ac F
    refine Y.pv F (X.move rfl (F.e 32 rfl)) ?_;clear F ac;intro ac F
    refine Y.nil ?_
    replace F : Fr ac 33 [(0, .func (.yield lp) #[] #[]), (1, Vp bx), (2, Vp bt), (3, Vp bk), (6, Vp w3.heap.size), (10, .slice (some pd5) m lc), (11, Vi m), (12, Vi ((i : Int) + 1)), (13, .bool true), (31, .bool false)] := F.sub _
    refine X.thenN ?_
    refine ⟨_, ?_, i + 1, rfl, by omega, hE, by rw [picks_take (by omega), hpk]; simp only [Bool.false_eq_true, if_false, List.append_nil]; exact hJg _ _ _ hJ gJ, F.sub _⟩
    omega
   | true =>
    try rw [h9] at F
    have hpk : pickB t ks (l[i]?.getD []) = true := by show ((cv l i 0 == t) && ks.contains (cv l i 1)) = true; rw [h7, h9]; rfl
    refine Y.pval F (X.w1 rfl (F.yl (j := 10) (d := 26) (b := true) rfl (by kernel_rfl))) rfl (X.move rfl (F.e 0 rfl)) ?_;clear F ac;intro ac F
    refine Y.pval F (X.w1 rfl (F.yl (j := 10) (d := 26) (b := true) rfl (by kernel_rfl))) rfl (X.load rfl (F.e 6 rfl) (X.ldN (Try.agg33 _) (Try.siz33 _) (Y.atz (⟨w3.heap.size, 0, none⟩) (Y.AtFrom.cons (hC.at 8 rfl) (Y.AtFrom.cons (hC.at 9 rfl) (Y.AtFrom.cons (hC.at 10 rfl) (Y.AtFrom.cons (hC.at 11 rfl) (Y.AtFrom.nil _ _ _)))))))) ?_;clear F ac;intro ac F
    refine Y.nil ?_
    refine X.thenN ?_
    have hlx : (l[i]?.getD []).length = 4 := by obtain ⟨_, _, _, h4, _⟩ := hl.at (j := i) (by omega); exact h4
    have hy := hY _ _ w8 (hJg _ _ _ hJ gJ) hE (picks_pre (by omega) hpk) hlx
    refine Y.cutyield F (X.w1 rfl (F.yl (j := 10) (d := 26) (b := true) rfl (by kernel_rfl))) rfl (by kernel_rfl) rfl (F.e 27 rfl) (F.e 28 rfl) hy ?_
    clear hy hJ gJ hC hl hks
    rintro w10 ⟨hJ, hOY⟩
    replace hE := hE.trans (hOY.mono' hYS)
    clear F ac hOY
    intro ac F
    replace G := Gr.refl w10
    have gJ := Gr.refl w10
    have hA := hk w10 hE
    have hl := hA.l
    have hks := hA.k
    have hC : RCells w10 [(Ad bx 0, Vp bp), (Ad bt 0, Vi t), (Ad bk 0, .slice ka kn kc), (Ad bp 3, .slice (some pd5) m lc)] := (RCells.cons hA.cx (RCells.cons hA.ct (RCells.cons hA.ck (RCells.cons hA.cl (RCells.nil _)))))
    clear hA
    refine Y.pval F (X.w1 rfl (F.yl (j := 10) (d := 26) (b := true) rfl (by kernel_rfl))) rfl (X.notB rfl (F.e 29 rfl) rfl) ?_;clear F ac;intro ac F
    refine Y.pv F (X.pickT rfl (F.e 26 rfl) (F.e 30 rfl)) ?_;clear F ac;intro ac F
    refine Y.nil ?_
    replace F : Fr ac 33 [(0, .func (.yield lp) #[] #[]), (1, Vp bx), (2, Vp bt), (3, Vp bk), (6, Vp w3.heap.size), (10, .slice (some pd5) m lc), (11, Vi m), (12, Vi i), (13, .bool true), (31, .bool false)] := F.sub _
    refine X.thenN ?_
    refine Y.condF (F.e 31 rfl) ?_
    refine Y.skip ?_
    refine X.blockN ?_
    refine X.thenN ?_
    refine Y.lit (by kernel_rfl) ?_
    refine Y.pv F (X.binop rfl (F.e 12 rfl) (X.kc (Vi 1) rfl) (X.addI Try.underlying3 rfl (by omega) (by omega))) ?_;clear F ac;intro ac F
    refine Y.pv F (X.move rfl (F.e 32 rfl)) ?_;clear F ac;intro ac F
    refine Y.nil ?_
    replace F : Fr ac 33 [(0, .func (.yield lp) #[] #[]), (1, Vp bx), (2, Vp bt), (3, Vp bk), (6, Vp w3.heap.size), (10, .slice (some pd5) m lc), (11, Vi m), (12, Vi ((i : Int) + 1)), (13, .bool true), (31, .bool false)] := F.sub _
    refine X.thenN ?_
    refine ⟨_, ?_, i + 1, rfl, by omega, hE, by rw [picks_take (by omega), hpk]; exact hJg _ _ _ hJ gJ, F.sub _⟩
    omega
end
section
set_option linter.unusedVariables false
open Go.RowKit
/-- the four numbers of a nudge in a new variable -/
def NuC (b : Nat) (x : List Int) : List (Addr × Value) := [(⟨b, 0, none⟩, .int .i64 (nv x 0)), (⟨b, 1, none⟩, .int .i64 (nv x 1)), (⟨b, 2, none⟩, .int .i64 (nv x 2)), (⟨b, 3, none⟩, .int .i64 (nv x 3))]
theorem nuC_box (W : World) (x : List Int) (t : TypeId) : RCells (W.alloc (.cells #[.int .i64 (nv x 0), .int .i64 (nv x 1), .int .i64 (nv x 2), .int .i64 (nv x 3)] t)) (NuC W.heap.size x) :=
  (RCells.nil W).box (b := W.heap.size) #[.int .i64 (nv x 0), .int .i64 (nv x 1), .int .i64 (nv x 2), .int .i64 (nv x 3)] t rfl
namespace Y
variable {A : Act} {N : Nat} {L : List (Nat × Value)} {D : List Deferred} {Q : Exit → Act → World → Prop} {w : World}
theorem fr_round9 {pt : Nat} (F : Fr A N L D) (hp : pt < N) (v : Value) : Fr { tmps := A.tmps.setIfInBounds pt v, defers := [] } N (X.putS L (some pt) v) := by
  have h := F.put (o := some pt) (v := v) (by simpa using hp)
  exact ⟨h.sz, rfl, h.get⟩
theorem fr_mark9 (F : Fr A N L D) (d : Deferred) : Fr { A with defers := d :: A.defers } N L (d :: D) := ⟨F.sz, by rw [← F.df], F.get⟩
set_option maxHeartbeats 400000 in
theorem atRange {g : Operand} {body : Code} {id pt d : Nat} {o1 o2 : Oper} {bx bt bk bp : Nat} {la : Option Addr} {m lc : Nat} {l : List (List Int)} {t : Int} {ka : Option Addr} {kn kc : Nat} {ks : List Int} (F : Fr A N L D) (hp : pt < N) (hd : d < N) (hne : (d == pt) = false)
    (ho1 : o1.op = .alloc 33) (hg1 : o1.guard = none) (hd1 : o1.dst = some d) (ho2 : o2.op = .store 33 (.tmp d) (.tmp pt)) (hg2 : o2.guard = none) (hd2 : o2.dst = none)
    (hg : A.eval g = .func (.func 96) #[] #[.pointer (some ⟨bx, 0, none⟩), .pointer (some ⟨bt, 0, none⟩), .pointer (some ⟨bk, 0, none⟩)])
    (Yb : Nat → Prop) (hY : ∀ b, Yb b → b < w.heap.size) (hk : ∀ W, Only (fun b => Yb b ∨ w.heap.size ≤ b) w W → AtE W bx bt bk bp la m lc l t ka kn kc ks)
    (K : List (List Int) → World → Prop) (h0 : K [] w) (hK : ∀ xs W W', K xs W → Only (fun b => w.heap.size ≤ b) W W' → K xs W')
    (hbody : ∀ (pre : List (List Int)) (x : List Int) (W : World) (A : Act) (b : Nat), Only Yb w W → K pre W → (∃ rest, picks l t ks = pre ++ x :: rest) → x.length = 4 → w.heap.size + 1 < b → RCells W (NuC b x) →
      Fr A N (X.putS (X.putS L (some pt) (nuV x)) (some d) (.pointer (some ⟨b, 0, none⟩))) → body.wpIn (FW (some (w.heap.size + 1))) 0 Try.prog (roundQ Yb (fun xs W => Only Yb w W ∧ K xs W) (fun _ _ => False) (pre ++ [x]) W) A W)
    (hdone : ∀ (W : World) (A : Act), Only Yb w W → K (picks l t ks) W → W.heap[w.heap.size]? = some (.deferred (some [])) → Fr A N L ({ target := .collected w.heap.size, args := #[] } :: D) → Q .normal A W) :
    (Code.rangeFunc g #[pt] (.region id #[o1, o2] false) body).wpIn (FW none) 0 Try.prog Q A w := by
  refine (wpIn_wide (n := 0)).2 ?_
  have hdp : ¬ d = pt := by simpa using hne
  have hdp2 : ¬ pt = d := fun e => hdp e.symm
  refine range_rule3 (P := Try.prog) (α := List Int) (gf := 96) (a := A) hg (enters_of Try.func96 (by kernel_rfl) rfl) (fun xs W => Only Yb w W ∧ K xs W) (fun _ _ => False) Yb
    (fun pre x args W => args = #[nuV x] ∧ (∃ rest, picks l t ks = pre ++ x :: rest) ∧ x.length = 4) (fun xs => xs = picks l t ks)
    (fun x A1 W => ∃ b, w.heap.size + 1 < b ∧ RCells W (NuC b x) ∧ Fr A1 N (X.putS (X.putS L (some pt) (nuV x)) (some d) (.pointer (some ⟨b, 0, none⟩)))) (fun pre x W => (∃ rest, picks l t ks = pre ++ x :: rest) ∧ x.length = 4)
    (fun xs W W' h g => ⟨h.1.thenGr g, hK _ _ _ h.2 (g.only _)⟩) (fun x A1 W o h => ?_) (fun pre x args W h => h.2) (fun pre x W W' h g => h) (fun h => by have := hY _ h; omega) (fun h => by have := hY _ h; omega)
    (fun xs W o h => ⟨h.1.step2 (putObj_only _ _ _) (fun r e => .inr (by omega)), hK _ _ _ h.2 ((putObj_only _ _ _).mono' (fun i e => by omega))⟩) (fun _ _ _ h => h.elim) (fun pre x args W h => by rw [h.1]; rfl) (fun pre x args W o h => h)
    ⟨Only.refl _ _, h0⟩ (fun xs W o h => ⟨h.1.thenGr (Gr.alloc _ _), hK _ _ _ h.2 (alloc_only _ _ _)⟩) (fun lp pre x args W K' hsz hE hK' => ?_) (fun pre x W A1 hi hB hA hsz => ?_) ?_ (fun xs W hS hi hk => ?_) (fun _ _ h => h.elim)
  · obtain ⟨b, hb, hc, hF⟩ := h
    exact ⟨b, hb, hc.only (putObj_only _ _ _) (fun p hp e => by simp [NuC] at hp; rcases hp with rfl | rfl | rfl | rfl <;> (simp only at e; omega)), hF⟩
  · obtain ⟨rfl, _, hx4⟩ := hE
    have hF := fr_round9 F hp (nuV x)
    suffices h1 : (Code.region id #[o1, o2] false).wpIn (Fence.wide.inRound lp) 0 Try.prog (Exit.then K' (fun _ _ _ => False)) { tmps := A.tmps.setIfInBounds pt (nuV x), defers := [] } W by simpa using h1
    show (Code.region id #[o1, o2] false).wpIn (FW (some lp)) 0 Try.prog _ _ W
    refine Y.lit (l := [o1, o2]) (by simp [ho1, ho2]) ?_
    refine Y.pval hF (X.w0 hg1) (by rw [hd1]; simpa using hd) (Y.al ho1 (Try.new33 _)) ?_
    intro A2 F2
    rw [hd1] at F2
    refine Y.punit F2 (X.w0 hg2) (by rw [hd2]) (X.store ho2 (F2.ev d _ (by simp [X.putS, lookS])) (F2.ev pt (nuV x) (by simp [X.putS, lookS, List.filter_cons, hdp, hdp2])) (Y.stNew [.int .i64 (nv x 0), .int .i64 (nv x 1), .int .i64 (nv x 2), .int .i64 (nv x 3)] [.int .i64 0, .int .i64 0, .int .i64 0, .int .i64 0] (Try.siz33 _) rfl rfl)) ?_
    intro A3 F3
    rw [hd2] at F3
    refine Y.nil ?_
    exact hK' _ _ (Gr.alloc _ _) ⟨W.heap.size, by omega, nuC_box W x 33, F3⟩
  · obtain ⟨b, hb, hc, hF⟩ := hA
    exact hbody pre x W A1 b hi.1 hi.2 hB.1 hB.2 hb hc hF
  · intro L' hLs hLp hyield hstart
    obtain ⟨W0, hW0⟩ : ∃ W0, (w.alloc (.deferred (some []))).alloc (.loop L') = W0 := ⟨_, rfl⟩
    have g0 : Gr w W0 := by rw [← hW0]; exact (Gr.alloc _ _).allocR _
    have s0 : W0.heap.size = w.heap.size + 2 := by rw [← hW0]; simp
    rw [hW0] at hstart ⊢
    refine callsIn_wide.2 ?_
    refine (atIt_any (w.heap.size + 1) bx bt bk bp la ka m lc kn kc l t ks (fun b => Yb b ∨ w.heap.size ≤ b) Yb (Between w.heap.size L' (fun xs W => Only Yb w W ∧ K xs W)) W0 (fun b h => .inl h) (fun W h => hk W ((g0.only _).trans h)) hstart ?_ ?_).mono ?_
    · rintro xs W W' ⟨hi, hl, hk⟩ g
      exact ⟨⟨hi.1.thenGr g, hK _ _ _ hi.2 (g.only _)⟩, (g.below.block _ (Array.getElem?_eq_some_iff.1 hl).1).trans hl, (g.below.block _ (Array.getElem?_eq_some_iff.1 hk).1).trans hk⟩
    · intro pre x W hJ hO hpre hx4
      exact (hyield pre x _ W hJ ⟨rfl, hpre, hx4⟩).mono (fun e W' h => by
        rcases h with ⟨h1, h2, h3⟩ | ⟨_, c, h, _⟩
        · exact ⟨h1, h2, h3⟩
        · exact h.elim)
    · rintro e W' ⟨hv, hJ⟩
      exact ⟨hv, .inl ⟨_, rfl, hJ⟩⟩
  · subst hS
    exact hdone W _ hi.1 hi.2 hk (fr_mark9 F _)
end Y
end
section
set_option linter.unusedVariables false
open Go.RowKit
theorem only_grown {w w' : World} {row : Option Nat} (h : w.grownBy w' row) : Only (fun b => row = some b) w w' := by
  obtain ⟨h1, h2, h3, h4, h5⟩ := h
  exact ⟨h1, h2, h3, h4, fun b hb hn => h5 b hb (fun e => hn e.symm)⟩
/-- the slice v, of the call's own, with n elements of k cells -/
def OwnR (w : World) (B e k : Nat) (v : Value) (n : Nat) (xs : List Value) : Prop := w.ownsRow B e k v n xs
section
variable {w w' : World} {B e k n : Nat} {v : Value} {xs : List Value}
theorem OwnR.nil (w : World) (B e k : Nat) : OwnR w B e k (.slice none 0 0) 0 [] := World.ownsRow_nil w B e k
theorem OwnR.ge (h : OwnR w B e k v n xs) {b : Nat} (hb : v.ownBlock = some b) : B ≤ b ∧ b < w.heap.size := by
  rcases h.2 with ⟨rfl, _⟩ | ⟨g, cap, cur, rfl, h2, h3, _⟩
  · simp [Value.ownBlock] at hb
  · simp [Value.ownBlock] at hb; subst hb; exact ⟨h2, (Array.getElem?_eq_some_iff.1 h3).1⟩
theorem OwnR.only {S : Nat → Prop} (h : OwnR w B e k v n xs) (g : Only S w w') (hs : ∀ b, v.ownBlock = some b → ¬ S b) : OwnR w' B e k v n xs := by
  refine ⟨h.1, ?_⟩
  rcases h.2 with h2 | ⟨b, cap, cur, h1, h2, h3, h4⟩
  · exact .inl h2
  · exact .inr ⟨b, cap, cur, h1, h2, (g.block b (Array.getElem?_eq_some_iff.1 h3).1 (hs b (by rw [h1]; rfl))).trans h3, h4⟩
theorem OwnR.gr (h : OwnR w B e k v n xs) (g : Gr w w') : OwnR w' B e k v n xs := h.only (g.only (fun _ => False)) (fun _ _ h => h)
theorem OwnR.shape (h : OwnR w B e k v n xs) : (v = .slice none 0 0 ∧ n = 0) ∨ ∃ g c, v = .slice (some ⟨g, 0, none⟩) n c ∧ B ≤ g ∧ g < w.heap.size := by
  rcases h.2 with h2 | ⟨g, cap, cur, h1, h2, h3, h4⟩
  · exact .inl h2
  · exact .inr ⟨g, cap, h1, h2, (Array.getElem?_eq_some_iff.1 h3).1⟩
theorem OwnR.ownP {g c : Nat} (h : OwnR w B e k (.slice (some ⟨g, 0, none⟩) n c) n xs) {val : Nat → Value} (hv : ∀ j u, xs[j]? = some u → u = val j) : OwnP w g (n * k) val := by
  rcases h.2 with ⟨h2, _⟩ | ⟨g', cap, cur, h1, h2, h3, h4, h5, h6, h7⟩
  · cases h2
  · injection h1 with h1 _ h1c
    injection h1 with h1
    injection h1 with h1
    subst h1
    refine ⟨cur, e, h3, by rw [h6]; exact Nat.mul_le_mul_right _ h4, fun j hj => ?_⟩
    have hl := h.1
    have hx : xs[j]? = some xs[j] := List.getElem?_eq_getElem (by omega)
    have h8 : (cur.toList.take (n * k))[j]? = some xs[j] := by rw [h7]; exact hx
    rw [List.getElem?_take_of_lt hj] at h8
    rw [← hv j _ hx]
    simpa using h8
/-- the numbers of a list of the call's own -/
theorem OwnR.ints {zs : List Int} (h : OwnR w B e 1 v zs.length (zs.map (Value.int .i64))) (hl : zs.length < 1152921504606846976) : ∃ a c, v = .slice a zs.length c ∧ Ints w a zs.length zs := by
  rcases h.2 with ⟨rfl, h0⟩ | ⟨g, cap, cur, rfl, _, h3, hnc, _⟩
  · exact ⟨none, 0, by rw [h0], ⟨rfl, hl, fun j hj => by omega⟩⟩
  · refine ⟨some ⟨g, 0, none⟩, cap, rfl, ⟨rfl, hl, fun j hj => ?_⟩⟩
    exact ⟨⟨g, 0, none⟩, rfl, (Array.getElem?_eq_some_iff.1 h3).1, World.ownsRow.cells h (g := g) rfl j _ (by simp [hj])⟩
end
theorem cells_at {w : World} {g : Nat} {vs : List Value} {t : TypeId} (h : w.heap[g]? = some (.cells vs.toArray t)) : ∀ j u, vs[j]? = some u → w.cell? ((⟨g, 0, none⟩ : Addr).add j) = some u := by
  intro j u hj
  rw [addr_add0]
  exact cell_at h (by simpa using hj)
/-- append to a slice of the call's own -/
theorem wp_pushV {P : Program} {o : Oper} {a : Act} {W : World} {K : Act → World → Prop} {Q : Exit → Act → World → Prop} {s x : Operand} {ts e k bytes B n m c : Nat} {z v : Value} {xs news : List Value} {ad : Addr}
    (hu : P.underlying ts = some (.slice e)) (hinfo : (P.info? e).map (fun i => (i.zero, i.size, i.bytes)) = some (some z, k, bytes)) (hzs : z.cells.size = k) (h0 : 0 < k)
    (ho : o.op = .call { callee := .builtin .append, args := #[s, x], argTypes := #[ts, ts] }) (hs : a.eval s = v) (hx : a.eval x = .slice (some ad) m c) (hO : OwnR W B e k v n xs)
    (hl : news.length = m * k) (hnews : ∀ j u, news[j]? = some u → W.cell? (ad.add j) = some u) (h1 : (news.all fun u => u.oneCell') = true) (hmax : n + m ≤ 1000000) (hbt : bytes ≤ 1000) (hB : B ≤ W.heap.size)
    (h : ∀ v' w', OwnR w' B e k v' (n + m) (xs ++ news) → Only (fun b => v.ownBlock = some b) W w' → (v'.ownBlock = v.ownBlock ∨ v'.ownBlock = some W.heap.size) → K (a.put o.dst v') w') : o.wp P a W K Q := by
  obtain ⟨i0, hi, hz, hsz, hby⟩ := info_parts hinfo
  have hb : (n + m) * bytes ≤ 140737488355328 := by
    have := Nat.mul_le_mul hmax hbt
    omega
  obtain ⟨v', w', hr, hown', hgrow, _, hat⟩ := run_append_own_at (P := P) W B ts o.type e i0 z k bytes hu hi hz hsz hby hzs h0 v n xs hO ad m c news hl hnews (fun u hu => List.all_eq_true.1 h1 u hu) (by unfold maxLen; omega) hb hB
  have hrun : (execOp a.eval o).run P W = .ok (.value v') w' := by
    unfold execOp
    simp only [ho, resolve, invoke, builtin, Sem.run_bind, Sem.run_pure, Result.andThen_ok, List.map_toArray, List.map_cons, List.map_nil, hs, hx, hr]
  unfold Oper.wp
  rw [hrun]
  exact h v' w' hown' (only_grown hgrow) hat
/-- a region that makes a block (a), appends it (b) and stores the list (c) -/
structure RAp (w : World) (a b c : Nat) (T9 T10 : Value → World → Prop) (T13 : World → Prop) (done : Nat → Bool) (u : Nat → Value) (W : World) : Prop where
  g : done b = false → done c = false → Gr w W
  g9 : done a = true → done b = false → done c = false → T9 (u a) W
  g10 : done b = true → done c = false → T10 (u b) W
  g13 : done c = true → T13 W
section
variable {w W W' : World} {a b c i : Nat} {T9 T10 : Value → World → Prop} {T13 : World → Prop} {done : Nat → Bool} {u : Nat → Value} {v : Value}
theorem RAp.start {u : Nat → Value} (g : Gr w W) : RAp w a b c T9 T10 T13 (fun _ => false) u W := ⟨fun _ _ => g, fun h => by simp at h, fun h => by simp at h, fun h => by simp at h⟩
theorem RAp.quiet (h : RAp w a b c T9 T10 T13 done u W) (hi : (i == a || i == b || i == c) = false) : RAp w a b c T9 T10 T13 (upd done i) (fun j => if j = i then v else u j) W := by
  simp only [Bool.or_eq_false_iff, beq_eq_false_iff_ne] at hi
  obtain ⟨⟨h1, h2⟩, h3⟩ := hi
  have e1 := upd_ne (done := done) (Ne.symm h1)
  have e2 := upd_ne (done := done) (Ne.symm h2)
  have e3 := upd_ne (done := done) (Ne.symm h3)
  refine ⟨fun k1 k2 => h.g (e2 ▸ k1) (e3 ▸ k2), fun k0 k1 k2 => ?_, fun k1 k2 => ?_, fun k => h.g13 (e3 ▸ k)⟩
  · have := h.g9 (e1 ▸ k0) (e2 ▸ k1) (e3 ▸ k2)
    simpa [Ne.symm h1] using this
  · have := h.g10 (e2 ▸ k1) (e3 ▸ k2)
    simpa [Ne.symm h2] using this
theorem RAp.s9 (h : RAp w a b c T9 T10 T13 done u W) (hab : (a == b || a == c) = false) (hb : done b = false) (hc : done c = false) (g : Gr W W') (ht : T9 v W') : RAp w a b c T9 T10 T13 (upd done a) (fun j => if j = a then v else u j) W' := by
  simp only [Bool.or_eq_false_iff, beq_eq_false_iff_ne] at hab
  have e2 := upd_ne (done := done) (Ne.symm hab.1)
  have e3 := upd_ne (done := done) (Ne.symm hab.2)
  exact ⟨fun _ _ => (h.g hb hc).trans g, fun _ _ _ => by simpa using ht, fun k => (by rw [e2, hb] at k; cases k), fun k => (by rw [e3, hc] at k; cases k)⟩
theorem RAp.s10 (h : RAp w a b c T9 T10 T13 done u W) (hbc : (b == c) = false) (hc : done c = false) (ht : T10 v W') : RAp w a b c T9 T10 T13 (upd done b) (fun j => if j = b then v else u j) W' := by
  have e3 := upd_ne (done := done) (i := b) (j := c) (by intro e; simp [e] at hbc)
  exact ⟨fun k => (by rw [upd_self] at k; cases k), fun _ k => (by rw [upd_self] at k; cases k), fun _ _ => by simpa using ht, fun k => (by rw [e3, hc] at k; cases k)⟩
theorem RAp.s13 (ht : T13 W') : RAp w a b c T9 T10 T13 (upd done c) (fun j => if j = c then v else u j) W' :=
  ⟨fun _ k => (by rw [upd_self] at k; cases k), fun _ _ k => (by rw [upd_self] at k; cases k), fun _ k => (by rw [upd_self] at k; cases k), fun _ => ht⟩
end
end
section
set_option linter.unusedVariables false
open Go.RowKit
/-- the cells of the play's own block -/
def PlC (bp bn : Nat) (gr hold : Int) (na la pa : Option Addr) (n nc m lc cap : Nat) : List (Addr × Value) :=
  [(⟨bp, 0, none⟩, .int .i64 gr), (⟨bp, 1, none⟩, .int .i64 hold), (⟨bp, 2, none⟩, .slice na n nc), (⟨bp, 3, none⟩, .slice la m lc), (⟨bp, 4, none⟩, .slice pa n cap)]
/-- a play in memory, but its nodes -/
structure PlE (wB W : World) (bp bn : Nat) (gr hold : Int) (na la pa : Option Addr) (n nc m lc cap : Nat) (l : List (List Int)) : Prop where
  g : Gr wB W
  p : RCells W (PlC bp bn gr hold na la pa n nc m lc cap)
  l : StAt wB 4 la m l
  pb : wB.heap.size ≤ bp
  nb : wB.heap.size ≤ bn
  ne : ¬ bp = bn
  hpa : 0 < n → pa = some ⟨bn, 0, none⟩
section
variable {wB W W' : World} {bp bn : Nat} {gro hold : Int} {na la pa : Option Addr} {n nc m lc cap : Nat} {l : List (List Int)} {s : PS}
theorem PlE.lt (h : PlE wB W bp bn gro hold na la pa n nc m lc cap l) : bp < W.heap.size := lt_cell (h.p.at 0 rfl)
theorem PlE.gr (h : PlE wB W bp bn gro hold na la pa n nc m lc cap l) (g : Gr W W') : PlE wB W' bp bn gro hold na la pa n nc m lc cap l := ⟨h.g.trans g, h.p.gr g, h.l, h.pb, h.nb, h.ne, h.hpa⟩
theorem PlE.only {S : Nat → Prop} (h : PlE wB W bp bn gro hold na la pa n nc m lc cap l) (g : Only S W W') (hS : ∀ i, S i → wB.heap.size ≤ i ∧ ¬ i = bp) : PlE wB W' bp bn gro hold na la pa n nc m lc cap l :=
  ⟨((h.g.only (fun i => wB.heap.size ≤ i)).trans (g.mono' (fun i hi => (hS i hi).1))).gr (fun i hi e => by omega),
   h.p.only g (fun p hp e => by simp [PlC] at hp; rcases hp with rfl | rfl | rfl | rfl | rfl <;> exact (hS _ e).2 rfl), h.l, h.pb, h.nb, h.ne, h.hpa⟩
theorem PlE.on (h : PlE wB W bp bn gro hold na la pa n nc m lc cap l) (g : Only (fun b => b = bn) W W') : PlE wB W' bp bn gro hold na la pa n nc m lc cap l := h.only g (fun i e => ⟨by rw [e]; exact h.nb, fun e2 => h.ne (by rw [← e2, e])⟩)
/-- what the iterator reads stays -/
theorem PlE.ate {Yb : Nat → Prop} {bx bt bk kb kn kc : Nat} {t : Int} {ks : List Int} (h : PlE wB W bp bn gro hold na la pa n nc m lc cap l) (cx : W.cell? ⟨bx, 0, none⟩ = some (.pointer (some ⟨bp, 0, none⟩))) (ct : W.cell? ⟨bt, 0, none⟩ = some (.int .i64 t))
    (ck : W.cell? ⟨bk, 0, none⟩ = some (.slice (some ⟨kb, 0, none⟩) kn kc)) (hks : Ints W (some ⟨kb, 0, none⟩) kn ks) (hkb : kb < W.heap.size) (hY : ∀ b, Yb b → wB.heap.size ≤ b ∧ ¬ b = bp ∧ ¬ b = bx ∧ ¬ b = bt ∧ ¬ b = bk ∧ ¬ b = kb) :
    ∀ W', Only (fun b => Yb b ∨ W.heap.size ≤ b) W W' → AtE W' bx bt bk bp la m lc l t (some ⟨kb, 0, none⟩) kn kc ks := fun W' g => by
  have l1 := lt_cell cx
  have l2 := lt_cell ct
  have l3 := lt_cell ck
  have l4 := h.lt
  have hg := h.g.size
  simp only at l1 l2 l3
  have hP := h.only g (fun i hi => by
    rcases hi with hi | hi
    · exact ⟨(hY i hi).1, (hY i hi).2.1⟩
    · omega)
  exact ⟨g.cell cx (fun e => by rcases e with e | e; exact (hY _ e).2.2.1 rfl; simp only at e; omega), g.cell ct (fun e => by rcases e with e | e; exact (hY _ e).2.2.2.1 rfl; simp only at e; omega), g.cell ck (fun e => by rcases e with e | e; exact (hY _ e).2.2.2.2.1 rfl; simp only at e; omega),
    hP.p.at 3 rfl, hP.l.gr hP.g, hks.onlyAt g (fun ad e hb => by injection e with e; subst e; rcases hb with hb | hb; exact (hY _ hb).2.2.2.2.2 rfl; simp only at hb; omega)⟩
end
theorem ints_one {W : World} {b : Nat} {x : Int} (h : W.cell? ⟨b, 0, none⟩ = some (.int .i64 x)) : Ints W (some ⟨b, 0, none⟩) 1 [x] :=
  ⟨rfl, by decide, fun j hj => ⟨_, rfl, lt_cell h, by
    obtain rfl : j = 0 := by omega
    exact h⟩⟩
theorem ints_two {W : World} {b : Nat} {x y : Int} (h : W.cell? ⟨b, 0, none⟩ = some (.int .i64 x)) (k : W.cell? ⟨b, 1, none⟩ = some (.int .i64 y)) : Ints W (some ⟨b, 0, none⟩) 2 [x, y] :=
  ⟨rfl, by decide, fun j hj => ⟨_, rfl, lt_cell h, by
    have hj : j = 0 ∨ j = 1 := by omega
    rcases hj with rfl | rfl
    · exact h
    · exact k⟩⟩
theorem NV_tm (s : PS) (i g : Nat) (h : g < 10) : NV s (i * 17 + 6 + g) = .int .i64 (s i (6 + g)) := by rw [Nat.add_assoc]; exact NV_int s i (6 + g) (by omega)
theorem NV_upt (s : PS) (i g : Nat) (h : g < 10) (v : Int) : (fun k => if k = i * 17 + 6 + g then .int .i64 v else NV s k) = NV (up s i (6 + g) v) := by rw [Nat.add_assoc]; exact NV_up s i (6 + g) (by omega) v
/-- the cells of what is lost -/
def LV (f : Nat → Nat → Bool) : Nat → Value := fun k => .bool (f (k / 16) (k % 16))
theorem LV_at (f : Nat → Nat → Bool) (i j : Nat) (h : j < 16) : LV f (i * 16 + j) = .bool (f i j) := by
  have h1 : (i * 16 + j) % 16 = j := by omega
  have h2 : (i * 16 + j) / 16 = i := by omega
  unfold LV
  rw [h1, h2]
theorem LV_up (f : Nat → Nat → Bool) (i j : Nat) (h : j < 16) : (fun k => if k = i * 16 + j then .bool true else LV f k) = LV (fun a b => if a = i ∧ b = j then true else f a b) := by
  funext k
  by_cases e : k = i * 16 + j
  · subst e; rw [if_pos rfl, LV_at _ _ _ h, if_pos ⟨rfl, rfl⟩]
  · rw [if_neg e]
    have h2 : ¬ (k / 16 = i ∧ k % 16 = j) := by omega
    show Value.bool (f (k / 16) (k % 16)) = Value.bool (if k / 16 = i ∧ k % 16 = j then true else f (k / 16) (k % 16))
    rw [if_neg h2]
theorem lost_new (W : World) : OwnP (W.alloc (.cells (List.replicate 256 (.bool false)).toArray 136)) W.heap.size 256 (LV (fun _ _ => false)) :=
  ⟨_, _, World.alloc_heap_new _ _, by rw [List.size_toArray, List.length_replicate]; exact Nat.le_refl _, fun k hk => by rw [List.getElem?_toArray, List.getElem?_replicate, if_pos hk]; rfl⟩
theorem tm9 (f : Nat → Int) {k : Nat} (h : k < 9) : ([.int .i64 (f 6), .int .i64 (f 7), .int .i64 (f 8), .int .i64 (f 9), .int .i64 (f 10), .int .i64 (f 11), .int .i64 (f 12), .int .i64 (f 13), .int .i64 (f 14)] : List Value)[k]? = some (.int .i64 (f (6 + k))) := by
  match k, h with
  | 0, _ | 1, _ | 2, _ | 3, _ | 4, _ | 5, _ | 6, _ | 7, _ | 8, _ => rfl
/-- what the steps of a play need of its numbers -/
structure SOk (n : Nat) (s : PS) : Prop where
  b : ∀ i, i < n → 0 ≤ s i 3 ∧ s i 3 ≤ 1000
  r : ∀ i, i < n → 1 ≤ s i 4 ∧ s i 4 ≤ 1000
  t : ∀ i, i < n → ∀ j, 6 ≤ j → j ≤ 15 → 0 ≤ s i j ∧ s i j ≤ 1000
theorem SOk.up {n : Nat} {s : PS} (h : SOk n s) {i j : Nat} {v : Int} (hj : 5 ≤ j) (hv : 6 ≤ j → j ≤ 15 → 0 ≤ v ∧ v ≤ 1000) : SOk n (up s i j v) :=
  ⟨fun a ha => by rw [up_ne _ _ (by omega)]; exact h.b a ha, fun a ha => by rw [up_ne _ _ (by omega)]; exact h.r a ha, fun a ha k h1 h2 => by
    by_cases e : a = i ∧ k = j
    · obtain ⟨rfl, rfl⟩ := e; rw [up_same]; exact hv h1 h2
    · rw [up_ne _ _ (by omega)]; exact h.t a ha k h1 h2⟩
theorem SOk.askX {n : Nat} {s : PS} (h : SOk n s) (x : List Int) : SOk n (askX s x) := by
  unfold Go.Proofs.Ytoalamakhjbedaa.askX askA
  split
  · exact (h.up (by decide) (by omega)).up (by decide) (by omega)
  · exact h.up (by decide) (by omega)
theorem SOk.askS {n : Nat} {s : PS} (h : SOk n s) (l : List (List Int)) (t : Int) : SOk n (askS l t s) := by
  unfold Go.Proofs.Ytoalamakhjbedaa.askS
  generalize picks l t [1, 2] = L
  induction L generalizing s with
  | nil => exact h
  | cons x L ih => exact ih (h.askX x)
theorem SOk.refill {n : Nat} {s : PS} (h : SOk n s) (t : Int) : ∀ k, k ≤ n → SOk n (itN (refill1 t) k s)
  | 0, _ => h
  | k + 1, hk => by
    have ih := h.refill t k (by omega)
    rw [itN_succ]
    generalize itN (refill1 t) k s = z at *
    unfold refill1
    split
    · refine ih.up (by decide) (fun _ _ => ?_)
      have h1 := ih.t k (by omega) 15 (by decide) (by decide)
      have h2 := ih.b k (by omega)
      simp only [Int.min_def]
      split <;> omega
    · exact ih
theorem SOk.noise {n : Nat} {s : PS} (h : SOk n s) {hold : Int} (h1 : 1 ≤ hold) (h100 : hold ≤ 100) : ∀ L : List (List Int), (∀ x ∈ L, (nv x 2).toNat < n) → SOk n (L.foldl (noiseX hold) s)
  | [], _ => h
  | x :: L, hL => by
    refine SOk.noise (s := noiseX hold s x) ?_ h1 h100 L (fun y hy => hL y (by simp [hy]))
    unfold noiseX
    split
    · rename_i hc
      have := h.t (nv x 2).toNat (hL x (by simp)) 15 (by decide) (by decide)
      exact (h.up (by decide) (fun _ _ => by omega)).up (by decide) (fun _ _ => by omega)
    · exact h
theorem SOk.disturb {n : Nat} {s : PS} (h : SOk n s) {hold : Int} (h1 : 1 ≤ hold) (h100 : hold ≤ 100) {l : List (List Int)} (hl : ∀ x ∈ l, (nv x 2).toNat < n) (t : Int) : SOk n (disturbS hold l n t s) :=
  (h.refill t n (Nat.le_refl _)).noise h1 h100 _ (fun x hx => hl x (List.mem_filter.1 hx).1)
theorem itN_keep {σ : Type} {f : Nat → σ → σ} {P : σ → Prop} {s : σ} (hs : P s) : ∀ k, (∀ i s, i < k → P s → P (f i s)) → P (itN f k s)
  | 0, _ => hs
  | k + 1, h => h k _ (by omega) (itN_keep hs k (fun i s hi => h i s (by omega)))
theorem send1_lo {hold : Int} {lost : Nat → Nat → Bool} {src dst g : Nat} {s : PS} {i j : Nat} (h : j < 6 ∨ 15 ≤ j) (hg : g < 9) : send1 hold lost src dst g s i j = s i j := by
  unfold send1
  split
  · exact up_ne _ _ (by omega)
  · rfl
theorem send2_lo {hold : Int} {lost : Nat → Nat → Bool} {src dst gr : Nat} {s : PS} {i j : Nat} (h : j < 6 ∨ 15 ≤ j) (hg : gr ≤ 9) : send2 hold gr lost src dst s i j = s i j :=
  itN_keep (P := fun z : PS => z i j = s i j) rfl gr (fun k z hk hz => by rw [send1_lo h (by omega)]; exact hz)
theorem send3_lo {hold : Int} {lost : Nat → Nat → Bool} {src gr n : Nat} {s : PS} {i j : Nat} (h : j < 6 ∨ 15 ≤ j) (hg : gr ≤ 9) : send3 hold gr n lost src s i j = s i j :=
  itN_keep (P := fun z : PS => z i j = s i j) rfl n (fun k z hk hz => by rw [send2_lo h hg]; exact hz)
theorem SOk.send1 {n : Nat} {s : PS} (h : SOk n s) {hold : Int} (h1 : 1 ≤ hold) (h100 : hold ≤ 100) {lost : Nat → Nat → Bool} {src dst g : Nat} : SOk n (send1 hold lost src dst g s) := by
  unfold Go.Proofs.Ytoalamakhjbedaa.send1
  split
  · exact h.up (by omega) (fun _ _ => by omega)
  · exact h
theorem SOk.send {n : Nat} {s : PS} (h : SOk n s) {hold : Int} (h1 : 1 ≤ hold) (h100 : hold ≤ 100) {lost : Nat → Nat → Bool} {gr k : Nat} : SOk n (sendS hold gr k lost s) :=
  itN_keep h k (fun i s _ hs => itN_keep hs k (fun i s _ hs => itN_keep hs gr (fun i s _ hs => hs.send1 h1 h100)))
theorem pass1_hi {i k j : Nat} {s : PS} {a : Nat} (h : a ≠ i ∨ j ≠ 16 ∧ j ≠ 6 + k) : pass1 i k s a j = s a j := by
  unfold pass1
  split
  · rw [up_ne _ _ (by omega), up_ne _ _ (by omega)]
  · rfl
theorem pass_keep {i k : Nat} {s : PS} (hk : k ≤ 9) (j : Nat) (hj : k ≤ j) (hj2 : j < 9) : itN (pass1 i) k s i (6 + j) = s i (6 + j) :=
  itN_keep (P := fun z : PS => z i (6 + j) = s i (6 + j)) rfl k (fun a z ha hz => by rw [pass1_hi (.inr (by omega))]; exact hz)
theorem SOk.pass1 {n : Nat} {s : PS} (h : SOk n s) {i k : Nat} (hi : i < n) (hk : k < 9) : SOk n (pass1 i k s) := by
  unfold Go.Proofs.Ytoalamakhjbedaa.pass1
  split
  · refine (h.up (by decide) (by omega)).up (by omega) (fun _ _ => ?_)
    have := h.t i hi (6 + k) (by omega) (by omega)
    omega
  · exact h
theorem SOk.passN {n : Nat} {s : PS} (h : SOk n s) {i : Nat} (hi : i < n) : ∀ k, k ≤ 9 → SOk n (itN (Go.Proofs.Ytoalamakhjbedaa.pass1 i) k (Go.Proofs.Ytoalamakhjbedaa.up s i 16 0))
  | 0, _ => h.up (by decide) (by omega)
  | k + 1, hk => by rw [itN_succ]; exact (h.passN hi k (by omega)).pass1 hi (by omega)
theorem SOk.pass {n : Nat} {s : PS} (h : SOk n s) : ∀ k, k ≤ n → SOk n (itN pass2 k (s, 0)).1
  | 0, _ => h
  | k + 1, hk => by rw [itN_succ]; exact (h.pass k (by omega)).passN (by omega) 9 (Nat.le_refl _)
/-- a number that says yes or no -/
def bz (x : Int) : Bool := x != 0
theorem bz_true {x : Int} (h : bz x = true) : ¬ x = 0 := by simpa [bz] using h
theorem bz_false {x : Int} (h : bz x = false) : x = 0 := by simpa [bz] using h
theorem refill1_pos {t : Int} {i : Nat} {s : PS} (h : 0 < t) (k : t % s i 4 = 0) : refill1 t i s = up s i 15 (min (s i 15 + 1) (s i 3)) := if_pos ⟨h, k⟩
theorem refill1_neg {t : Int} {i : Nat} {s : PS} (h : ¬ (0 < t ∧ t % s i 4 = 0)) : refill1 t i s = s := if_neg h
theorem noiseX_pos {hold : Int} {s : PS} {x : List Int} (h1 : s (nv x 2).toNat 16 = 0) (h2 : 0 < s (nv x 2).toNat 15) (h3 : s (nv x 2).toNat 14 = 0) : noiseX hold s x = up (up s (nv x 2).toNat 15 (s (nv x 2).toNat 15 - 1)) (nv x 2).toNat 14 hold := if_pos ⟨h1, h2, h3⟩
theorem noiseX_neg {hold : Int} {s : PS} {x : List Int} (h : ¬ (s (nv x 2).toNat 16 = 0 ∧ 0 < s (nv x 2).toNat 15 ∧ s (nv x 2).toNat 14 = 0)) : noiseX hold s x = s := if_neg h
theorem send1_pos {hold : Int} {lost : Nat → Nat → Bool} {src dst g : Nat} {s : PS} (h : lost src dst = false) (k : bitB (andV (s src 5) (s dst 0)) g = true) : send1 hold lost src dst g s = up s dst (6 + g) hold := if_pos ⟨h, k⟩
theorem send1_neg {hold : Int} {lost : Nat → Nat → Bool} {src dst g : Nat} {s : PS} (h : ¬ (lost src dst = false ∧ bitB (andV (s src 5) (s dst 0)) g = true)) : send1 hold lost src dst g s = s := if_neg h
theorem send1_it {hold : Int} {lost : Nat → Nat → Bool} {src dst gr : Nat} {s : PS} {i j : Nat} (h : j < 6 ∨ 15 ≤ j) (hg : gr ≤ 9) : itN (send1 hold lost src dst) gr s i j = s i j := send2_lo h hg
theorem send2_it {hold : Int} {lost : Nat → Nat → Bool} {src gr n : Nat} {s : PS} {i j : Nat} (h : j < 6 ∨ 15 ≤ j) (hg : gr ≤ 9) : itN (send2 hold gr lost src) n s i j = s i j := send3_lo h hg
theorem pass1_pos {i k : Nat} {s : PS} (h : 0 < s i (6 + k)) : pass1 i k s = up (up s i 16 1) i (6 + k) (s i (6 + k) - 1) := if_pos h
theorem pass1_neg {i k : Nat} {s : PS} (h : ¬ 0 < s i (6 + k)) : pass1 i k s = s := if_neg h
theorem SOk.tick {n gr : Nat} {p : PR} (h : SOk n p.s) {hold : Int} (h1 : 1 ≤ hold) (h100 : hold ≤ 100) {l : List (List Int)} (hl : ∀ x ∈ l, (nv x 2).toNat < n) (t : Nat) : SOk n (tick hold gr n l t p).s :=
  (((h.askS l t).disturb h1 h100 hl t).send h1 h100).pass n (Nat.le_refl _)
theorem mem_pre {l pre : List (List Int)} {x : List Int} {t : Int} {ks : List Int} (h : ∃ rest, picks l t ks = pre ++ x :: rest) : x ∈ l := by
  obtain ⟨r, h⟩ := h
  have : x ∈ picks l t ks := by rw [h]; simp
  exact (List.mem_filter.1 this).1
theorem pre_mem {l pre : List (List Int)} {x y : List Int} {t : Int} {ks : List Int} (h : ∃ rest, picks l t ks = pre ++ x :: rest) (hy : y ∈ pre) : y ∈ l := by
  obtain ⟨r, h⟩ := h
  have : y ∈ picks l t ks := by rw [h]; simp [hy]
  exact (List.mem_filter.1 this).1
theorem pick_pre {l pre : List (List Int)} {x : List Int} {t : Int} {ks : List Int} (h : ∃ rest, picks l t ks = pre ++ x :: rest) : nv x 0 = t ∧ ks.contains (nv x 1) = true := by
  obtain ⟨r, h⟩ := h
  have : x ∈ picks l t ks := by rw [h]; simp
  have := (List.mem_filter.1 this).2
  unfold pickB at this
  simpa using this
/-- a mark's block -/
def Mk1 (W : World) (k : Nat) : Prop := W.heap[k]? = some (.deferred (some []))
theorem Mk1.lt {W : World} {k : Nat} (h : Mk1 W k) : k < W.heap.size := (Array.getElem?_eq_some_iff.1 h).1
theorem Mk1.only {S : Nat → Prop} {W W' : World} {k : Nat} (h : Mk1 W k) (g : Only S W W') (hs : ¬ S k) : Mk1 W' k := (g.block k h.lt hs).trans h
theorem Mk1.gr {W W' : World} {k : Nat} (h : Mk1 W k) (g : Gr W W') : Mk1 W' k := (g.below.block _ h.lt).trans h
/-- a play from some state on -/
def runFrom (hold : Int) (gr n : Nat) (l : List (List Int)) (s : PS) (t : Nat) : PR := itN (tick hold gr n l) t ⟨s, [], []⟩
theorem SOk.run {n gr : Nat} {s : PS} (h : SOk n s) {hold : Int} (h1 : 1 ≤ hold) (h100 : hold ≤ 100) {l : List (List Int)} (hl : ∀ x ∈ l, (nv x 2).toNat < n) : ∀ t, SOk n (runFrom hold gr n l s t).s
  | 0 => h
  | t + 1 => (SOk.run h h1 h100 hl t).tick h1 h100 hl t
theorem runFrom_len {n gr : Nat} {s : PS} {hold : Int} {l : List (List Int)} : ∀ t, (runFrom hold gr n l s t).asked.length = t ∧ (runFrom hold gr n l s t).rows.length = t
  | 0 => ⟨rfl, rfl⟩
  | t + 1 => by
    have h := runFrom_len (n := n) (gr := gr) (s := s) (hold := hold) (l := l) t
    show ((runFrom hold gr n l s t).asked ++ [_]).length = t + 1 ∧ ((runFrom hold gr n l s t).rows ++ [_]).length = t + 1
    simp [h.1, h.2]
/-- a return behind one range -/
theorem ret_mark {P : Program} {fn : Func} {R : Ending → World → Prop} {A : Act} {W : World} {v : Value} {N k : Nat} {L : List (Nat × Value)} (F : Fr A N L [{ target := .collected k, args := #[] }]) (hk : W.heap[k]? = some (.deferred (some [])))
    (hr : (results fn A.tmps).run P (W.putObj k (.deferred none)) = .ok v (W.putObj k (.deferred none))) (h : ∀ W2, Only (fun b => b = k) W W2 → R (.returned v) W2) : bodyPostM Fence.wide 0 P fn R .ret A W :=
  Y.ret1 F hk hr (h _ (putObj_only _ _ _))
end
end Go.Proofs.Ytoalamakhjbedaa
