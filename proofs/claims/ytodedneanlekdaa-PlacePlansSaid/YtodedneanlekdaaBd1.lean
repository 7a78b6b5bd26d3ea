/- Several texts of this claim in one file. (1) Growth of memory; lists in memory; what may have turned; a range over a function. Nothing of the program is proved here. (2) Regions that draw their order. Nothing of the program is proved here. (3) A walk by lemmas. Nothing of the program is proved here. (4) A walk by lemmas, within rounds and with marks; blocks of a call's own. Nothing of the program is proved here. (5) Bits of whole numbers; a slice of structures of numbers. Nothing of the program is proved here. (6) A range over a function whose variable lies in memory. Nothing of the program is proved here. (7) More operations for the walk by lemmas. Nothing of the program is proved here. -/
import Derived.WalkKit
import Derived.Deep.Draws
import Derived.Lib.Hide
import Derived.RangeFuncSeq
import Derived.RangeFuncBound
import Derived.OrdersIn
import Derived.Below
import Derived.RangeFuncIn
import Derived.KernelRfl
import Derived.WalkSpells
import Derived.Deep.LoopGhost
import Derived.RangeFuncLeaves
namespace Go.Proofs.Ytodedneanlekdaa
set_option linter.unusedSimpArgs false
set_option linter.unusedVariables false
section
abbrev Vi (x : Int) : Value := .int .i64 x
abbrev Vp (b : Nat) : Value := .pointer (some ⟨b, 0, none⟩)
abbrev Ad (b k : Nat) : Addr := ⟨b, k, none⟩
set_option linter.unusedVariables false
section
open Go.RowKit

def Gr (w w' : World) : Prop := Below w.heap.size w w'

theorem Gr.refl (w : World) : Gr w w := Below.refl _ _
theorem Gr.trans {a b c : World} (h : Gr a b) (k : Gr b c) : Gr a c := Below.trans h (Below.mono k (Below.size h))
theorem Gr.drew (w : World) : Gr w w.drew := Below.drew (Below.refl _ _)
theorem Gr.alloc (w : World) (o : Obj) : Gr w (w.alloc o) := Below.alloc (Below.refl _ _) (Nat.le_refl _) o
theorem Gr.size {a b : World} (h : Gr a b) : a.heap.size ≤ b.heap.size := Below.size h
theorem Gr.below {a b : World} (h : Gr a b) : Below a.heap.size a b := h
theorem Gr.cell {a b : World} (h : Gr a b) {p : Addr} (hp : p.block < a.heap.size) : b.cell? p = a.cell? p := Below.cell h hp
theorem Gr.allocR {a b : World} (h : Gr a b) (o : Obj) : Gr a (b.alloc o) := h.trans (Gr.alloc _ _)

theorem add_block (a : Addr) (n : Nat) : (a.add n).block = a.block := by unfold Addr.add; split <;> rfl

def Ints (w : World) (a : Option Addr) (n : Nat) (xs : List Int) : Prop :=
  xs.length = n ∧ n < 1152921504606846976 ∧ ∀ j, j < n → ∃ ad, a = some ad ∧ ad.block < w.heap.size ∧ w.cell? (ad.add j) = some (.int .i64 (xs[j]?.getD 0))

theorem Ints.len {w : World} {a : Option Addr} {n : Nat} {xs : List Int} (h : Ints w a n xs) : xs.length = n := h.1
theorem Ints.lt {w : World} {a : Option Addr} {n : Nat} {xs : List Int} (h : Ints w a n xs) : n < 1152921504606846976 := h.2.1
theorem Ints.at {w : World} {a : Option Addr} {n : Nat} {xs : List Int} (h : Ints w a n xs) {j : Nat} (hj : j < n) : ∃ ad, a = some ad ∧ ad.block < w.heap.size ∧ w.cell? (ad.add j) = some (.int .i64 (xs[j]?.getD 0)) := h.2.2 j hj
theorem Ints.gr {w w' : World} {a : Option Addr} {n : Nat} {xs : List Int} (h : Ints w a n xs) (g : Gr w w') : Ints w' a n xs :=
  ⟨h.1, h.2.1, fun j hj => by
    obtain ⟨ad, e, hb, hc⟩ := h.2.2 j hj
    exact ⟨ad, e, Nat.lt_of_lt_of_le hb g.size, (g.cell (by rw [add_block]; exact hb)).trans hc⟩⟩



theorem ret_int {k : IntKind} {a b : Int} (h : a = b) : Ending.returned (.int k a) = .returned (.int k b) := by rw [h]
end
section
open Go.RowKit

structure Only (S : Nat → Prop) (w w' : World) : Prop where
  os : w'.os = w.os
  tape : w'.tape = w.tape
  output : w'.output = w.output
  size : w.heap.size ≤ w'.heap.size
  block : ∀ b, b < w.heap.size → ¬ S b → w'.heap[b]? = w.heap[b]?

theorem Only.refl (S : Nat → Prop) (w : World) : Only S w w := ⟨rfl, rfl, rfl, Nat.le_refl _, fun _ _ _ => rfl⟩
theorem Only.trans {S : Nat → Prop} {a b c : World} (h : Only S a b) (k : Only S b c) : Only S a c :=
  ⟨k.os.trans h.os, k.tape.trans h.tape, k.output.trans h.output, Nat.le_trans h.size k.size, fun i hi hs => (k.block i (Nat.lt_of_lt_of_le hi h.size) hs).trans (h.block i hi hs)⟩
theorem Only.mono {S S' : Nat → Prop} {a b : World} (h : Only S a b) (hs : ∀ i, i < a.heap.size → S i → S' i) : Only S' a b :=
  ⟨h.os, h.tape, h.output, h.size, fun i hi hn => h.block i hi (fun hS => hn (hs i hi hS))⟩
theorem Gr.only {a b : World} (h : Gr a b) (S : Nat → Prop) : Only S a b := ⟨Below.os h, Below.tape h, Below.output h, Below.size h, fun i hi _ => Below.block h i hi⟩
theorem Only.gr {S : Nat → Prop} {a b : World} (h : Only S a b) (hs : ∀ i, i < a.heap.size → ¬ S i) : Gr a b := ⟨h.os, h.tape, h.output, h.size, fun i hi => h.block i hi (hs i hi)⟩
theorem Only.setCell {S : Nat → Prop} {a b : World} (h : Only S a b) {p : Addr} (hp : S p.block ∨ a.heap.size ≤ p.block) (u : Value) : Only S a (b.setCell p u) :=
  ⟨h.os, h.tape, h.output, by simpa [World.setCell] using h.size, fun i hi hn => (Below.heap_setCell b p u i (by
    rintro rfl
    rcases hp with hp | hp
    · exact hn hp
    · omega)).trans (h.block i hi hn)⟩
theorem Only.putObj {S : Nat → Prop} {a b : World} (h : Only S a b) {r : Nat} (hp : S r ∨ a.heap.size ≤ r) (o : Obj) : Only S a (b.putObj r o) :=
  ⟨h.os, h.tape, h.output, by simpa using h.size, fun i hi hn => (World.putObj_heap_other (by
    rintro rfl
    rcases hp with hp | hp
    · exact hn hp
    · omega)).trans (h.block i hi hn)⟩
theorem Only.thenGr {S : Nat → Prop} {a b c : World} (h : Only S a b) (k : Gr b c) : Only S a c := h.trans (k.only S)


theorem cell_block {w : World} {p : Addr} {v : Value} (h : w.cell? p = some v) : ∃ cs t fr, w.heap[p.block]? = some (.cells cs t fr) := by
  unfold World.cell? at h
  cases hb : w.heap[p.block]? with
  | none => rw [hb] at h; simp at h
  | some o => cases o <;> first | (rw [hb] at h; simp at h; done) | exact ⟨_, _, _, rfl⟩

theorem Only.cell {S : Nat → Prop} {a b : World} (h : Only S a b) {p : Addr} {v : Value} (hc : a.cell? p = some v) (hs : ¬ S p.block) : b.cell? p = some v := by
  obtain ⟨cs, t, fr, hb⟩ := cell_block hc
  have hlt : p.block < a.heap.size := (Array.getElem?_eq_some_iff.1 hb).1
  rw [World.cell?_of_block (w := a) (h.block p.block hlt hs)]; exact hc

theorem Ints.onlyAt {S : Nat → Prop} {w w' : World} {a : Option Addr} {n : Nat} {xs : List Int} (h : Ints w a n xs) (g : Only S w w') (hn : ∀ ad, a = some ad → ¬ S ad.block) : Ints w' a n xs :=
  ⟨h.1, h.2.1, fun j hj => by
    obtain ⟨ad, e, hb, hc⟩ := h.2.2 j hj
    exact ⟨ad, e, Nat.lt_of_lt_of_le hb g.size, g.cell hc (by rw [add_block]; exact hn ad e)⟩⟩

def Left (D : Nat) (L : Loop) (Ix : Code → World → Prop) (W : World) : Prop :=
  ∃ c, Ix c W ∧ W.heap[D + 1]? = some (.loop { L with state := .done, pending := some c }) ∧ W.heap[D]? = some (.deferred (some []))


theorem run_yield_op {P : Program} {o : Oper} {a : Act} {W : World} {l fn : Nat} {tmps : Array Value} {assign body : Code} {f x : Operand} {ts : Array TypeId} {v : Value} {ro : Option Nat}
    (ho : o.op = .call { callee := .value f, args := #[x], argTypes := ts }) (hf : a.eval f = .func (.yield l) #[] #[]) (hx : a.eval x = v) (hy : (Instr.yield l #[v]).run P W = .ok (.round l fn tmps assign body) W) :
    (o.semAt ro a.eval).run P W = .ok (.round l fn tmps assign body) W := by
  rw [Oper.semAt_eq _ _ _ (by rw [ho]; intro c h; cases h)]
  unfold execOp
  simp only [ho, resolve, hf, hx, Deferred.ofValue, List.map_toArray, List.map_cons, List.map_nil]
  simp [invoke, hy, go_sem]

theorem op_yield {P : Program} {o : Oper} {a : Act} {W : World} {l : Nat} {f x : Operand} {ts : Array TypeId} {v : Value} {ro : Option Nat} {n : Nat} {K : Act → World → Prop} {Q : Exit → Act → World → Prop} {Rr : Ending → World → Prop}
    (ho : o.op = .call { callee := .value f, args := #[x], argTypes := ts }) (hf : a.eval f = .func (.yield l) #[] #[]) (hx : a.eval x = v) (hy : YieldAt Fence.wide 0 P l #[v] W Rr)
    (hr : ∀ e W', Rr e W' → ∃ v', e = .returned v') (hK : ∀ v' W', Rr (.returned v') W' → K (a.put o.dst v') W') : o.wpIn { Fence.wide with round := ro } n P a W K Q := by
  obtain ⟨fn, tmps, assign, body, hy, hR⟩ := hy
  refine ⟨fun _ _ => trivial, ?_⟩
  show Oper.uponIn _ _ _ _ _ _ _ ((o.semAt ro a.eval).run P W)
  rw [run_yield_op ho hf hx hy, Oper.uponIn_round]
  refine ⟨fun h => by simp [Fence.wide] at h, trivial, fun c cs _ => ?_⟩
  obtain ⟨e, w', hRe, hs⟩ := hR.2 c cs (room_wide _)
  obtain ⟨v', rfl⟩ := hr e w' hRe
  exact ⟨.returned v', w', hK v' w' hRe, hs⟩
end
section
open Go.RowKit
theorem putObj_only (W : World) (r : Nat) (o : Obj) : Only (fun b => b = r) W (W.putObj r o) := Only.putObj (S := fun b => b = r) (Only.refl _ W) (.inl rfl) o
theorem Only.mono' {S S' : Nat → Prop} {a b : World} (h : Only S a b) (hs : ∀ i, S i → S' i) : Only S' a b := h.mono (fun i _ => hs i)
theorem lt_cell {W : World} {p : Addr} {v : Value} (h : W.cell? p = some v) : p.block < W.heap.size := by
  obtain ⟨_, _, _, hb⟩ := cell_block h
  exact (Array.getElem?_eq_some_iff.1 hb).1
theorem cell_new {w : World} {cs : Array Value} {t : TypeId} {j : Nat} {v : Value} (h : cs[j]? = some v) : (w.alloc (.cells cs t)).cell? ⟨w.heap.size, j, none⟩ = some v := by
  have := World.alloc_heap_new w (.cells cs t)
  unfold World.cell?
  simp only [this]
  exact h
theorem cell_at {w : World} {b j : Nat} {cs : Array Value} {t : TypeId} {fr : Nat × Nat} {v : Value} (h : w.heap[b]? = some (.cells cs t fr)) (hv : cs[j]? = some v) : w.cell? ⟨b, j, none⟩ = some v := by
  unfold World.cell?
  simp only [h]
  exact hv
theorem addr_add0 (g j : Nat) : (⟨g, 0, none⟩ : Addr).add j = ⟨g, j, none⟩ := by
  unfold Addr.add; split
  · subst_vars; rfl
  · simp
end
section
open Go.RowKit

def RCells (w : World) (L : List (Addr × Value)) : Prop := ∀ p ∈ L, w.cell? p.1 = some p.2
theorem RCells.nil (w : World) : RCells w [] := fun p hp => by simp at hp
theorem RCells.gr {w w' : World} {L : List (Addr × Value)} (h : RCells w L) (g : Gr w w') : RCells w' L := fun p hp => (g.cell (lt_cell (h p hp))).trans (h p hp)
theorem RCells.at {w : World} {L : List (Addr × Value)} (h : RCells w L) (i : Nat) {p : Addr × Value} (hp : L[i]? = some p) : w.cell? p.1 = some p.2 := h p (List.mem_of_getElem? hp)
def bcells (b : Nat) : List Value → Nat → List (Addr × Value)
  | [], _ => []
  | v :: r, k => (⟨b, k, none⟩, v) :: bcells b r (k + 1)
theorem bcells_mem {b : Nat} : ∀ {l : List Value} {k : Nat} {p : Addr × Value}, p ∈ bcells b l k → ∃ j, p.1 = ⟨b, k + j, none⟩ ∧ l[j]? = some p.2 := by
  intro l
  induction l with
  | nil => intro k p h; simp [bcells] at h
  | cons v r ih =>
    intro k p h
    simp only [bcells, List.mem_cons] at h
    rcases h with rfl | h
    · exact ⟨0, rfl, rfl⟩
    · obtain ⟨j, h1, h2⟩ := ih h
      exact ⟨j + 1, by rw [h1, show k + (j + 1) = k + 1 + j by omega], by simpa using h2⟩
theorem RCells.box {w : World} {L : List (Addr × Value)} (h : RCells w L) {b : Nat} (cs : Array Value) (t : TypeId) (hb : w.heap.size = b) : RCells (w.alloc (.cells cs t)) (L ++ bcells b cs.toList 0) := by
  intro p hp
  rcases List.mem_append.1 hp with hp | hp
  · exact h.gr (Gr.alloc _ _) p hp
  · obtain ⟨j, h1, h2⟩ := bcells_mem hp
    rw [h1, ← hb, Nat.zero_add]
    exact cell_new (by simpa using h2)
theorem RCells.append {w : World} {L M : List (Addr × Value)} (h : RCells w L) (k : RCells w M) : RCells w (L ++ M) := fun p hp => by
  rcases List.mem_append.1 hp with hp | hp
  · exact h p hp
  · exact k p hp
theorem RCells.cons {w : World} {M : List (Addr × Value)} {a : Addr} {v : Value} (h : w.cell? a = some v) (k : RCells w M) : RCells w ((a, v) :: M) := fun p hp => by
  rcases List.mem_cons.1 hp with rfl | hp
  · exact h
  · exact k p hp
end
theorem RCells.kc {w w' : World} {L M : List (Addr × Value)} {x o : Nat} {v : Value} {b : Nat} (h : RCells w L) (g : Only (fun z => z = b) w w') (i : Nat) (hp : L[i]? = some (⟨x, o, none⟩, v)) (k : RCells w' M) (hs : ¬ x = b := by omega) : RCells w' ((⟨x, o, none⟩, v) :: M) :=
  RCells.cons (g.cell (h.at i hp) hs) k
end
section
set_option linter.unusedVariables false
section
set_option linter.unusedVariables false
open Go.RowKit

def fillL (u : Nat → Value) : List Oper → Nat → Array Value → Array Value
  | [], _, t => t
  | o :: r, k, t => fillL u r (k + 1) (match o.dst with | some d => t.setIfInBounds d (u k) | none => t)

def dstsOf (l : List Oper) : List Tmp := l.filterMap (·.dst)

def AllIdx (p : Nat → Oper → Prop) : List Oper → Nat → Prop
  | [], _ => True
  | o :: r, k => p k o ∧ AllIdx p r (k + 1)

theorem AllIdx.at {p : Nat → Oper → Prop} : ∀ {l : List Oper} {k : Nat}, AllIdx p l k → ∀ i o, l[i]? = some o → p (k + i) o := by
  intro l
  induction l with
  | nil => intro k _ i o h; simp at h
  | cons x r ih =>
    intro k h i o hi
    cases i with
    | zero => simp at hi; subst hi; exact h.1
    | succ i =>
      have := ih h.2 i o (by simpa using hi)
      rw [show k + (i + 1) = k + 1 + i by omega]; exact this

def fore (o : Oper) : List Nat := (o.after.toList.filter (Region.binds .any)).map (·.on)
def anc (l : List Oper) : Nat → List Nat → List Nat
  | 0, s => s
  | n + 1, s => anc l n (s ++ s.flatMap fun j => match l[j]? with | some o => fore o | none => []).eraseDups

def upd (done : Nat → Bool) (i : Nat) : Nat → Bool := fun j => if j = i then true else done j

theorem fillL_size (u : Nat → Value) : ∀ (l : List Oper) (k : Nat) (t : Array Value), (fillL u l k t).size = t.size := by
  intro l
  induction l with
  | nil => intro k t; rfl
  | cons o r ih =>
    intro k t
    simp only [fillL, ih]
    split <;> simp

theorem fillL_set_comm (u : Nat → Value) : ∀ (l : List Oper) (k : Nat) (t : Array Value) (d : Nat) (v : Value), d ∉ dstsOf l → (fillL u l k t).setIfInBounds d v = fillL u l k (t.setIfInBounds d v) := by
  intro l
  induction l with
  | nil => intro k t d v _; rfl
  | cons o r ih =>
    intro k t d v hd
    simp only [fillL]
    cases ho : o.dst with
    | none =>
      have hd' : d ∉ dstsOf r := by simpa [dstsOf, List.filterMap_cons, ho] using hd
      exact ih (k + 1) t d v hd'
    | some e =>
      have hd' : d ≠ e ∧ d ∉ dstsOf r := by simpa [dstsOf, List.filterMap_cons, ho] using hd
      rw [ih (k + 1) _ d v hd'.2, Array.setIfInBounds_comm _ _ (Ne.symm hd'.1)]

theorem fillL_congr {u u' : Nat → Value} : ∀ (l : List Oper) (k : Nat) (t : Array Value), (∀ i, k ≤ i → i < k + l.length → u i = u' i) → fillL u l k t = fillL u' l k t := by
  intro l
  induction l with
  | nil => intro k t _; rfl
  | cons o r ih =>
    intro k t h
    simp only [fillL]
    have h0 : u k = u' k := h k (Nat.le_refl _) (by simp)
    rw [h0]
    exact ih (k + 1) _ (fun i h1 h2 => h i (by omega) (by simp at h2 ⊢; omega))

theorem fillL_put (u : Nat → Value) (v : Value) : ∀ (l : List Oper) (k i : Nat) (t : Array Value) (o : Oper) (d : Nat), (dstsOf l).Nodup → l[i]? = some o → o.dst = some d →
    (fillL u l k t).setIfInBounds d v = fillL (fun j => if j = k + i then v else u j) l k t := by
  intro l
  induction l with
  | nil => intro k i t o d _ h; simp at h
  | cons x r ih =>
    intro k i t o d hn hi hd
    cases i with
    | zero =>
      simp at hi
      subst hi
      have hnr : d ∉ dstsOf r := by
        have : (d :: dstsOf r).Nodup := by simpa [dstsOf, List.filterMap_cons, hd] using hn
        exact (List.nodup_cons.1 this).1
      simp only [fillL, hd, Nat.add_zero]
      rw [fillL_set_comm u r (k + 1) _ d v hnr, Array.setIfInBounds_setIfInBounds]
      simp only [if_true]
      exact fillL_congr r (k + 1) _ (fun j h1 _ => by rw [if_neg (by omega)])
    | succ i =>
      have hnr : (dstsOf r).Nodup := by
        cases hx : x.dst with
        | none => simpa [dstsOf, List.filterMap_cons, hx] using hn
        | some e =>
          have : (e :: dstsOf r).Nodup := by simpa [dstsOf, List.filterMap_cons, hx] using hn
          exact (List.nodup_cons.1 this).2
      have hi' : r[i]? = some o := by simpa using hi
      have := ih (k + 1) i (match x.dst with | some d => t.setIfInBounds d (u k) | none => t) o d hnr hi' hd
      simp only [fillL]
      rw [this]
      have e1 : k + 1 + i = k + (i + 1) := by omega
      rw [e1]
      have e2 : (if k = k + (i + 1) then v else u k) = u k := by rw [if_neg (by omega)]
      rw [e2]

theorem fillL_self (t : Array Value) : ∀ (l : List Oper) (k : Nat) (u : Nat → Value), (∀ i o d, l[i]? = some o → o.dst = some d → d < t.size → u (k + i) = t.getD d undef) → fillL u l k t = t := by
  intro l
  induction l with
  | nil => intro k u _; rfl
  | cons x r ih =>
    intro k u h
    simp only [fillL]
    have hx : (match x.dst with | some d => t.setIfInBounds d (u k) | none => t) = t := by
      cases hd : x.dst with
      | none => rfl
      | some d =>
        simp only
        by_cases hlt : d < t.size
        · have := h 0 x d (by simp) hd hlt
          simp only [Nat.add_zero] at this
          rw [this]
          apply Array.ext
          · simp
          · intro i h1 h2
            rw [Array.getElem_setIfInBounds (by simpa using h2)]
            split
            · subst_vars; simp
            · rfl
        · simp [Array.setIfInBounds, hlt]
    rw [hx]
    exact ih (k + 1) u (fun i o d hi hd hlt => by
      have := h (i + 1) o d (by simpa using hi) hd hlt
      rw [show k + 1 + i = k + (i + 1) by omega]; exact this)

theorem wpIn_of_wp {P : Program} {o : Oper} {a : Act} {w : World} {K : Act → World → Prop} {Q : Exit → Act → World → Prop} {ro : Option Nat} {n : Nat} (hd : ∀ c, o.op ≠ .defer c)
    (h : o.wp P a w K Q) : o.wpIn { Fence.wide with round := ro } n P a w K Q := by
  refine ⟨fun _ _ => trivial, ?_⟩
  rw [Oper.semAt_eq ro a.eval o hd]
  unfold Oper.wp at h
  generalize (execOp a.eval o).run P w = r at *
  cases r with
  | ok x w' =>
    cases x <;> simp only [Oper.upon, Oper.uponIn] at h ⊢ <;> first | exact h | skip
    · exact ⟨fun h => by simp [Fence.wide] at h, (callsIn_wide (n := n - 1)).2 h⟩
    · exact ⟨fun h => by simp [Fence.wide] at h, fun c cs _ => let ⟨v, w2, r, s⟩ := h c cs; ⟨v, w2, r, stepsIn_wide.2 s⟩⟩
  | halt x w' => cases x <;> simp only [Oper.upon, Oper.uponIn] at h ⊢ <;> exact h



theorem anc_closed {l : List Oper} {done : Nat → Bool} (hc : ∀ j o, l[j]? = some o → done j = true → ∀ k ∈ fore o, done k = true) : ∀ (n : Nat) (s : List Nat), (∀ j ∈ s, done j = true) → ∀ j ∈ anc l n s, done j = true := by
  intro n
  induction n with
  | zero => intro s hs j hj; exact hs j hj
  | succ n ih =>
    intro s hs j hj
    simp only [anc] at hj
    refine ih _ (fun k hk => ?_) j hj
    simp only [List.mem_eraseDups, List.mem_append, List.mem_flatMap] at hk
    rcases hk with hk | ⟨m, hm, hk⟩
    · exact hs k hk
    · cases ho : l[m]? with
      | none => rw [ho] at hk; simp at hk
      | some o => rw [ho] at hk; exact hc m o ho (hs m hm) k hk

theorem fillL_none (u : Nat → Value) (v : Value) : ∀ (l : List Oper) (k i : Nat) (t : Array Value) (o : Oper), l[i]? = some o → o.dst = none →
    fillL u l k t = fillL (fun j => if j = k + i then v else u j) l k t := by
  intro l
  induction l with
  | nil => intro k i t o h; simp at h
  | cons x r ih =>
    intro k i t o hi hd
    cases i with
    | zero =>
      simp at hi
      subst hi
      simp only [fillL, hd, Nat.add_zero]
      exact fillL_congr r (k + 1) _ (fun j h1 _ => by rw [if_neg (by omega)])
    | succ i =>
      have hi' : r[i]? = some o := by simpa using hi
      simp only [fillL]
      have e2 : (if k = k + (i + 1) then v else u k) = u k := by rw [if_neg (by omega)]
      rw [e2, ih (k + 1) i _ o hi' hd]
      have e1 : k + 1 + i = k + (i + 1) := by omega
      rw [e1]

theorem countP_lt {p q : Nat → Bool} (hpq : ∀ j, q j = true → p j = true) {i : Nat} (hp : p i = true) (hq : q i = false) : ∀ {l : List Nat}, i ∈ l → l.countP q < l.countP p := by
  intro l
  induction l with
  | nil => intro h; simp at h
  | cons x r ih =>
    intro h
    have hle : r.countP q ≤ r.countP p := List.countP_mono_left (fun j _ => hpq j)
    rcases List.mem_cons.1 h with e | e
    · subst e
      simp only [List.countP_cons, hp, hq]
      simp; omega
    · have := ih e
      simp only [List.countP_cons]
      cases hx : q x with
      | true => simp [hpq x hx]; omega
      | false => simp; split <;> omega
theorem countP_upd (N : Nat) (done : Nat → Bool) (i : Nat) (hi : i < N) (hd : done i = false) : (List.range N).countP (fun j => !upd done i j) < (List.range N).countP (fun j => !done j) := by
  refine countP_lt (i := i) (fun j hj => ?_) (by simp [hd]) (by simp [upd]) (List.mem_range.2 hi)
  unfold upd at hj
  by_cases e : j = i
  · subst e; simp at hj
  · simpa [e] using hj

theorem hlt_anc (l : List Oper) (hfore : ∀ i o, l[i]? = some o → ∀ k ∈ fore o, k < i) (i : Nat) (o : Oper) (ho : l[i]? = some o) : ∀ j ∈ anc l l.length (fore o), j < i := by
  have h : ∀ (n : Nat) (s : List Nat), (∀ j ∈ s, j < i) → ∀ j ∈ anc l n s, j < i := by
    intro n
    induction n with
    | zero => intro s hs j hj; exact hs j hj
    | succ n ih =>
      intro s hs j hj
      simp only [anc] at hj
      refine ih _ (fun k hk => ?_) j hj
      simp only [List.mem_eraseDups, List.mem_append, List.mem_flatMap] at hk
      rcases hk with hk | ⟨m, hm, hk⟩
      · exact hs k hk
      · have hmi := hs m hm
        cases hx : l[m]? with
        | none => rw [hx] at hk; simp at hk
        | some x => rw [hx] at hk; have := hfore m x hx k hk; omega
  exact h _ _ (hfore i o ho)



theorem upd_ne {done : Nat → Bool} {i j : Nat} (h : j ≠ i) : upd done i j = done j := by simp [upd, h]
theorem upd_self {done : Nat → Bool} {i : Nat} : upd done i i = true := by simp [upd]

theorem fillL_get (u : Nat → Value) : ∀ (l : List Oper) (k j : Nat) (t : Array Value) (o : Oper) (d : Nat), (dstsOf l).Nodup → l[j]? = some o → o.dst = some d → d < t.size → (fillL u l k t)[d]? = some (u (k + j)) := by
  intro l
  induction l with
  | nil => intro k j t o d _ h; simp at h
  | cons x r ih =>
    intro k j t o d hn hj hd hlt
    cases j with
    | zero =>
      simp at hj
      subst hj
      have hnr : d ∉ dstsOf r := by
        have : (d :: dstsOf r).Nodup := by simpa [dstsOf, List.filterMap_cons, hd] using hn
        exact (List.nodup_cons.1 this).1
      simp only [fillL, hd, Nat.add_zero]
      have h1 : t.setIfInBounds d (u k) = (t.setIfInBounds d (u k)).setIfInBounds d (u k) := by rw [Array.setIfInBounds_setIfInBounds]
      rw [h1, ← fillL_set_comm u r (k + 1) _ d (u k) hnr]
      rw [Array.getElem?_setIfInBounds]
      simp [fillL_size, hlt]
    | succ j =>
      have hnr : (dstsOf r).Nodup := by
        cases hx : x.dst with
        | none => simpa [dstsOf, List.filterMap_cons, hx] using hn
        | some e =>
          have : (e :: dstsOf r).Nodup := by simpa [dstsOf, List.filterMap_cons, hx] using hn
          exact (List.nodup_cons.1 this).2
      simp only [fillL]
      rw [ih (k + 1) j _ o d hnr (by simpa using hj) hd (by split <;> simp [hlt])]
      rw [show k + 1 + j = k + (j + 1) by omega]


end
section
set_option linter.unusedVariables false
open Go.RowKit

theorem region_inv2 {F : Fence} {n : Nat} {P : Program} {id : Nat} {l : List Oper} {Q : Exit → Act → World → Prop} {a : Act} {w : World} (hm : P.follows .mixedOrders = true)
    (hdag : (l.zipIdx.all fun (o, i) => (fore o).all (· < i)) = true) (hnd : (dstsOf l).Nodup) (hwide : ∀ f, F.fn f)
    (R : (Nat → Bool) → (Nat → Value) → World → Prop) (h0 : ∀ u, fillL u l 0 a.tmps = a.tmps → R (fun _ => false) u w.drew)
    (hstep : AllIdx (fun i o => ∀ (u : Nat → Value) (done : Nat → Bool) (W : World), done i = false → (∀ j ∈ anc l l.length (fore o), done j = true) → (∀ j oj, l[j]? = some oj → done j = true → ∀ k ∈ anc l l.length (fore oj), done k = true) → R done u W →
      if Region.wanted o (yielded l.toArray (fillL u l 0 a.tmps)) then o.wpIn F n P { a with tmps := fillL u l 0 a.tmps } W (fun a' W' => ∃ v, a' = ({ a with tmps := fillL u l 0 a.tmps } : Act).put o.dst v ∧ R (upd done i) (fun j => if j = i then v else u j) W') Q
      else R (upd done i) (fun j => if j = i then undef else u j) W) l 0)
    (hfin : ∀ (u : Nat → Value) (W : World), (∃ done, (∀ i, i < l.length → done i = true) ∧ R done u W) → Q .normal { a with tmps := fillL u l 0 a.tmps } W) :
    (Code.region id l.toArray true).wpIn F n P Q a w := by
  refine wpIn_region_any hm ?_
  have hfore : ∀ i o, l[i]? = some o → ∀ k ∈ fore o, k < i := by
    intro i o hi k hk
    rw [List.all_eq_true] at hdag
    have hmem : (o, i) ∈ l.zipIdx := by
      rw [List.mem_zipIdx_iff_getElem?]; exact hi
    have := hdag (o, i) hmem
    simp only [List.all_eq_true, decide_eq_true_eq] at this
    exact this k hk
  have hready : ∀ (listed : Array Bool) (done : Nat → Bool), listed.size = l.length → (∀ i, i < l.length → listed.getD i true = done i) → ∀ i o, l[i]? = some o →
      (i ∈ Region.ready .any l.toArray listed ↔ done i = false ∧ ∀ k ∈ fore o, done k = true) := by
    intro listed done hsz hl i o hi
    have hlt : i < l.length := (List.getElem?_eq_some_iff.1 hi).1
    have hget : ∀ k, k < l.length → listed.getD k false = done k := by
      intro k hk
      rw [← hl k hk]
      simp [Array.getD_eq_getD_getElem?, hsz, hk]
    simp only [Region.ready, List.mem_filter, List.mem_range, List.size_toArray, hlt, true_and, Bool.and_eq_true, Bool.not_eq_true', hl i hlt, List.getElem?_toArray, hi, Option.map_some, Option.getD_some]
    refine and_congr_right fun _ => ?_
    rw [Array.all_eq_true']
    constructor
    · intro h k hk
      have hki := hfore i o hi k hk
      simp only [fore, List.mem_map, List.mem_filter] at hk
      obtain ⟨e, ⟨he, hb⟩, rfl⟩ := hk
      have := h e (by simpa using he)
      simp only [hb, Bool.not_true, Bool.false_or] at this
      rw [← hget e.on (by omega)]
      exact this
    · intro h e he
      cases hb : Region.binds .any e with
      | false => simp
      | true =>
        have hk : e.on ∈ fore o := by simp only [fore, List.mem_map, List.mem_filter]; exact ⟨e, ⟨by simpa using he, hb⟩, rfl⟩
        have hd := h e.on hk
        have hek := hfore i o hi e.on hk
        rw [← hget e.on (by omega)] at hd
        simp only [Bool.not_true, Bool.false_or]
        exact hd
  have hmem : ∀ (listed : Array Bool) i, i ∈ Region.ready .any l.toArray listed → i < l.length := by
    intro listed i hi
    simp only [Region.ready, List.mem_filter, List.mem_range, List.size_toArray] at hi
    exact hi.1
  have hall : ∀ (listed : Array Bool) (done : Nat → Bool), listed.size = l.length → (∀ i, i < l.length → listed.getD i true = done i) → Region.ready .any l.toArray listed = [] → ∀ i, i < l.length → done i = true := by
    intro listed done hsz hl hr i
    induction i using Nat.strongRecOn with
    | _ i ih =>
      intro hi
      cases hd : done i with
      | true => rfl
      | false =>
        have ho : l[i]? = some l[i] := List.getElem?_eq_getElem hi
        have := (hready listed done hsz hl i _ ho).2 ⟨hd, fun k hk => by
          have hki := hfore i _ ho k hk
          exact ih k hki (by omega)⟩
        rw [hr] at this
        simp at this
  have main : ∀ (fuel : Nat) (listed : Array Bool) (u : Nat → Value) (done : Nat → Bool) (W : World), listed.size = l.length → (∀ i, i < l.length → listed.getD i true = done i) →
      (List.range l.length).countP (fun j => !done j) ≤ fuel → (∀ j o, l[j]? = some o → done j = true → ∀ k ∈ fore o, done k = true) → R done u W →
      wpAnyIn F n P .any l.toArray Q fuel listed { a with tmps := fillL u l 0 a.tmps } W := by
    intro fuel
    induction fuel with
    | zero =>
      intro listed u done W hsz hl hc hcl hR
      have hd : ∀ i, i < l.length → done i = true := by
        intro i hi
        have h0 : (List.range l.length).countP (fun j => !done j) = 0 := by omega
        rw [List.countP_eq_zero] at h0
        have := h0 i (List.mem_range.2 hi)
        simpa using this
      refine ⟨?_, hfin u W ⟨done, hd, hR⟩⟩
      rw [List.eq_nil_iff_forall_not_mem]
      intro i hi
      have hlt := hmem listed i hi
      have ho : l[i]? = some l[i] := List.getElem?_eq_getElem hlt
      have := ((hready listed done hsz hl i _ ho).1 hi).1
      rw [hd i hlt] at this
      cases this
    | succ fuel ih =>
      intro listed u done W hsz hl hc hcl hR
      refine ⟨fun hr => ?_, fun i hi => ?_⟩
      · have hd := hall listed done hsz hl hr
        exact hfin u W ⟨done, hd, hR⟩
      · have hlt := hmem listed i hi
        have ho : l[i]? = some l[i] := List.getElem?_eq_getElem hlt
        generalize hoo : l[i] = o at ho
        obtain ⟨hdi, hfo⟩ := (hready listed done hsz hl i o ho).1 hi
        have hanc : ∀ j ∈ anc l l.length (fore o), done j = true := anc_closed hcl _ _ hfo
        have hs := AllIdx.at hstep i o ho
        simp only [Nat.zero_add] at hs
        have hs := hs u done W hdi hanc (fun j oj hj hdj => anc_closed hcl _ _ (hcl j oj hj hdj)) hR
        have hnext : ∀ (v : Value) (W' : World), R (upd done i) (fun j => if j = i then v else u j) W' → wpAnyIn F n P .any l.toArray Q fuel (listed.setIfInBounds i true) (({ a with tmps := fillL u l 0 a.tmps } : Act).put o.dst v) W' := by
          intro v W' hR'
          have hput : (({ a with tmps := fillL u l 0 a.tmps } : Act).put o.dst v) = { a with tmps := fillL (fun j => if j = i then v else u j) l 0 a.tmps } := by
            cases hd : o.dst with
            | none =>
              simp only [Act.put]
              rw [fillL_none u v l 0 i a.tmps o ho hd, Nat.zero_add]
            | some d =>
              simp only [Act.put]
              rw [fillL_put u v l 0 i a.tmps o d hnd ho hd, Nat.zero_add]
          rw [hput]
          refine ih (listed.setIfInBounds i true) _ (upd done i) W' (by simp [hsz]) (fun j hj => ?_) ?_ ?_ hR'
          · unfold upd
            by_cases e : j = i
            · subst e; simp [Array.getD_eq_getD_getElem?, hsz, hj]
            · rw [if_neg e, ← hl j hj]
              simp [Array.getD_eq_getD_getElem?, Array.getElem?_setIfInBounds_ne (Ne.symm e)]
          · have := countP_upd l.length done i hlt hdi
            omega
          · intro j oj hj hdj k hk
            unfold upd at hdj ⊢
            by_cases e : j = i
            · subst e
              rw [ho] at hj
              cases hj
              have := hfo k hk
              simp [this]
            · rw [if_neg e] at hdj
              have := hcl j oj hj hdj k hk
              simp [this]
        unfold wpOpIn
        simp only [List.getElem?_toArray, ho]
        by_cases hw : Region.wanted o (yielded l.toArray (fillL u l 0 a.tmps)) = true
        · rw [if_pos hw] at hs ⊢
          exact Oper.wpIn_mono (fun a' W' ⟨v, ha, hR'⟩ => by subst ha; exact hnext v W' hR') hs
        · rw [if_neg hw] at hs ⊢
          exact ⟨fun f _ => hwide f, hnext undef W hs⟩
  obtain ⟨u0, hself⟩ : ∃ u0 : Nat → Value, fillL u0 l 0 a.tmps = a.tmps :=
    ⟨fun i => match l[i]? with | some o => (match o.dst with | some d => a.tmps.getD d undef | none => undef) | none => undef, by
      apply fillL_self
      intro i o d hi hd _
      simp only [Nat.zero_add, hi, hd]⟩
  have hmain := main l.length (Array.replicate l.length false) u0 (fun _ => false) w.drew (by simp) (fun i hi => by simp [hi]) (by simp) (fun _ _ _ h => by cases h) (h0 _ hself)
  rw [hself] at hmain
  rw [List.size_toArray]
  exact hmain

theorem fillL_was {l : List Oper} {u : Nat → Value} {t : Array Value} (h : fillL u l 0 t = t) (hnd : (dstsOf l).Nodup) (j : Nat) {o : Oper} {d : Nat} {v : Value} (ho : l[j]? = some o) (hd : o.dst = some d) (hv : t[d]? = some v) : u j = v := by
  have hlt : d < t.size := (Array.getElem?_eq_some_iff.1 hv).1
  have := fillL_get u l 0 j t o d hnd ho hd hlt
  rw [h, hv, Nat.zero_add] at this
  injection this with this
  exact this.symm
end
section
open Go.RowKit

end
end
section
set_option linter.unusedVariables false
section
set_option linter.unusedVariables false
open Go.RowKit

structure Fr (a : Act) (n : Nat) (L : List (Nat × Value)) (D : List Deferred := []) : Prop where
  sz : a.tmps.size = n
  df : a.defers = D
  get : ∀ s v, (s, v) ∈ L → a.tmps[s]? = some v

def lookS (L : List (Nat × Value)) (s : Nat) : Option Value :=
  match L with
  | [] => none
  | (t, v) :: r => if t = s then some v else lookS r s
theorem lookS_mem {L : List (Nat × Value)} {s : Nat} {v : Value} (h : lookS L s = some v) : (s, v) ∈ L := by
  induction L with
  | nil => simp [lookS] at h
  | cons p r ih =>
    obtain ⟨t, x⟩ := p
    simp only [lookS] at h
    split at h
    · subst_vars; simp at h; subst h; simp
    · exact List.mem_cons_of_mem _ (ih h)
theorem Fr.look {a : Act} {n : Nat} {L : List (Nat × Value)} {D : List Deferred} (h : Fr a n L D) {s : Nat} {v : Value} (hl : lookS L s = some v) : a.tmps[s]? = some v := h.get s v (lookS_mem hl)
theorem eval_of {a : Act} {s : Nat} {v : Value} (h : a.tmps[s]? = some v) : a.eval (.tmp s) = v := by
  show a.tmps.getD s undef = v
  simp [h]
theorem Fr.ev {a : Act} {n : Nat} {L : List (Nat × Value)} {D : List Deferred} (h : Fr a n L D) (s : Nat) (v : Value) (hl : lookS L s = some v := by kernel_rfl) : a.eval (.tmp s) = v := eval_of (h.look hl)
theorem Fr.e {a : Act} {n : Nat} {L : List (Nat × Value)} {D : List Deferred} (h : Fr a n L D) (s : Nat) {v : Value} (hl : lookS L s = some v) : a.eval (.tmp s) = v := eval_of (h.look hl)

def writer (s : Nat) : List Oper → Nat → Option Nat
  | [], _ => none
  | o :: r, k => if o.dst = some s then some k else writer s r (k + 1)
theorem writer_some {s : Nat} : ∀ {l : List Oper} {k j : Nat}, writer s l k = some j → k ≤ j ∧ ∃ o, l[j - k]? = some o ∧ o.dst = some s := by
  intro l
  induction l with
  | nil => intro k j h; simp [writer] at h
  | cons o r ih =>
    intro k j h
    simp only [writer] at h
    split at h
    · simp at h; subst h; exact ⟨Nat.le_refl _, o, by simp, by assumption⟩
    · obtain ⟨h1, o', h2, h3⟩ := ih h
      refine ⟨by omega, o', ?_, h3⟩
      rw [show j - k = (j - (k + 1)) + 1 by omega]; simpa using h2
theorem writer_none {s : Nat} : ∀ {l : List Oper} {k : Nat}, writer s l k = none → s ∉ dstsOf l := by
  intro l
  induction l with
  | nil => intro k _; simp [dstsOf]
  | cons o r ih =>
    intro k h
    simp only [writer] at h
    split at h
    · cases h
    · rename_i hne
      have := ih h
      cases ho : o.dst with
      | none => simpa [dstsOf, List.filterMap_cons, ho] using this
      | some d =>
        have hd : d ≠ s := fun e => hne (by rw [ho, e])
        simp only [dstsOf, List.filterMap_cons, ho, List.mem_cons, not_or]
        exact ⟨Ne.symm hd, this⟩
theorem fillL_other (u : Nat → Value) : ∀ (l : List Oper) (k : Nat) (t : Array Value) (s : Nat), s ∉ dstsOf l → (fillL u l k t)[s]? = t[s]? := by
  intro l
  induction l with
  | nil => intro k t s _; rfl
  | cons o r ih =>
    intro k t s hs
    simp only [fillL]
    cases ho : o.dst with
    | none =>
      have hs' : s ∉ dstsOf r := by simpa [dstsOf, List.filterMap_cons, ho] using hs
      exact ih (k + 1) t s hs'
    | some d =>
      have hs' : s ≠ d ∧ s ∉ dstsOf r := by simpa [dstsOf, List.filterMap_cons, ho] using hs
      rw [ih (k + 1) _ s hs'.2, Array.getElem?_setIfInBounds_ne (Ne.symm hs'.1)]

def ancAt (l : List Oper) (i : Nat) : List Nat := match l[i]? with | some o => anc l l.length (fore o) | none => []
def slotAt (l : List Oper) (vs : List (Option Value)) (L : List (Nat × Value)) (i s : Nat) : Option Value :=
  match writer s l 0 with
  | some j => if (ancAt l i).contains j then (vs[j]?).join else if j = i ∨ (ancAt l j).contains i then lookS L s else none
  | none => lookS L s
def lastAt (l : List Oper) (vs : List (Option Value)) (L : List (Nat × Value)) (s : Nat) : Option Value :=
  match writer s l 0 with
  | some j => (vs[j]?).join
  | none => lookS L s

def Kv (l : List Oper) (vs : List (Option Value)) (t : Array Value) (done : Nat → Bool) (u : Nat → Value) : Prop :=
  ∀ j, (done j = true → ∀ x, vs[j]? = some (some x) → u j = x) ∧ (done j = false → ∀ o d v, l[j]? = some o → o.dst = some d → t[d]? = some v → u j = v)

structure Ste (l : List Oper) (vs : List (Option Value)) (L : List (Nat × Value)) (i : Nat) (A : Act) (done : Nat → Bool) (u : Nat → Value) : Prop where
  ev : ∀ (s : Nat) (v : Value) (_ : slotAt l vs L i s = some v := by kernel_rfl), A.eval (.tmp s) = v
  nd : done i = false
  an : ∀ j, (ancAt l i).contains j = true → done j = true
  no : ∀ j, (ancAt l j).contains i = true → done j = false
  own : ∀ j d, ((l[j]?).bind fun o : Oper => o.dst) = some d → A.eval (.tmp d) = u j
  yl : ∀ j d b, (ancAt l i).contains j = true → ((l[j]?).bind fun o : Oper => o.dst) = some d → vs[j]? = some (some (.bool b)) → yielded l.toArray A.tmps j = some b

def StepX (P : Program) (l : List Oper) (vs : List (Option Value)) (L : List (Nat × Value)) (Q : Exit → Act → World → Prop) (R : (Nat → Bool) → (Nat → Value) → World → Prop) (i : Nat) (o : Oper) : Prop :=
  ∀ (A : Act) (done : Nat → Bool) (u : Nat → Value) (W : World), Ste l vs L i A done u → R done u W →
    if Region.wanted o (yielded l.toArray A.tmps) then ∀ K : Act → World → Prop, (∀ v W', (∀ x, vs[i]? = some (some x) → v = x) → R (upd done i) (fun j => if j = i then v else u j) W' → K (A.put o.dst v) W') → o.wp P A W K Q
    else (vs[i]? = some none ∧ R (upd done i) (fun j => if j = i then undef else u j) W)

structure RegOk (l : List Oper) (vs : List (Option Value)) (n : Nat) : Prop where
  dag : (l.zipIdx.all fun (o, i) => (fore o).all (· < i)) = true
  nod : (dstsOf l).Nodup
  siz : ((dstsOf l).all (· < n)) = true
  len : vs.length = l.length
  ndf : (l.all fun o => match o.op with | .defer _ => false | _ => true) = true

theorem Kv.put {l : List Oper} {vs : List (Option Value)} {t : Array Value} {done : Nat → Bool} {u : Nat → Value} (h : Kv l vs t done u) {i : Nat} {v : Value} (hv : ∀ x, vs[i]? = some (some x) → v = x) : Kv l vs t (upd done i) (fun j => if j = i then v else u j) := by
  intro j
  by_cases e : j = i
  · subst e
    simp only [upd_self, if_true]
    exact ⟨fun _ x hx => hv x hx, fun h => by cases h⟩
  · simp only [upd_ne e, if_neg e]; exact h j

theorem ste_of {l : List Oper} {vs : List (Option Value)} {n : Nat} {L : List (Nat × Value)} {D : List Deferred} {a : Act} (F : Fr a n L D) (ok : RegOk l vs n) {i : Nat} {o : Oper} (ho : l[i]? = some o) {done : Nat → Bool} {u : Nat → Value} (hd : done i = false)
    (hanc : ∀ j ∈ anc l l.length (fore o), done j = true) (hclo : ∀ j oj, l[j]? = some oj → done j = true → ∀ k ∈ anc l l.length (fore oj), done k = true) (hk : Kv l vs a.tmps done u) :
    Ste l vs L i { a with tmps := fillL u l 0 a.tmps } done u := by
  have han : ∀ j, (ancAt l i).contains j = true → done j = true := fun j hj => by
    simp only [ancAt, ho] at hj
    exact hanc j (by simpa using hj)
  have hno : ∀ j, (ancAt l j).contains i = true → done j = false := fun j hj => by
    cases hoj : l[j]? with
    | none => simp [ancAt, hoj] at hj
    | some oj =>
      simp only [ancAt, hoj] at hj
      cases hdj : done j with
      | false => rfl
      | true => rw [hclo j oj hoj hdj i (by simpa using hj)] at hd; cases hd
  have hsz : ∀ (j : Nat) (o : Oper) (d : Nat), l[j]? = some o → o.dst = some d → d < a.tmps.size := fun j o d h1 h2 => by
    have := ok.siz
    rw [List.all_eq_true] at this
    rw [F.sz]
    have hm : d ∈ dstsOf l := by
      unfold dstsOf
      rw [List.mem_filterMap]
      exact ⟨o, List.mem_of_getElem? h1, h2⟩
    simpa using this d hm
  have hown : ∀ (j : Nat) (o : Oper) (d : Nat), l[j]? = some o → o.dst = some d → (fillL u l 0 a.tmps)[d]? = some (u j) := fun j o d h1 h2 => by
    have := fillL_get u l 0 j a.tmps o d ok.nod h1 h2 (hsz j o d h1 h2)
    rw [Nat.zero_add] at this; exact this
  refine ⟨fun s v hs => ?_, hd, han, hno, fun j d hj => ?_, fun j d b hj hdj0 hb => ?_⟩
  · refine eval_of ?_
    show (fillL u l 0 a.tmps)[s]? = some v
    unfold slotAt at hs
    cases hw : writer s l 0 with
    | none =>
      rw [hw] at hs
      rw [fillL_other u l 0 a.tmps s (writer_none hw)]
      exact F.look hs
    | some j =>
      rw [hw] at hs
      obtain ⟨_, oj, hoj, hdj⟩ := writer_some hw
      rw [Nat.sub_zero] at hoj
      rw [hown j oj s hoj hdj]
      simp only at hs
      split at hs
      · rename_i hc
        have hvj : vs[j]? = some (some v) := by
          cases hx : vs[j]? with
          | none => rw [hx] at hs; simp at hs
          | some x => rw [hx] at hs; simp at hs; rw [hs]
        rw [(hk j).1 (han j hc) v hvj]
      · split at hs
        · rename_i hc
          have hdn : done j = false := by
            rcases hc with rfl | hc
            · exact hd
            · exact hno j hc
          rw [(hk j).2 hdn oj s v hoj hdj (F.look hs)]
        · cases hs
  · cases hoj : l[j]? with
    | none => rw [hoj] at hj; simp at hj
    | some oj =>
      rw [hoj] at hj
      exact eval_of (hown j oj d hoj (by simpa using hj))
  · cases hoj : l[j]? with
    | none => rw [hoj] at hdj0; simp at hdj0
    | some oj =>
      rw [hoj] at hdj0
      have hdj : oj.dst = some d := by simpa using hdj0
      have huj := (hk j).1 (han j hj) _ hb
      simp [yielded, hoj, hdj, hown j oj d hoj hdj, huj]

def wpL (P : Program) (ops : Array Oper) (Q : Exit → Act → World → Prop) : List Oper → Act → World → Prop
  | [], a, w => Q .normal a w
  | o :: rest, a, w => if Region.wanted o (yielded ops a.tmps) then o.wp P a w (wpL P ops Q rest) Q else wpL P ops Q rest (a.put o.dst undef) w
theorem wpL_step {P : Program} {ops : Array Oper} {Q : Exit → Act → World → Prop} {o : Oper} {rest : List Oper} {a : Act} {w : World}
    (h : ∀ K : Act → World → Prop, (∀ a w, wpL P ops Q rest a w → K a w) → if Region.wanted o (yielded ops a.tmps) then o.wp P a w K Q else K (a.put o.dst undef) w) : wpL P ops Q (o :: rest) a w := by
  have := h _ (fun _ _ h => h)
  unfold wpL
  exact this
theorem wpL_in {P : Program} {ops : Array Oper} {Q : Exit → Act → World → Prop} {ro : Option Nat} : ∀ (l : List Oper) (a : Act) (w : World), (l.all fun o => match o.op with | .defer _ => false | _ => true) = true → wpL P ops Q l a w → wpListIn { Fence.wide with round := ro } 0 P ops Q l a w := by
  intro l
  induction l with
  | nil => intro a w _ h; exact h
  | cons o r ih =>
    intro a w hd h
    simp only [List.all_cons, Bool.and_eq_true] at hd
    unfold wpL at h
    unfold wpListIn
    split
    · rename_i hw
      rw [if_pos hw] at h
      exact wpIn_of_wp (fun c hc => by have := hd.1; rw [hc] at this; cases this) (Oper.wp_mono (fun a w h => ih a w hd.2 h) h)
    · rename_i hw; rw [if_neg hw] at h; exact ⟨fun _ _ => trivial, ih _ _ hd.2 h⟩
theorem wpIn_region_L {P : Program} {id : Nat} {l : List Oper} {Q : Exit → Act → World → Prop} {a : Act} {w : World} {ro : Option Nat} (hd : (l.all fun o => match o.op with | .defer _ => false | _ => true) = true)
    (h : wpL P l.toArray Q l a w) : (Code.region id l.toArray false).wpIn { Fence.wide with round := ro } 0 P Q a w := wpIn_region_lit (wpL_in l a w hd h)

theorem region_xi {ro : Option Nat} {P : Program} {id : Nat} {l : List Oper} {d : Bool} {Q : Exit → Act → World → Prop} {a : Act} {w : World} {n : Nat} {L : List (Nat × Value)} {D : List Deferred} (F : Fr a n L D) (vs : List (Option Value)) (R : (Nat → Bool) → (Nat → Value) → World → Prop)
    (hm : P.follows .mixedOrders = true) (ok : RegOk l vs n) (h0 : ∀ u, R (fun _ => false) u w ∧ R (fun _ => false) u w.drew)
    (hstep : AllIdx (StepX P l vs L Q R) l 0)
    (hfin : ∀ (A : Act) (u : Nat → Value) (W : World), A.tmps.size = n → A.defers = D → (∀ s v, lastAt l vs L s = some v → A.tmps[s]? = some v) → (∀ j d, ((l[j]?).bind fun o : Oper => o.dst) = some d → A.tmps[d]? = some (u j)) → R (fun j => decide (j < l.length)) u W → Q .normal A W) :
    (Code.region id l.toArray d).wpIn { Fence.wide with round := ro } 0 P Q a w := by
  have hfin' : ∀ (done : Nat → Bool) (u : Nat → Value) (W : World), (∀ i, done i = decide (i < l.length)) → Kv l vs a.tmps done u → R done u W → Q .normal { a with tmps := fillL u l 0 a.tmps } W := by
    intro done u W hd hk hR
    have hde : done = fun j => decide (j < l.length) := funext hd
    subst hde
    have hsz : ∀ (j : Nat) (o : Oper) (d : Nat), l[j]? = some o → o.dst = some d → d < a.tmps.size := fun j o d h1 h2 => by
      have := ok.siz
      rw [List.all_eq_true] at this
      rw [F.sz]
      have hmm : d ∈ dstsOf l := by
        unfold dstsOf
        rw [List.mem_filterMap]
        exact ⟨o, List.mem_of_getElem? h1, h2⟩
      simpa using this d hmm
    have hown : ∀ (j : Nat) (o : Oper) (d : Nat), l[j]? = some o → o.dst = some d → (fillL u l 0 a.tmps)[d]? = some (u j) := fun j o d h1 h2 => by
      have := fillL_get u l 0 j a.tmps o d ok.nod h1 h2 (hsz j o d h1 h2)
      rw [Nat.zero_add] at this; exact this
    refine hfin _ u W (by show (fillL u l 0 a.tmps).size = n; rw [fillL_size]; exact F.sz) F.df (fun s v hs => ?_) (fun j d hj => ?_) hR
    · show (fillL u l 0 a.tmps)[s]? = some v
      unfold lastAt at hs
      cases hw : writer s l 0 with
      | none =>
        rw [hw] at hs
        rw [fillL_other u l 0 a.tmps s (writer_none hw)]
        exact F.look hs
      | some j =>
        rw [hw] at hs
        obtain ⟨_, oj, hoj, hdj⟩ := writer_some hw
        rw [Nat.sub_zero] at hoj
        rw [hown j oj s hoj hdj]
        simp only at hs
        have hvj : vs[j]? = some (some v) := by
          cases hx : vs[j]? with
          | none => rw [hx] at hs; simp at hs
          | some x => rw [hx] at hs; simp at hs; rw [hs]
        rw [(hk j).1 (by simpa using (List.getElem?_eq_some_iff.1 hoj).1) v hvj]
    · cases hoj : l[j]? with
      | none => rw [hoj] at hj; simp at hj
      | some oj =>
        rw [hoj] at hj
        exact hown j oj d hoj (by simpa using hj)
  have hk0 : ∀ u, fillL u l 0 a.tmps = a.tmps → Kv l vs a.tmps (fun _ => false) u := fun u hself j => ⟨(fun h => by cases h), fun _ o d v ho hd hv => fillL_was hself ok.nod j ho hd hv⟩
  cases d with
  | true =>
    refine region_inv2 (F := { Fence.wide with round := ro }) hm ok.dag ok.nod (fun _ => trivial) (fun done u W => (∀ i, l.length ≤ i → done i = false) ∧ Kv l vs a.tmps done u ∧ R done u W) (fun u hself => ⟨fun _ _ => rfl, hk0 u hself, (h0 u).2⟩) ?_ (fun u W ⟨done, hd, hb, hk, hR⟩ => hfin' done u W (fun i => by
      by_cases h : i < l.length
      · rw [hd i h]; simp [h]
      · rw [hb i (by omega)]; simp [h]) hk hR)
    have hall : ∀ (l' : List Oper) (k : Nat), (∀ i o, l'[i]? = some o → l[k + i]? = some o) → AllIdx (StepX P l vs L Q R) l' k → AllIdx (fun i o => ∀ (u : Nat → Value) (done : Nat → Bool) (W : World), done i = false → (∀ j ∈ anc l l.length (fore o), done j = true) → (∀ j oj, l[j]? = some oj → done j = true → ∀ k ∈ anc l l.length (fore oj), done k = true) → ((∀ i, l.length ≤ i → done i = false) ∧ Kv l vs a.tmps done u ∧ R done u W) →
        if Region.wanted o (yielded l.toArray (fillL u l 0 a.tmps)) then o.wpIn { Fence.wide with round := ro } 0 P { a with tmps := fillL u l 0 a.tmps } W (fun a' W' => ∃ v, a' = ({ a with tmps := fillL u l 0 a.tmps } : Act).put o.dst v ∧ ((∀ i', l.length ≤ i' → upd done i i' = false) ∧ Kv l vs a.tmps (upd done i) (fun j => if j = i then v else u j) ∧ R (upd done i) (fun j => if j = i then v else u j) W')) Q
        else ((∀ i', l.length ≤ i' → upd done i i' = false) ∧ Kv l vs a.tmps (upd done i) (fun j => if j = i then undef else u j) ∧ R (upd done i) (fun j => if j = i then undef else u j) W)) l' k := by
      intro l'
      induction l' with
      | nil => intro k _ _; trivial
      | cons o r ih =>
        intro k hl hs
        refine ⟨fun u done W hd hanc hclo ⟨hb, hk, hR⟩ => ?_, ih (k + 1) (fun i o h => by have := hl (i + 1) o (by simpa using h); rw [show k + 1 + i = k + (i + 1) by omega]; exact this) hs.2⟩
        have ho : l[k]? = some o := by simpa using hl 0 o (by simp)
        have hlt : k < l.length := (List.getElem?_eq_some_iff.1 ho).1
        have hb' : ∀ i', l.length ≤ i' → upd done k i' = false := fun i' hi' => by rw [upd_ne (by omega)]; exact hb i' hi'
        have hst := hs.1 _ done u W (ste_of F ok ho hd hanc hclo hk) hR
        by_cases hw : Region.wanted o (yielded l.toArray (fillL u l 0 a.tmps)) = true
        · rw [if_pos hw] at hst ⊢
          refine wpIn_of_wp (ro := ro) (fun c hc => ?_) (hst _ (fun v W' hv hR' => ⟨v, rfl, hb', hk.put hv, hR'⟩))
          have := ok.ndf
          rw [List.all_eq_true] at this
          have := this o (List.mem_of_getElem? ho)
          rw [hc] at this; cases this
        · rw [if_neg hw] at hst ⊢
          exact ⟨hb', hk.put (fun x hx => by rw [hst.1] at hx; cases hx), hst.2⟩
    exact hall l 0 (fun i o h => by simpa using h) hstep
  | false =>
    refine wpIn_region_L ok.ndf ?_
    obtain ⟨u0, hself⟩ : ∃ u0 : Nat → Value, fillL u0 l 0 a.tmps = a.tmps :=
      ⟨fun i => match l[i]? with | some o => (match o.dst with | some d => a.tmps.getD d undef | none => undef) | none => undef, by
        apply fillL_self
        intro i o d hi hd _
        simp only [Nat.zero_add, hi, hd]⟩
    have hfore : ∀ i o, l[i]? = some o → ∀ k ∈ fore o, k < i := by
      intro i o hi k hk
      have hdag := ok.dag
      rw [List.all_eq_true] at hdag
      have hmem : (o, i) ∈ l.zipIdx := by rw [List.mem_zipIdx_iff_getElem?]; exact hi
      have := hdag (o, i) hmem
      simp only [List.all_eq_true, decide_eq_true_eq] at this
      exact this k hk
    have main : ∀ (r : List Oper) (k : Nat) (u : Nat → Value) (W : World), (∀ i, r[i]? = l[k + i]?) → k + r.length = l.length → AllIdx (StepX P l vs L Q R) r k → Kv l vs a.tmps (fun j => decide (j < k)) u → R (fun j => decide (j < k)) u W →
        wpL P l.toArray Q r { a with tmps := fillL u l 0 a.tmps } W := by
      intro r
      induction r with
      | nil =>
        intro k u W _ hlen _ hk hR
        have hkl : k = l.length := by simpa using hlen
        subst hkl
        exact hfin' _ u W (fun i => rfl) hk hR
      | cons o r ih =>
        intro k u W hl hlen hs hk hR
        have ho : l[k]? = some o := by have := hl 0; simpa using this.symm
        have hup : (fun j => decide (j < k + 1)) = upd (fun j => decide (j < k)) k := by
          funext j
          unfold upd
          by_cases e : j = k
          · subst e; simp
          · rw [if_neg e]; congr 1; apply propext; constructor <;> intro h <;> omega
        have hst := hs.1 _ _ u W (ste_of F ok ho (by simp) (fun j hj => by have := hlt_anc l hfore k o ho j hj; simpa using this) (fun j oj hoj hj k' hk' => by
          have h1 := hlt_anc l hfore j oj hoj k' hk'
          simp at hj ⊢; omega) hk) hR
        have hnext : ∀ v W', (∀ x, vs[k]? = some (some x) → v = x) → R (upd (fun j => decide (j < k)) k) (fun j => if j = k then v else u j) W' → wpL P l.toArray Q r (({ a with tmps := fillL u l 0 a.tmps } : Act).put o.dst v) W' := by
          intro v W' hv hR'
          have hput : (({ a with tmps := fillL u l 0 a.tmps } : Act).put o.dst v) = { a with tmps := fillL (fun j => if j = k then v else u j) l 0 a.tmps } := by
            cases hd : o.dst with
            | none =>
              simp only [Act.put]
              rw [fillL_none u v l 0 k a.tmps o ho hd, Nat.zero_add]
            | some d =>
              simp only [Act.put]
              rw [fillL_put u v l 0 k a.tmps o d ok.nod ho hd, Nat.zero_add]
          rw [hput]
          refine ih (k + 1) _ W' (fun i => by have := hl (i + 1); simp at this; rw [this]; congr 1; omega) (by simp at hlen; omega) hs.2 ?_ ?_
          · rw [hup]; exact hk.put hv
          · rw [hup]; exact hR'
        refine wpL_step fun K hK => ?_
        by_cases hw : Region.wanted o (yielded l.toArray (fillL u l 0 a.tmps)) = true
        · rw [if_pos hw] at hst ⊢
          exact hst K (fun v W' hv hR' => hK _ _ (hnext v W' hv hR'))
        · rw [if_neg hw] at hst ⊢
          exact hK _ _ (hnext undef W (fun x hx => by rw [hst.1] at hx; cases hx) hst.2)
    have := main l 0 u0 w (fun i => by simp) (by simp) hstep (by
      have := hk0 u0 hself
      simpa using this) (by simpa using (h0 u0).1)
    rw [hself] at this
    exact this
end
section
open Go.RowKit
namespace X
variable {P : Program} {o : Oper} {ρ : Operand → Value} {W W' : World}

theorem w0 {y : Nat → Option Bool} (hg : o.guard = none) : Region.wanted o y = true := by simp [Region.wanted, hg]
theorem w1 {y : Nat → Option Bool} {j : Nat} {b : Bool} (hg : o.guard = some (j, b)) (hy : y j = some b) : Region.wanted o y = true := by simp [Region.wanted, hg, hy]
theorem w2 {y : Nat → Option Bool} {j : Nat} {b b' : Bool} (hg : o.guard = some (j, b)) (hy : y j = some b') (hne : (b' == b) = false) : Region.wanted o y = false := by simp [Region.wanted, hg, hy]; simpa using hne

section
variable {l : List Oper} {vs : List (Option Value)} {Q : Exit → Act → World → Prop} {R : (Nat → Bool) → (Nat → Value) → World → Prop} {i : Nat} {A : Act} {done : Nat → Bool} {u : Nat → Value} {y : Nat → Option Bool}
theorem val {v : Value} (hw : Region.wanted o y = true) (hv : vs[i]? = some (some v)) (hrun : (execOp A.eval o).run P W = .ok (.value v) W') (hR : R (upd done i) (fun j => if j = i then v else u j) W') :
    if Region.wanted o y then ∀ K : Act → World → Prop, (∀ v W', (∀ x, vs[i]? = some (some x) → v = x) → R (upd done i) (fun j => if j = i then v else u j) W' → K (A.put o.dst v) W') → o.wp P A W K Q
    else (vs[i]? = some none ∧ R (upd done i) (fun j => if j = i then undef else u j) W) := by
  rw [if_pos hw]
  intro K hK
  unfold Oper.wp
  rw [hrun]
  exact hK v W' (fun x hx => by rw [hv] at hx; injection hx with hx; injection hx) hR
theorem valN {v : Value} (hw : Region.wanted o y = true) (hv : vs[i]? = some none) (hrun : (execOp A.eval o).run P W = .ok (.value v) W') (hR : R (upd done i) (fun j => if j = i then v else u j) W') :
    if Region.wanted o y then ∀ K : Act → World → Prop, (∀ v W', (∀ x, vs[i]? = some (some x) → v = x) → R (upd done i) (fun j => if j = i then v else u j) W' → K (A.put o.dst v) W') → o.wp P A W K Q
    else (vs[i]? = some none ∧ R (upd done i) (fun j => if j = i then undef else u j) W) := by
  rw [if_pos hw]
  intro K hK
  unfold Oper.wp
  rw [hrun]
  exact hK v W' (fun x hx => by rw [hv] at hx; cases hx) hR
theorem unit (hw : Region.wanted o y = true) (hv : vs[i]? = some none) (hrun : (execOp A.eval o).run P W = .ok .skip W') (hR : R (upd done i) (fun j => if j = i then undef else u j) W') :
    if Region.wanted o y then ∀ K : Act → World → Prop, (∀ v W', (∀ x, vs[i]? = some (some x) → v = x) → R (upd done i) (fun j => if j = i then v else u j) W' → K (A.put o.dst v) W') → o.wp P A W K Q
    else (vs[i]? = some none ∧ R (upd done i) (fun j => if j = i then undef else u j) W) := by
  rw [if_pos hw]
  intro K hK
  unfold Oper.wp
  rw [hrun]
  exact hK undef W' (fun x hx => by rw [hv] at hx; cases hx) hR
theorem skip (hw : Region.wanted o y = false) (hv : vs[i]? = some none) (hR : R (upd done i) (fun j => if j = i then undef else u j) W) :
    if Region.wanted o y then ∀ K : Act → World → Prop, (∀ v W', (∀ x, vs[i]? = some (some x) → v = x) → R (upd done i) (fun j => if j = i then v else u j) W' → K (A.put o.dst v) W') → o.wp P A W K Q
    else (vs[i]? = some none ∧ R (upd done i) (fun j => if j = i then undef else u j) W) := by
  rw [if_neg (by rw [hw]; decide)]
  exact ⟨hv, hR⟩
theorem call {F : FuncId} {args : Array Value} {T : Ending → World → Prop} (hw : Region.wanted o y = true) (hrun : (execOp A.eval o).run P W = .ok (.enter F args) W) (hc : Calls P F args W T)
    (hT : ∀ e W', T e W' → ∃ v, e = .returned v ∧ (∀ x, vs[i]? = some (some x) → v = x) ∧ R (upd done i) (fun j => if j = i then v else u j) W') :
    if Region.wanted o y then ∀ K : Act → World → Prop, (∀ v W', (∀ x, vs[i]? = some (some x) → v = x) → R (upd done i) (fun j => if j = i then v else u j) W' → K (A.put o.dst v) W') → o.wp P A W K Q
    else (vs[i]? = some none ∧ R (upd done i) (fun j => if j = i then undef else u j) W) := by
  rw [if_pos hw]
  intro K hK
  unfold Oper.wp
  rw [hrun]
  refine hc.mono fun e W' h => ?_
  obtain ⟨v, rfl, h1, h2⟩ := hT e W' h
  exact hK v W' h1 h2
theorem law (hw : Region.wanted o y = true) (h : ∀ K : Act → World → Prop, (∀ v W', (∀ x, vs[i]? = some (some x) → v = x) → R (upd done i) (fun j => if j = i then v else u j) W' → K (A.put o.dst v) W') → o.wp P A W K Q) :
    if Region.wanted o y then ∀ K : Act → World → Prop, (∀ v W', (∀ x, vs[i]? = some (some x) → v = x) → R (upd done i) (fun j => if j = i then v else u j) W' → K (A.put o.dst v) W') → o.wp P A W K Q
    else (vs[i]? = some none ∧ R (upd done i) (fun j => if j = i then undef else u j) W) := by
  rw [if_pos hw]; exact h
end

theorem run_v {s : Sem Value} {v : Value} (h : s.run P W = .ok v W') : (do pure (Next.value (← s)) : Sem Next).run P W = .ok (.value v) W' := by simp [h, go_sem]
theorem run_u {s : Sem Unit} (h : s.run P W = .ok () W') : (do s; pure Next.skip : Sem Next).run P W = .ok .skip W' := by simp [h, go_sem]

theorem move {x : Operand} {v : Value} (ho : o.op = .move x) (hx : ρ x = v) : (execOp ρ o).run P W = .ok (.value v) W := by
  unfold execOp; rw [ho]; simp [hx]
theorem assign {x : Operand} {v : Value} (ho : o.op = .assign x) (hx : ρ x = v) : (execOp ρ o).run P W = .ok (.value v) W := by
  unfold execOp; rw [ho]; simp [hx]
theorem pickT {c x y : Operand} {v : Value} (ho : o.op = .pick c x y) (hc : ρ c = .bool true) (hx : ρ x = v) : (execOp ρ o).run P W = .ok (.value v) W := by
  unfold execOp; rw [ho]; simp [hc, hx, asBool, go_sem]
theorem pickF {c x y : Operand} {v : Value} (ho : o.op = .pick c x y) (hc : ρ c = .bool false) (hy : ρ y = v) : (execOp ρ o).run P W = .ok (.value v) W := by
  unfold execOp; rw [ho]; simp [hc, hy, asBool, go_sem]
theorem load {t : TypeId} {x : Operand} {p : Value} {v : Value} (ho : o.op = .load t x) (hx : ρ x = p) (hr : (Instr.loadAt t p).run P W = .ok v W) : (execOp ρ o).run P W = .ok (.value v) W := by
  unfold execOp; rw [ho]; simp only [hx]; exact run_v hr
theorem store {t : TypeId} {x y : Operand} {p v : Value} (ho : o.op = .store t x y) (hx : ρ x = p) (hy : ρ y = v) (hr : (Instr.storeAt t p v).run P W = .ok () W') : (execOp ρ o).run P W = .ok .skip W' := by
  unfold execOp; rw [ho]; simp only [hx, hy]; exact run_u hr
theorem extract {x : Operand} {k : Nat} {vs : Array Value} {v : Value} (ho : o.op = .extract x k) (hx : ρ x = .tuple vs) (hv : vs[k]? = some v) : (execOp ρ o).run P W = .ok (.value v) W := by
  unfold execOp; rw [ho]; simp [hx, Instr.extract, hv, go_sem]
theorem notB {b : Bool} {t : TypeId} {x : Operand} (ho : o.op = .unOp .not t x) (hx : ρ x = .bool b) {c : Bool} (hc : (!b) = c) : (execOp ρ o).run P W = .ok (.value (.bool c)) W := by
  unfold execOp; rw [ho]; simp [hx, Op.unary, hc, go_sem]
theorem binop {op : BinOp} {t t' : TypeId} {x y : Operand} {p q v : Value} (ho : o.op = .binOp op t x y t') (hx : ρ x = p) (hy : ρ y = q) (hr : (do eqGuard op t x y p q; binOp op t p q : Sem Value).run P W = .ok v W) : (execOp ρ o).run P W = .ok (.value v) W := by
  unfold execOp; rw [ho]; simp only [hx, hy]; exact run_v hr
theorem field {t : TypeId} {x : Operand} {k : Nat} {p v : Value} (ho : o.op = .fieldAddr t x k) (hx : ρ x = p) (hr : (Instr.fieldAt t p k).run P W = .ok v W) : (execOp ρ o).run P W = .ok (.value v) W := by
  unfold execOp; rw [ho]; simp only [hx]; exact run_v hr
theorem index {t : TypeId} {x y : Operand} {p q v : Value} (ho : o.op = .indexAddr t x y) (hx : ρ x = p) (hy : ρ y = q) (hr : (Instr.indexAt t p q).run P W = .ok v W) : (execOp ρ o).run P W = .ok (.value v) W := by
  unfold execOp; rw [ho]; simp only [hx, hy]; exact run_v hr
theorem box {t : TypeId} {x : Operand} {p v : Value} (ho : o.op = .box t x) (hx : ρ x = p) (hr : (Instr.box t p).run P W = .ok v W') : (execOp ρ o).run P W = .ok (.value v) W' := by
  unfold execOp; rw [ho]; simp only [hx]; exact run_v hr
theorem len1 {x : Operand} {tx e : TypeId} {a : Option Addr} {n c : Nat} (hu : P.underlying tx = some (.slice e)) (ho : o.op = .call { callee := .builtin .len, args := #[x], argTypes := #[tx] }) (hx : ρ x = .slice a n c) : (execOp ρ o).run P W = .ok (.value (.int .i64 n)) W := by
  unfold execOp; rw [ho]; simp [hx, resolve, invoke, builtin, Builtin.len_, run_underlying hu, go_sem]
theorem enter {f : Operand} {args : Array Operand} {ats : Array TypeId} {F : FuncId} {cap : Array Value} {vs : List Value} (ho : o.op = .call { callee := .value f, args := args, argTypes := ats }) (hf : ρ f = .func (.func F) #[] cap) (hargs : args.toList.map ρ = vs)
    (he : ∀ W, (callFunc F (vs.toArray ++ cap)).run P W = .ok (.enter F (vs.toArray ++ cap)) W) : (execOp ρ o).run P W = .ok (.enter F (vs.toArray ++ cap)) W := by
  unfold execOp; rw [ho]
  have : (args.map ρ) = vs.toArray := by
    cases args with
    | mk l => subst hargs; simp
  simp [hf, resolve, invoke, this, go_sem, he]

theorem ld1 {t : TypeId} {p : Addr} {v : Value} (hA : (isAgg t).run P W = .ok false W) (hc : W.cell? p = some v) : (Instr.loadAt t (.pointer (some p))).run P W = .ok v W := by
  simp [Instr.loadAt, loadVar, Instr.sureAddr, hA, hc, go_sem]
theorem loadCells_run {p : Addr} : ∀ (n k : Nat) (acc : Array Value) (vs : List Value), vs.length = n → (∀ j v, vs[j]? = some v → W.cell? (p.add (k + j)) = some v) → (loadCellsFrom p k n acc).run P W = .ok (acc ++ vs.toArray) W := by
  intro n
  induction n with
  | zero => intro k acc vs hl _; have : vs = [] := List.eq_nil_of_length_eq_zero hl; subst this; simp [loadCellsFrom, go_sem]
  | succ n ih =>
    intro k acc vs hl h
    match vs, hl with
    | v :: r, hl =>
      have h0 := h 0 v rfl
      have h2 := ih (k + 1) (acc.push v) r (by simpa using hl) (fun j x hx => by have := h (j + 1) x (by simpa using hx); rw [show k + 1 + j = k + (j + 1) by omega]; exact this)
      rw [Nat.add_zero] at h0
      rw [show acc ++ (v :: r).toArray = acc.push v ++ r.toArray by simp]
      simp [loadCellsFrom, go_sem, h0, h2]
theorem ldN {t : TypeId} {p : Addr} {vs : List Value} (hA : (isAgg t).run P W = .ok true W) (hS : (sizeOf t).run P W = .ok vs.length W) (hc : ∀ j v, vs[j]? = some v → W.cell? (p.add j) = some v) : (Instr.loadAt t (.pointer (some p))).run P W = .ok (.agg vs.toArray) W := by
  have := loadCells_run (P := P) (W := W) (p := p) vs.length 0 #[] vs rfl (fun j v h => by rw [Nat.zero_add]; exact hc j v h)
  simp [Instr.loadAt, loadVar, Instr.sureAddr, hA, hS, loadCells, this, go_sem]
theorem fld {t : TypeId} {p : Addr} {k sz : Nat} {fs : Array Field} {f : Field} (hu : P.underlying t = some (.struct fs)) (hf : fs[k]? = some f) (hS : (sizeOf f.type).run P W = .ok sz W) (h0 : (sz == 0) = false) {q : Addr} (hq : p.add f.offset = q) : (Instr.fieldAt t (.pointer (some p)) k).run P W = .ok (.pointer (some q)) W := by
  subst hq
  have h1 : ¬ sz = 0 := by simpa using h0
  simp [Instr.fieldAt, run_underlying hu, hf, Instr.sureAddr, fieldPlace, hS, h1, go_sem]
theorem idx {t e : TypeId} {p : Addr} {n c k sz : Nat} (hu : P.underlying t = some (.slice e)) (hS : (sizeOf e).run P W = .ok sz W) (hk : k < n) {z : Int} (hz : z = (k : Int)) {q : Addr} (hq : p.add (k * sz) = q) : (Instr.indexAt t (.slice (some p) n c) (.int .i64 z)).run P W = .ok (.pointer (some q)) W := by
  subst hz hq
  have h1 : (0 : Int) ≤ k ∧ (k : Int) < n := by omega
  simp [Instr.indexAt, run_underlying hu, hS, asIntOf, h1, go_sem]
  intro h; omega
theorem bx {t : TypeId} {vs : Array Value} : (Instr.box t (.agg vs)).run P W = .ok (.pointer (some ⟨W.heap.size, 0, none⟩)) (W.alloc (.cells vs t)) := by
  simp [Instr.box, newVar, newRow, Value.cells, go_sem]
theorem eqlI {t : TypeId} (_hu : P.underlying t = some (.int .i64)) {x y : Operand} {p q : Int} {b : Bool} (hb : (p == q) = b) : (do eqGuard .eql t x y (.int .i64 p) (.int .i64 q); binOp .eql t (.int .i64 p) (.int .i64 q) : Sem Value).run P W = .ok (.bool b) W := by
  subst hb; simp [eqGuard, binOp, go_sem]
theorem neqI {t : TypeId} (_hu : P.underlying t = some (.int .i64)) {x y : Operand} {p q : Int} {b : Bool} (hb : (p != q) = b) : (do eqGuard .neq t x y (.int .i64 p) (.int .i64 q); binOp .neq t (.int .i64 p) (.int .i64 q) : Sem Value).run P W = .ok (.bool b) W := by
  subst hb; simp [eqGuard, binOp, go_sem]
theorem lssI {t : TypeId} (_hu : P.underlying t = some (.int .i64)) {x y : Operand} {p q : Int} {b : Bool} (hb : decide (p < q) = b) : (do eqGuard .lss t x y (.int .i64 p) (.int .i64 q); binOp .lss t (.int .i64 p) (.int .i64 q) : Sem Value).run P W = .ok (.bool b) W := by
  subst hb; simp [eqGuard, binOp, go_sem]
theorem leqI {t : TypeId} (_hu : P.underlying t = some (.int .i64)) {x y : Operand} {p q : Int} {b : Bool} (hb : decide (p ≤ q) = b) : (do eqGuard .leq t x y (.int .i64 p) (.int .i64 q); binOp .leq t (.int .i64 p) (.int .i64 q) : Sem Value).run P W = .ok (.bool b) W := by
  subst hb; simp [eqGuard, binOp, go_sem]
theorem gtrI {t : TypeId} (_hu : P.underlying t = some (.int .i64)) {x y : Operand} {p q : Int} {b : Bool} (hb : decide (q < p) = b) : (do eqGuard .gtr t x y (.int .i64 p) (.int .i64 q); binOp .gtr t (.int .i64 p) (.int .i64 q) : Sem Value).run P W = .ok (.bool b) W := by
  subst hb; simp [eqGuard, binOp, go_sem]
theorem geqI {t : TypeId} (_hu : P.underlying t = some (.int .i64)) {x y : Operand} {p q : Int} {b : Bool} (hb : decide (q ≤ p) = b) : (do eqGuard .geq t x y (.int .i64 p) (.int .i64 q); binOp .geq t (.int .i64 p) (.int .i64 q) : Sem Value).run P W = .ok (.bool b) W := by
  subst hb; simp [eqGuard, binOp, go_sem]
theorem addI {t : TypeId} (_hu : P.underlying t = some (.int .i64)) {x y : Operand} {p q z : Int} (hz : p + q = z) (h0 : -9223372036854775808 ≤ z) (h1 : z ≤ 9223372036854775807) : (do eqGuard .add t x y (.int .i64 p) (.int .i64 q); binOp .add t (.int .i64 p) (.int .i64 q) : Sem Value).run P W = .ok (.int .i64 z) W := by
  subst hz; simp [eqGuard, binOp, go_sem, IntWalk.i64_in _ ⟨h0, h1⟩]
theorem subI {t : TypeId} (_hu : P.underlying t = some (.int .i64)) {x y : Operand} {p q z : Int} (hz : p - q = z) (h0 : -9223372036854775808 ≤ z) (h1 : z ≤ 9223372036854775807) : (do eqGuard .sub t x y (.int .i64 p) (.int .i64 q); binOp .sub t (.int .i64 p) (.int .i64 q) : Sem Value).run P W = .ok (.int .i64 z) W := by
  subst hz; simp [eqGuard, binOp, go_sem, IntWalk.i64_in _ ⟨h0, h1⟩]
theorem a1 {ρ : Operand → Value} {x : Operand} {v : Value} (h : ρ x = v) : [x].map ρ = [v] := by simp [h]
theorem a2 {ρ : Operand → Value} {x y : Operand} {v z : Value} (h : ρ x = v) (k : ρ y = z) : [x, y].map ρ = [v, z] := by simp [h, k]
theorem a3 {ρ : Operand → Value} {x1 x2 x3 : Operand} {v1 v2 v3 : Value} (h1 : ρ x1 = v1) (h2 : ρ x2 = v2) (h3 : ρ x3 = v3) : [x1, x2, x3].map ρ = [v1, v2, v3] := by simp [h1, h2, h3]
end X
end
section
open Go.RowKit
namespace X
variable {P : Program}

def argL : List Value → Nat → List (Nat × Value)
  | [], _ => []
  | v :: r, k => (k, v) :: argL r (k + 1)
theorem argL_mem : ∀ {l : List Value} {k s : Nat} {v : Value}, (s, v) ∈ argL l k → k ≤ s ∧ l[s - k]? = some v := by
  intro l
  induction l with
  | nil => intro k s v h; simp [argL] at h
  | cons x r ih =>
    intro k s v h
    simp only [argL, List.mem_cons, Prod.mk.injEq] at h
    rcases h with ⟨rfl, rfl⟩ | h
    · simp
    · obtain ⟨h1, h2⟩ := ih h
      refine ⟨by omega, ?_⟩
      rw [show s - k = (s - (k + 1)) + 1 by omega]; simpa using h2
theorem fr {A : Act} {n : Nat} {l : List Oper} {vs : List (Option Value)} {L : List (Nat × Value)} {D : List Deferred} (hs : A.tmps.size = n) (hd : A.defers = D) (hl : ∀ s v, lastAt l vs L s = some v → A.tmps[s]? = some v) (M : List (Nat × Value))
    (hM : M.map (fun p => lastAt l vs L p.1) = M.map (fun p => some p.2)) : Fr A n M D := by
  refine ⟨hs, hd, fun s v hm => hl s v ?_⟩
  clear hl
  induction M with
  | nil => simp at hm
  | cons p r ih =>
    simp only [List.map_cons, List.cons.injEq] at hM
    rcases List.mem_cons.1 hm with e | hm
    · subst e; exact hM.1
    · exact ih hM.2 hm
theorem _root_.Go.Proofs.Ytodedneanlekdaa.Fr.sub {A : Act} {n : Nat} {L : List (Nat × Value)} {D : List Deferred} (h : Fr A n L D) (M : List (Nat × Value)) (hM : M.map (fun p => lookS L p.1) = M.map (fun p => some p.2) := by kernel_rfl) : Fr A n M D := by
  refine ⟨h.sz, h.df, fun s v hm => h.look ?_⟩
  induction M with
  | nil => simp at hm
  | cons p r ih =>
    simp only [List.map_cons, List.cons.injEq] at hM
    rcases List.mem_cons.1 hm with e | hm
    · subst e; exact hM.1
    · exact ih hM.2 hm
theorem thenN {next : Act → World → Prop} {Q : Exit → Act → World → Prop} {a : Act} {w : World} (h : next a w) : Exit.then next Q .normal a w := h
theorem blockN {id : Nat} {Q : Exit → Act → World → Prop} {a : Act} {w : World} (h : Q .normal a w) : Exit.inBlock id Q .normal a w := h
theorem blockX {id : Nat} {Q : Exit → Act → World → Prop} {a : Act} {w : World} (h : Q .normal a w) : Exit.inBlock id Q (.exit id) a w := by simp [Exit.inBlock, h]
theorem thenX {id : Nat} {next : Act → World → Prop} {Q : Exit → Act → World → Prop} {a : Act} {w : World} (h : Q (.exit id) a w) : Exit.then next Q (.exit id) a w := h
theorem thenR {next : Act → World → Prop} {Q : Exit → Act → World → Prop} {a : Act} {w : World} (h : Q .ret a w) : Exit.then next Q .ret a w := h
theorem blockR {id : Nat} {Q : Exit → Act → World → Prop} {a : Act} {w : World} (h : Q .ret a w) : Exit.inBlock id Q .ret a w := h
theorem kn {vs : List (Option Value)} {i : Nat} {v : Value} (h : vs[i]? = some (some v)) : ∀ x, vs[i]? = some (some x) → v = x := fun x hx => by rw [h] at hx; injection hx with hx; injection hx
theorem un {vs : List (Option Value)} {i : Nat} {v : Value} (h : vs[i]? = some none) : ∀ x, vs[i]? = some (some x) → v = x := fun x hx => by rw [h] at hx; cases hx
end X
end
section
open Go.RowKit
namespace X
variable {P : Program} {ops : Array Oper} {Q : Exit → Act → World → Prop} {o : Oper} {rest : List Oper} {A : Act} {W W' : World} {n : Nat} {L : List (Nat × Value)} {D : List Deferred}

def putS (L : List (Nat × Value)) : Option Nat → Value → List (Nat × Value)
  | some d, v => (d, v) :: L.filter (fun p => !(p.1 == d))
  | none, _ => L
def delS (L : List (Nat × Value)) : Option Nat → List (Nat × Value)
  | some d => L.filter (fun p => !(p.1 == d))
  | none => L
theorem _root_.Go.Proofs.Ytodedneanlekdaa.Fr.put (h : Fr A n L D) {o : Option Nat} {v : Value} (hd : (match o with | some d => decide (d < n) | none => true) = true) : Fr (A.put o v) n (putS L o v) D := by
  cases o with
  | none => exact h
  | some d =>
    simp only [decide_eq_true_eq] at hd
    refine ⟨by simp [Act.put, h.sz], h.df, fun s x hm => ?_⟩
    simp only [putS, List.mem_cons, Prod.mk.injEq, List.mem_filter] at hm
    rcases hm with ⟨rfl, rfl⟩ | ⟨h1, h2⟩
    · simp only [Act.put]
      rw [Array.getElem?_setIfInBounds_self_of_lt (by rw [h.sz]; exact hd)]
    · have hne : d ≠ s := by intro e; subst e; simp at h2
      simp only [Act.put]
      rw [Array.getElem?_setIfInBounds_ne hne]
      exact h.get s x h1
theorem _root_.Go.Proofs.Ytodedneanlekdaa.Fr.del (h : Fr A n L D) {o : Option Nat} {v : Value} (hd : (match o with | some d => decide (d < n) | none => true) = true) : Fr (A.put o v) n (delS L o) D := by
  cases o with
  | none => exact h
  | some d =>
    have := h.put (o := some d) (v := v) hd
    exact ⟨this.sz, this.df, fun s x hm => this.get s x (List.mem_cons_of_mem _ hm)⟩
theorem _root_.Go.Proofs.Ytodedneanlekdaa.Fr.yl (h : Fr A n L D) {j d : Nat} {b : Bool} (hj : ((ops[j]?).bind fun o : Oper => o.dst) = some d) (hv : lookS L d = some (.bool b)) : yielded ops A.tmps j = some b := by
  cases hoj : ops[j]? with
  | none => rw [hoj] at hj; simp at hj
  | some oj =>
    rw [hoj] at hj
    have hdj : oj.dst = some d := by simpa using hj
    simp [yielded, hoj, hdj, h.look hv]


theorem bs {ρ : Operand → Value} {t : TypeId} {m : Nat} {xs : Array (Nat × Operand)} {vs : List (Nat × Value)} {v : Value} (ho : o.op = .buildSlice t m xs) (hx : xs.toList.map (fun p => (p.1, ρ p.2)) = vs) (hr : (Instr.buildSlice t m vs.toArray).run P W = .ok v W') : (execOp ρ o).run P W = .ok (.value v) W' := by
  unfold execOp; rw [ho]
  have : (xs.map fun (i, x) => (i, ρ x)) = vs.toArray := by
    cases xs with
    | mk l => subst hx; simp
  simp only [this]; exact run_v hr
theorem kc {ρ : Operand → Value} {x : Operand} (v : Value) (h : ρ x = v) : ρ x = v := h
theorem b1 {ρ : Operand → Value} {x : Operand} {v : Value} (h : ρ x = v) : [(0, x)].map (fun p : Nat × Operand => (p.1, ρ p.2)) = [(0, v)] := by simp [h]
theorem b2 {ρ : Operand → Value} {x y : Operand} {v z : Value} (h : ρ x = v) (k : ρ y = z) : [(0, x), (1, y)].map (fun p : Nat × Operand => (p.1, ρ p.2)) = [(0, v), (1, z)] := by simp [h, k]
end X
end
end
section
set_option linter.unusedVariables false
section
open Go.RowKit

theorem marks_ret0 {P : Program} {fn : Func} {R : Ending → World → Prop} {a : Act} {w : World} {v : Value} (hr : (results fn a.tmps).run P w = .ok v w) (hd : a.defers = []) (hR : R (.returned v) w) : bodyPostM Fence.wide 0 P fn R .ret a w := by
  show LeavesInM _ _ _ _ _ _ a.defers _ _
  rw [hd]
  exact ⟨v, hr, hR⟩
theorem marks_ret1 {P : Program} {fn : Func} {R : Ending → World → Prop} {a : Act} {w : World} {v : Value} {D : Nat} (hd : a.defers = [{ target := .collected D, args := #[] }]) (hD : w.heap[D]? = some (.deferred (some [])))
    (hr : (results fn a.tmps).run P (w.putObj D (.deferred none)) = .ok v (w.putObj D (.deferred none))) (hR : R (.returned v) (w.putObj D (.deferred none))) : bodyPostM Fence.wide 0 P fn R .ret a w := by
  show LeavesInM _ _ _ _ _ _ a.defers _ _
  rw [hd]
  exact ⟨by simp, .inl ⟨_, _, rfl, run_takeDeferred hD, v, hr, hR⟩⟩
end
section
open Go.RowKit
namespace Y
variable {ro : Option Nat} {P : Program} {ops : Array Oper} {Q : Exit → Act → World → Prop} {o : Oper} {rest : List Oper} {A : Act} {W W' : World} {n : Nat} {L : List (Nat × Value)} {D : List Deferred}

def FW (ro : Option Nat) : Fence := { Fence.wide with round := ro }
theorem seq {x y : Code} (h : x.wpIn (FW ro) 0 P (Exit.then (y.wpIn (FW ro) 0 P Q) Q) A W) : (Code.seq x y).wpIn (FW ro) 0 P Q A W := wpIn_seq h
theorem skip (h : Q .normal A W) : Code.skip.wpIn (FW ro) 0 P Q A W := wpIn_skip h
theorem exit {id : Nat} (h : Q (.exit id) A W) : (Code.exit id).wpIn (FW ro) 0 P Q A W := wpIn_exit h
theorem ret (h : Q .ret A W) : Code.ret.wpIn (FW ro) 0 P Q A W := wpIn_ret h
theorem block {id : Nat} {c : Code} (h : c.wpIn (FW ro) 0 P (Exit.inBlock id Q) A W) : (Code.block id c).wpIn (FW ro) 0 P Q A W := wpIn_block h
theorem condT {c : Operand} {x y : Code} (hc : A.eval c = .bool true) (h : x.wpIn (FW ro) 0 P Q A W) : (Code.cond c x y).wpIn (FW ro) 0 P Q A W := wpIn_cond_true hc h
theorem condF {c : Operand} {x y : Code} (hc : A.eval c = .bool false) (h : y.wpIn (FW ro) 0 P Q A W) : (Code.cond c x y).wpIn (FW ro) 0 P Q A W := wpIn_cond_false hc h
theorem loop {c : Code} (I : Nat → Act → World → Prop) (n₀ : Nat) (h₀ : I n₀ A W)
    (round : ∀ n a w, I n a w → c.wpIn (FW ro) 0 P (Exit.then (fun a' w' => ∃ n', n' < n ∧ I n' a' w') Q) a w) : (Code.loop c).wpIn (FW ro) 0 P Q A W := by
  refine wpIn_loop (fun a w => ∃ n, I n a w) (fun a w => leastOf (fun n => I n a w)) ⟨n₀, h₀⟩ ?_
  intro a w hI
  refine wpIn_mono (round _ a w (leastOf_spec hI).1) ?_
  intro e a' w' hq
  cases e with
  | normal =>
    obtain ⟨n', hlt, hI'⟩ := hq
    exact show (∃ n, I n a' w') ∧ leastOf (fun n => I n a' w') < leastOf (fun n => I n a w) from ⟨⟨n', hI'⟩, Nat.lt_of_le_of_lt ((leastOf_spec ⟨n', hI'⟩).2 n' hI') hlt⟩
  | exit id => exact hq
  | goto l => exact hq
  | ret => exact hq
  | panic ch => exact hq
  | outgrown => exact hq
theorem lit {id : Nat} {l : List Oper} (hd : (l.all fun o => match o.op with | .defer _ => false | _ => true) = true) (h : wpL P l.toArray Q l A W) : (Code.region id l.toArray false).wpIn (FW ro) 0 P Q A W := wpIn_region_L hd h
theorem nil (h : Q .normal A W) : wpL P ops Q [] A W := h

theorem pval {v : Value} (F : Fr A n L D) (hw : Region.wanted o (yielded ops A.tmps) = true) (hd : (match o.dst with | some d => decide (d < n) | none => true) = true) (hrun : (execOp A.eval o).run P W = .ok (.value v) W') (h : ∀ A', Fr A' n (X.putS L o.dst v) D → wpL P ops Q rest A' W') : wpL P ops Q (o :: rest) A W := by
  refine wpL_step fun K hK => ?_
  rw [if_pos hw]
  unfold Oper.wp
  rw [hrun]
  exact hK _ _ (h _ (F.put hd))
theorem punit (F : Fr A n L D) (hw : Region.wanted o (yielded ops A.tmps) = true) (hd : (match o.dst with | some d => decide (d < n) | none => true) = true) (hrun : (execOp A.eval o).run P W = .ok .skip W') (h : ∀ A', Fr A' n (X.delS L o.dst) D → wpL P ops Q rest A' W') : wpL P ops Q (o :: rest) A W := by
  refine wpL_step fun K hK => ?_
  rw [if_pos hw]
  unfold Oper.wp
  rw [hrun]
  exact hK _ _ (h _ (F.del hd))
theorem pskip (F : Fr A n L D) (hw : Region.wanted o (yielded ops A.tmps) = false) (hd : (match o.dst with | some d => decide (d < n) | none => true) = true) (h : ∀ A', Fr A' n (X.putS L o.dst undef) D → wpL P ops Q rest A' W) : wpL P ops Q (o :: rest) A W := by
  refine wpL_step fun K hK => ?_
  rw [if_neg (by rw [hw]; decide)]
  exact hK _ _ (h _ (F.put hd))
theorem w3 {y : Nat → Option Bool} {j : Nat} {b : Bool} (hg : o.guard = some (j, b)) (hy : y j = none) : Region.wanted o y = false := by simp [Region.wanted, hg, hy]
theorem yn_of {ops : Array Oper} {tmps : Array Value} {j d : Nat} (hj : ((ops[j]?).bind fun o : Oper => o.dst) = some d) (h : tmps.getD d undef = undef) : yielded ops tmps j = none := by
  cases hoj : ops[j]? with
  | none => rw [hoj] at hj; simp at hj
  | some oj =>
    rw [hoj] at hj
    have hdj : oj.dst = some d := by simpa using hj
    cases hd : tmps[d]? with
    | none => simp [yielded, hoj, hdj, hd]
    | some v =>
      have : v = undef := by simpa [hd] using h
      subst this
      simp [yielded, hoj, hdj, hd, undef]
theorem _root_.Go.Proofs.Ytodedneanlekdaa.Fr.yn (F : Fr A n L D) {j d : Nat} (hj : ((ops[j]?).bind fun o : Oper => o.dst) = some d) (hv : lookS L d = some undef) : yielded ops A.tmps j = none := yn_of hj (F.ev d undef hv)
theorem pcall {f : FuncId} {args : Array Value} {T : Ending → World → Prop} (F : Fr A n L D) (hw : Region.wanted o (yielded ops A.tmps) = true) (hd : (match o.dst with | some d => decide (d < n) | none => true) = true) (hrun : (execOp A.eval o).run P W = .ok (.enter f args) W) (hc : Calls P f args W T)
    (h : ∀ e W', T e W' → ∃ v, e = .returned v ∧ ∀ A', Fr A' n (X.putS L o.dst v) D → wpL P ops Q rest A' W') : wpL P ops Q (o :: rest) A W := by
  refine wpL_step fun K hK => ?_
  rw [if_pos hw]
  unfold Oper.wp
  rw [hrun]
  refine hc.mono fun e W' hT => ?_
  obtain ⟨v, rfl, h2⟩ := h e W' hT
  exact hK _ _ (h2 _ (F.put hd))

structure MP where
  p : Value → World → Prop
  up : ∀ v W W', p v W → Gr W W' → p v W'
def RP (w : World) (Pr : List (Nat × MP)) : (Nat → Bool) → (Nat → Value) → World → Prop := fun done u W => Gr w W ∧ ∀ i q, Pr.lookup i = some q → done i = true → q.p (u i) W
section
variable {w : World} {Pr : List (Nat × MP)} {done : Nat → Bool} {u : Nat → Value}
theorem RP.step {i : Nat} {v : Value} (h : RP w Pr done u W) (g : Gr W W') (hi : Pr.lookup i = none) : RP w Pr (upd done i) (fun j => if j = i then v else u j) W' := by
  refine ⟨h.1.trans g, fun j q hj hd => ?_⟩
  by_cases e : j = i
  · subst e; rw [hi] at hj; cases hj
  · rw [upd_ne e] at hd
    simp only [if_neg e]
    exact q.up _ _ _ (h.2 j q hj hd) g
theorem RP.new {i : Nat} {v : Value} {q : MP} (h : RP w Pr done u W) (g : Gr W W') (hi : Pr.lookup i = some q) (hq : q.p v W') : RP w Pr (upd done i) (fun j => if j = i then v else u j) W' := by
  refine ⟨h.1.trans g, fun j q' hj hd => ?_⟩
  by_cases e : j = i
  · subst e; rw [hi] at hj; injection hj with hj; subst hj; simpa using hq
  · rw [upd_ne e] at hd
    simp only [if_neg e]
    exact q'.up _ _ _ (h.2 j q' hj hd) g
theorem RP.skip {i : Nat} (h : RP w Pr done u W) (hi : Pr.lookup i = none) : RP w Pr (upd done i) (fun j => if j = i then undef else u j) W := h.step (Gr.refl _) hi
theorem RP.get {i : Nat} (h : RP w Pr done u W) (q : MP) (hi : Pr.lookup i = some q) (hd : done i = true) : q.p (u i) W := h.2 i q hi hd
end
theorem region {id : Nat} {l : List Oper} {d : Bool} {w : World} {a : Act} (F : Fr a n L D) (vs : List (Option Value)) (Pr : List (Nat × MP)) (hm : P.follows .mixedOrders = true) (ok : RegOk l vs n)
    (hstep : AllIdx (StepX P l vs L Q (RP w Pr)) l 0)
    (hfin : ∀ (A : Act) (u : Nat → Value) (W : World), A.tmps.size = n → A.defers = D → (∀ s v, lastAt l vs L s = some v → A.tmps[s]? = some v) → (∀ j d, ((l[j]?).bind fun o : Oper => o.dst) = some d → A.tmps[d]? = some (u j)) → RP w Pr (fun j => decide (j < l.length)) u W → Q .normal A W) :
    (Code.region id l.toArray d).wpIn (FW ro) 0 P Q a w :=
  region_xi F vs (RP w Pr) hm ok (fun _ => ⟨⟨Gr.refl _, fun _ _ _ h => by cases h⟩, ⟨Gr.drew _, fun _ _ _ h => by cases h⟩⟩) hstep hfin
theorem _root_.Go.Proofs.Ytodedneanlekdaa.Fr.add (F : Fr A n L D) {d : Nat} {v z : Value} (h : A.tmps[d]? = some v) (e : v = z) : Fr A n ((d, z) :: L) D := by
  subst e
  refine ⟨F.sz, F.df, fun s x hm => ?_⟩
  rcases List.mem_cons.1 hm with hm | hm
  · injection hm with h1 h2; subst h1 h2; exact h
  · exact F.get s x hm

theorem calls {f : FuncId} {fn : Func} {c : Code} {args : Array Value} {w : World} {R : Ending → World → Prop} (N : Nat) (hf : P.funcs[f]? = some fn) (hb : fn.body = some c) (hN : args.size + (fn.ntmps - args.size) = N)
    (h : ∀ A, Fr A N (X.argL args.toList 0) → c.wpIn (FW none) 0 P (bodyPostM Fence.wide 0 P fn R) A w) : Calls P f args w R := by
  refine callsIn_wide.1 (callsIn_of_wp_marks (F := Fence.wide) (n := 0) hf hb trivial ?_)
  refine h _ ⟨by simpa using hN, rfl, fun s v hm => ?_⟩
  obtain ⟨_, h2⟩ := X.argL_mem hm
  rw [Nat.sub_zero] at h2
  have hlt := (List.getElem?_eq_some_iff.1 h2).1
  show (args ++ Array.replicate (fn.ntmps - args.size) undef)[s]? = some v
  rw [Array.getElem?_append_left (by simpa using hlt)]
  simpa using h2
theorem rs1 {fn : Func} {s : Nat} {v : Value} (F : Fr A n L D) (hr : fn.results = #[.tmp s]) (hv : lookS L s = some v) : (results fn A.tmps).run P W = .ok v W := by
  have e := F.look hv
  simp [results, hr, e, go_sem]
theorem rs2 {fn : Func} {s t : Nat} {v x : Value} (F : Fr A n L D) (hr : fn.results = #[.tmp s, .tmp t]) (hv : lookS L s = some v) (hx : lookS L t = some x) : (results fn A.tmps).run P W = .ok (.tuple #[v, x]) W := by
  have e := F.look hv
  have e2 := F.look hx
  simp [results, hr, e, e2, go_sem]
theorem rs3 {fn : Func} {s t r : Nat} {v x y : Value} (F : Fr A n L D) (hr : fn.results = #[.tmp s, .tmp t, .tmp r]) (hv : lookS L s = some v) (hx : lookS L t = some x) (hy : lookS L r = some y) : (results fn A.tmps).run P W = .ok (.tuple #[v, x, y]) W := by
  have e := F.look hv
  have e2 := F.look hx
  have e3 := F.look hy
  simp [results, hr, e, e2, e3, go_sem]
theorem ret0 {fn : Func} {R : Ending → World → Prop} {v : Value} (F : Fr A n L) (hr : (results fn A.tmps).run P W = .ok v W) (h : R (.returned v) W) : bodyPostM Fence.wide 0 P fn R .ret A W := marks_ret0 hr F.df h
theorem ret1 {fn : Func} {R : Ending → World → Prop} {v : Value} {k : Nat} (F : Fr A n L [{ target := .collected k, args := #[] }]) (hk : W.heap[k]? = some (.deferred (some []))) (hr : (results fn A.tmps).run P (W.putObj k (.deferred none)) = .ok v (W.putObj k (.deferred none))) (h : R (.returned v) (W.putObj k (.deferred none))) : bodyPostM Fence.wide 0 P fn R .ret A W := marks_ret1 F.df hk hr h
theorem eqlB {t : TypeId} {x y : Operand} (hu : P.underlying t = some .bool) {p q b : Bool} (hb : (p == q) = b) : (do eqGuard .eql t x y (.bool p) (.bool q); binOp .eql t (.bool p) (.bool q) : Sem Value).run P W = .ok (.bool b) W := by
  subst hb
  obtain ⟨d, hd⟩ : ∃ d, Op.maxDepth = d + 1 := ⟨_, rfl⟩
  simp [eqGuard, binOp, Op.equal, hd, Op.equalIn, run_underlying hu, go_sem]
theorem nilT {t e : TypeId} {x y : Operand} (hu : P.underlying t = some (.slice e)) : (do eqGuard .eql t x y (.slice none 0 0) (.slice none 0 0); binOp .eql t (.slice none 0 0) (.slice none 0 0) : Sem Value).run P W = .ok (.bool true) W := by
  obtain ⟨d, hd⟩ : ∃ d, Op.maxDepth = d + 1 := ⟨_, rfl⟩
  simp [eqGuard, binOp, Op.equal, hd, Op.equalIn, run_underlying hu, go_sem]
theorem nilF {t e : TypeId} {x y : Operand} (hu : P.underlying t = some (.slice e)) {a : Addr} {k c : Nat} : (do eqGuard .eql t x y (.slice (some a) k c) (.slice none 0 0); binOp .eql t (.slice (some a) k c) (.slice none 0 0) : Sem Value).run P W = .ok (.bool false) W := by
  obtain ⟨d, hd⟩ : ∃ d, Op.maxDepth = d + 1 := ⟨_, rfl⟩
  simp [eqGuard, binOp, Op.equal, hd, Op.equalIn, run_underlying hu, go_sem]
theorem al {ρ : Operand → Value} {t : TypeId} {v : Value} (ho : o.op = .alloc t) (hr : (Instr.alloc t true (.tuple #[])).run P W = .ok v W') : (execOp ρ o).run P W = .ok (.value v) W' := by
  unfold execOp; rw [ho]; exact X.run_v hr
theorem pput {d : Option Nat} {v : Value} (F : Fr A n L D) (hd : (match d with | some d => decide (d < n) | none => true) = true) (h : ∀ A', Fr A' n (X.putS L d v) D → wpL P ops Q rest A' W) : wpL P ops Q rest (A.put d v) W := h _ (F.put hd)
theorem wpL_plain (hg : o.guard = none) {a : Act} {w : World} (h : ∀ K : Act → World → Prop, (∀ a w, wpL P ops Q rest a w → K a w) → o.wp P a w K Q) : wpL P ops Q (o :: rest) a w :=
  wpL_step fun K hK => by rw [if_pos (X.w0 hg)]; exact h K hK
theorem st1 {t : TypeId} {p : Addr} {v v0 : Value} (hS : (sizeOf t).run P W = .ok 1 W) (hv : v.cells = #[v]) (hv1 : v.oneCell' = true) (hc : W.cell? p = some v0) (hf : W.frozen? p = false) : (Instr.storeAt t (.pointer (some p)) v).run P W = .ok () (W.setCell p v) := by
  have h := run_store P W p v .plain hv1
  rw [hc, hf] at h
  simp only [Bool.false_eq_true, if_false] at h
  unfold Value.cells at hv
  simp [Instr.storeAt, storeVar, Instr.sureAddr, hS, hv, storeCells, Value.cells, go_sem, h]
end Y
end
section
open Go.RowKit
namespace Y
variable {P : Program} {W W' : World}

theorem addr_add (g i j : Nat) : (⟨g, i, none⟩ : Addr).add j = ⟨g, i + j, none⟩ := by
  unfold Addr.add; split
  · subst_vars; rfl
  · rfl
section
variable {b N : Nat} {val : Nat → Value}
theorem set_only (W : World) (b k : Nat) (v : Value) : Only (fun x => x = b) W (W.setCell ⟨b, k, none⟩ v) := Only.setCell (S := fun x => x = b) (Only.refl _ _) (p := ⟨b, k, none⟩) (.inl rfl) v
theorem Only.up {wb : World} (g : Gr wb W) (h : Only (fun x => x = b) W W') (hb : wb.heap.size ≤ b) : Gr wb W' :=
  ((g.only (fun x => wb.heap.size ≤ x)).trans (h.mono' (fun i e => by subst e; exact hb))).gr (fun i hi e => by omega)

end
theorem bd {o : Oper} {ρ : Operand → Value} {t : TypeId} {xs : Array (Nat × Operand)} {vs : List (Nat × Value)} {v : Value} (ho : o.op = .build t xs) (hx : xs.toList.map (fun p => (p.1, ρ p.2)) = vs) (hr : (Instr.build t vs.toArray).run P W = .ok v W') : (execOp ρ o).run P W = .ok (.value v) W' := by
  unfold execOp; rw [ho]
  have : (xs.map fun (i, x) => (i, ρ x)) = vs.toArray := by
    cases xs with
    | mk l => subst hx; simp
  simp only [this]; exact X.run_v hr

def RT (w : World) (Pr : List (Nat × MP)) (s : Nat) (T : (Nat → Value) → World → Prop) : (Nat → Bool) → (Nat → Value) → World → Prop := fun done u W => (done s = false → RP w Pr done u W) ∧ (done s = true → T u W)
theorem RT.of {w : World} {Pr : List (Nat × MP)} {s i : Nat} {T : (Nat → Value) → World → Prop} {done : Nat → Bool} {u : Nat → Value} (hs : done s = false) (hi : (s == i) = false) (h : RP w Pr (upd done i) u W) : RT w Pr s T (upd done i) u W :=
  ⟨fun _ => h, fun h2 => by rw [upd_ne (by simpa using hi), hs] at h2; cases h2⟩
theorem RT.fin {w : World} {Pr : List (Nat × MP)} {s : Nat} {T : (Nat → Value) → World → Prop} {done : Nat → Bool} {u : Nat → Value} (h : T u W) : RT w Pr s T (upd done s) u W :=
  ⟨fun h2 => absurd h2 (by rw [upd_self]; decide), fun _ => h⟩
theorem regionS {ro : Option Nat} {n : Nat} {L : List (Nat × Value)} {D : List Deferred} {Q : Exit → Act → World → Prop} {id : Nat} {l : List Oper} {d : Bool} {w : World} {a : Act} (F : Fr a n L D) (vs : List (Option Value)) (Pr : List (Nat × MP)) (s : Nat) (T : (Nat → Value) → World → Prop) (hm : P.follows .mixedOrders = true) (ok : RegOk l vs n) (hsl : s < l.length)
    (hstep : AllIdx (StepX P l vs L Q (RT w Pr s T)) l 0)
    (hfin : ∀ (A : Act) (u : Nat → Value) (W : World), A.tmps.size = n → A.defers = D → (∀ s v, lastAt l vs L s = some v → A.tmps[s]? = some v) → (∀ j d, ((l[j]?).bind fun o : Oper => o.dst) = some d → A.tmps[d]? = some (u j)) → T u W → Q .normal A W) :
    (Code.region id l.toArray d).wpIn (FW ro) 0 P Q a w :=
  region_xi F vs (RT w Pr s T) hm ok (fun _ => ⟨⟨fun _ => ⟨Gr.refl _, fun _ _ _ h => by cases h⟩, fun h => by cases h⟩, ⟨fun _ => ⟨Gr.drew _, fun _ _ _ h => by cases h⟩, fun h => by cases h⟩⟩) hstep
    (fun A u W h1 h2 h3 h4 h5 => hfin A u W h1 h2 h3 h4 (h5.2 (by simpa using hsl)))
end Y
section
variable {P : Program} {A : Act} {W W' : World} {Q : Exit → Act → World → Prop} {n : Nat} {L : List (Nat × Value)} {D : List Deferred} {ops : Array Oper} {o : Oper} {rest : List Oper}
theorem Y.pv {v : Value} (F : Fr A n L D) (hrun : (execOp A.eval o).run P W = .ok (.value v) W') (h : ∀ A', Fr A' n (X.putS L o.dst v) D → wpL P ops Q rest A' W') (hg : o.guard = none := by exact rfl) (hd : (match o.dst with | some d => decide (d < n) | none => true) = true := by exact rfl) : wpL P ops Q (o :: rest) A W :=
  Y.pval F (X.w0 hg) hd hrun h
theorem X.vl {R : (Nat → Bool) → (Nat → Value) → World → Prop} {vs : List (Option Value)} {i : Nat} {done : Nat → Bool} {u : Nat → Value} {y : Nat → Option Bool} {v : Value} (hrun : (execOp A.eval o).run P W = .ok (.value v) W') (hR : R (upd done i) (fun j => if j = i then v else u j) W') (hg : o.guard = none := by exact rfl) (hv : vs[i]? = some (some v) := by exact rfl) :
    if Region.wanted o y then ∀ K : Act → World → Prop, (∀ v W', (∀ x, vs[i]? = some (some x) → v = x) → R (upd done i) (fun j => if j = i then v else u j) W' → K (A.put o.dst v) W') → o.wp P A W K Q
    else (vs[i]? = some none ∧ R (upd done i) (fun j => if j = i then undef else u j) W) := X.val (X.w0 hg) hv hrun hR
theorem Y.RP.st0 {w : World} {Pr : List (Nat × Y.MP)} {done : Nat → Bool} {u : Nat → Value} {i : Nat} {v : Value} (h : Y.RP w Pr done u W) (hi : Pr.lookup i = none := by exact rfl) : Y.RP w Pr (upd done i) (fun j => if j = i then v else u j) W := h.step (Gr.refl _) hi
end
theorem X.quoI {P : Program} {W : World} {t : TypeId} (_hu : P.underlying t = some (.int .i64)) {x y : Operand} {p q z : Int} (hz : p / q = z) (h0 : 0 ≤ p ∧ p ≤ 9223372036854775807) (h1 : 0 < q) : (do eqGuard .quo t x y (.int .i64 p) (.int .i64 q); binOp .quo t (.int .i64 p) (.int .i64 q) : Sem Value).run P W = .ok (.int .i64 z) W := by
  have hd : p.tdiv q = p / q := Int.tdiv_eq_ediv_of_nonneg h0.1
  have h2 : 0 ≤ p / q := Int.ediv_nonneg h0.1 (by omega)
  have h3 : p / q ≤ p := Int.ediv_le_self q h0.1
  have hne : ¬ q = 0 := by omega
  subst hz
  have hw := IntWalk.i64_in (p / q) ⟨by omega, by omega⟩
  simp [eqGuard, binOp, Op.intDiv, go_sem, hne, hd, hw]
end
section
open Go.RowKit

end
end
section
set_option linter.unusedVariables false
open Go.RowKit





def OwnP (W : World) (b n : Nat) (val : Nat → Value) : Prop := ∃ cs t, W.heap[b]? = some (.cells cs t (0, 0)) ∧ n ≤ cs.size ∧ ∀ k, k < n → cs[k]? = some (val k)
section
variable {W W' : World} {b n : Nat} {val : Nat → Value} {P : Program}
theorem OwnP.lt (h : OwnP W b n val) : b < W.heap.size := by
  obtain ⟨cs, t, h, _⟩ := h; exact (Array.getElem?_eq_some_iff.1 h).1
theorem OwnP.only {S : Nat → Prop} (h : OwnP W b n val) (g : Only S W W') (hs : ¬ S b) : OwnP W' b n val := by
  obtain ⟨cs, t, h1, h2, h3⟩ := h
  exact ⟨cs, t, (g.block b (Array.getElem?_eq_some_iff.1 h1).1 hs).trans h1, h2, h3⟩
theorem OwnP.gr (h : OwnP W b n val) (g : Gr W W') : OwnP W' b n val := h.only (g.only (fun _ => False)) (fun h => h)
theorem OwnP.cell (h : OwnP W b n val) {k : Nat} (hk : k < n) : W.cell? ⟨b, k, none⟩ = some (val k) := by
  obtain ⟨cs, t, h1, _, h3⟩ := h
  exact cell_at h1 (h3 k hk)
theorem OwnP.fz (h : OwnP W b n val) (k : Nat) : W.frozen? ⟨b, k, none⟩ = false := by
  obtain ⟨cs, t, h1, _⟩ := h
  unfold World.frozen?
  simp [h1]
theorem OwnP.set (h : OwnP W b n val) {k : Nat} (v : Value) : OwnP (W.setCell ⟨b, k, none⟩ v) b n (fun j => if j = k then v else val j) := by
  obtain ⟨cs, t, h1, h2, h3⟩ := h
  refine ⟨cs.setIfInBounds k v, t, heap_setCell_same W b k cs t v h1, by simpa using h2, fun j hj => ?_⟩
  show _ = some (if j = k then v else val j)
  by_cases e : j = k
  · subst e; rw [if_pos rfl, Array.getElem?_setIfInBounds_self_of_lt (by omega)]
  · rw [if_neg e, Array.getElem?_setIfInBounds_ne (Ne.symm e)]; exact h3 j hj
theorem OwnP.congr {val' : Nat → Value} (h : OwnP W b n val) (he : ∀ k, k < n → val k = val' k) : OwnP W b n val' := by
  obtain ⟨cs, t, h1, h2, h3⟩ := h
  exact ⟨cs, t, h1, h2, fun k hk => by rw [h3 k hk, he k hk]⟩
theorem OwnP.st1 {t : TypeId} {k : Nat} {v : Value} (h : OwnP W b n val) (hS : (sizeOf t).run P W = .ok 1 W) (hv : v.cells = #[v]) (hv1 : v.oneCell' = true) (hk : k < n) :
    (Instr.storeAt t (.pointer (some ⟨b, k, none⟩)) v).run P W = .ok () (W.setCell ⟨b, k, none⟩ v) := Y.st1 hS hv hv1 (h.cell hk) (h.fz k)
end
end
section
set_option linter.unusedVariables false
open Go.RowKit
theorem Only.step {S : Nat → Prop} {a b c : World} {r : Nat} (h : Only S a b) (k : Only (fun x => x = r) b c) (hr : S r ∨ a.heap.size ≤ r) : Only S a c :=
  ⟨k.os.trans h.os, k.tape.trans h.tape, k.output.trans h.output, Nat.le_trans h.size k.size, fun i hi hn => by
    have h1 := h.size
    refine (k.block i (by omega) (fun e => ?_)).trans (h.block i hi hn)
    subst e
    rcases hr with hr | hr
    · exact hn hr
    · omega⟩
theorem Only.step2 {S T : Nat → Prop} {a b c : World} (h : Only S a b) (k : Only T b c) (hr : ∀ r, T r → S r ∨ a.heap.size ≤ r) : Only S a c :=
  ⟨k.os.trans h.os, k.tape.trans h.tape, k.output.trans h.output, Nat.le_trans h.size k.size, fun i hi hn => by
    have h1 := h.size
    refine (k.block i (by omega) (fun e => ?_)).trans (h.block i hi hn)
    rcases hr i e with hr | hr
    · exact hn hr
    · omega⟩
theorem RCells.only {S : Nat → Prop} {w w' : World} {L : List (Addr × Value)} (h : RCells w L) (g : Only S w w') (hn : ∀ p ∈ L, ¬ S p.1.block) : RCells w' L := fun p hp => g.cell (h p hp) (hn p hp)
end
section
set_option linter.unusedVariables false
open Go.RowKit
namespace Y
variable {P : Program} {W W' : World} {o : Oper} {ρ : Operand → Value}
theorem max2 {x y : Operand} {ats : Array TypeId} {p q : Int} (ho : o.op = .call { callee := .builtin .max, args := #[x, y], argTypes := ats }) (hx : ρ x = .int .i64 p) (hy : ρ y = .int .i64 q) : (execOp ρ o).run P W = .ok (.value (.int .i64 (max p q))) W := by
  have e : (if p < q then q else p) = max p q := by split <;> omega
  simp [execOp, ho, hx, hy, resolve, invoke, builtin, Builtin.max_, Builtin.max2, go_sem, e]
theorem nilC {x : Operand} {p : Addr} (ho : o.op = .nilCheck x) (hx : ρ x = .pointer (some p)) : (execOp ρ o).run P W = .ok (.value (.pointer (some p))) W := by
  simp [execOp, ho, hx, go_sem]
theorem fnc {fn : Fn} {xs : Array Operand} {vs : Array Value} (ho : o.op = .makeFunc fn #[] xs) (hx : xs.map ρ = vs) : (execOp ρ o).run P W = .ok (.value (.func fn #[] vs)) W := by
  simp [execOp, ho, hx, Instr.makeFunc, go_sem]
theorem idxA {t e : TypeId} {p : Addr} {n k sz : Nat} (hu : P.underlying t = some (.array n e)) (hS : (sizeOf e).run P W = .ok sz W) (h1 : 1 < n) (hk : k < n) {z : Int} (hz : z = (k : Int)) {q : Addr} (hq : p.add (k * sz) = q) : (Instr.indexAt t (.pointer (some p)) (.int .i64 z)).run P W = .ok (.pointer (some q)) W := by
  subst hz hq
  have h2 : (0 : Int) ≤ k ∧ (k : Int) < n := by omega
  simp [Instr.indexAt, Instr.sureAddr, run_underlying hu, hS, asIntOf, h2, go_sem]
  intro h; omega
def AtFrom (W : World) (p : Addr) (k : Nat) (vs : List Value) : Prop := ∀ j v, vs[j]? = some v → W.cell? (p.add (k + j)) = some v
theorem AtFrom.nil (W : World) (p : Addr) (k : Nat) : AtFrom W p k [] := fun j v h => by simp at h
theorem AtFrom.cons {p : Addr} {k : Nat} {v : Value} {vs : List Value} (h : W.cell? (p.add k) = some v) (t : AtFrom W p (k + 1) vs) : AtFrom W p k (v :: vs) := fun j u hj => by
  cases j with
  | zero => simp at hj; subst hj; exact h
  | succ j => have := t j u (by simpa using hj); rwa [show k + 1 + j = k + (j + 1) by omega] at this
theorem AtFrom.z {p : Addr} {vs : List Value} (h : AtFrom W p 0 vs) : ∀ j v, vs[j]? = some v → W.cell? (p.add j) = some v := fun j v hj => by have := h j v hj; rwa [Nat.zero_add] at this
theorem atz {vs : List Value} (p : Addr) (h : AtFrom W p 0 vs) : ∀ j v, vs[j]? = some v → W.cell? (p.add j) = some v := h.z
theorem alloc_set (W : World) (cs : Array Value) (T : TypeId) (i : Nat) (v : Value) : (W.alloc (.cells cs T)).setCell ⟨W.heap.size, i, none⟩ v = W.alloc (.cells (cs.setIfInBounds i v) T) := by
  unfold World.alloc World.setCell
  congr 1
  apply Array.ext
  · simp
  · intro j h1 h2
    rw [Array.getElem_modify]
    by_cases e : W.heap.size = j
    · subst e; simp
    · rw [if_neg e]
      have hj : j < W.heap.size := by simp at h2; omega
      rw [Array.getElem_push_lt hj, Array.getElem_push_lt hj]
theorem fresh_fz (W : World) (cs : Array Value) (T : TypeId) (i : Nat) : (W.alloc (.cells cs T)).frozen? ⟨W.heap.size, i, none⟩ = false := by
  have := World.alloc_heap_new W (.cells cs T)
  unfold World.frozen?
  simp only [this]
  simp
theorem store_fill (T : TypeId) : ∀ (rest zs pre : List Value), zs.length = rest.length → (∀ v ∈ rest, v.oneCell' = true) →
    (storeCells ⟨W.heap.size, 0, none⟩ rest pre.length).run P (W.alloc (.cells (pre ++ zs).toArray T)) = .ok () (W.alloc (.cells (pre ++ rest).toArray T)) := by
  intro rest
  induction rest with
  | nil => intro zs pre h _; simp at h; subst h; simp [storeCells, go_sem]
  | cons v rest ih =>
    intro zs pre h h1
    cases zs with
    | nil => simp at h
    | cons z zs =>
      have hc : (W.alloc (.cells (pre ++ z :: zs).toArray T)).cell? ⟨W.heap.size, pre.length, none⟩ = some z := cell_new (by simp)
      have hs := run_store P (W.alloc (.cells (pre ++ z :: zs).toArray T)) ⟨W.heap.size, pre.length, none⟩ v .plain (h1 v (by simp))
      rw [hc, fresh_fz] at hs
      simp only [Bool.false_eq_true, if_false] at hs
      have e : (pre ++ z :: zs).toArray.setIfInBounds pre.length v = ((pre ++ [v]) ++ zs).toArray := by simp
      rw [alloc_set, e] at hs
      have hi := ih zs (pre ++ [v]) (by simpa using h) (fun u hu => h1 u (by simp [hu]))
      have e2 : (pre ++ [v]).length = pre.length + 1 := by simp
      have e3 : (pre ++ [v]) ++ rest = pre ++ v :: rest := by simp
      rw [e2, e3] at hi
      have e4 : (⟨W.heap.size, 0, none⟩ : Addr).add pre.length = ⟨W.heap.size, pre.length, none⟩ := addr_add0 _ _
      simp [storeCells, e4, hs, go_sem]
      simpa using hi
theorem stNew {t T : TypeId} (vs zs : List Value) (hS : (sizeOf t).run P (W.alloc (.cells zs.toArray T)) = .ok vs.length (W.alloc (.cells zs.toArray T))) (hl : zs.length = vs.length) (h1 : (vs.all fun v => v.oneCell') = true) :
    (Instr.storeAt t (.pointer (some ⟨W.heap.size, 0, none⟩)) (.agg vs.toArray)).run P (W.alloc (.cells zs.toArray T)) = .ok () (W.alloc (.cells vs.toArray T)) := by
  have h := store_fill (P := P) (W := W) T vs zs [] hl (fun v hv => List.all_eq_true.1 h1 v hv)
  simp only [List.nil_append, List.length_nil] at h
  simp [Instr.storeAt, storeVar, Instr.sureAddr, hS, Value.cells, go_sem]
  exact h
theorem bx1 {t : TypeId} {v : Value} (h : v.cells = #[v]) : (Instr.box t v).run P W = .ok (.pointer (some ⟨W.heap.size, 0, none⟩)) (W.alloc (.cells #[v] t)) := by
  unfold Value.cells at h
  simp [Instr.box, newVar, newRow, Value.cells, h, go_sem]
theorem m1 {x : Operand} {v : Value} (h : ρ x = v) : #[x].map ρ = #[v] := by simp [h]
theorem m2 {x y : Operand} {v z : Value} (h : ρ x = v) (k : ρ y = z) : #[x, y].map ρ = #[v, z] := by simp [h, k]
theorem m3 {x y u : Operand} {v z r : Value} (h : ρ x = v) (k : ρ y = z) (l : ρ u = r) : #[x, y, u].map ρ = #[v, z, r] := by simp [h, k, l]
theorem rs0 {fn : Func} {tmps : Array Value} (hr : fn.results = #[]) : (results fn tmps).run P W = .ok (.tuple #[]) W := by
  unfold results; rw [hr]; simp [go_sem]
end Y
end
end Go.Proofs.Ytodedneanlekdaa
