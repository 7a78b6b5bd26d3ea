/- Several texts of this claim in one file. (1) Growth of memory; lists in memory; what may have turned; a range over a function. Nothing of the program is proved here. (2) Regions that draw their order. Nothing of the program is proved here. -/
import Derived.WalkKit
import Derived.Deep.Draws
import Derived.Lib.Hide
import Derived.RangeFuncSeq
import Derived.RangeFuncBound
import Derived.OrdersIn
import Derived.Below
import Derived.RangeFuncIn
namespace Go.Proofs.Ytoalamakhjbedaa
section
set_option linter.unusedVariables false
section
open Go.RowKit

/-- The world has only grown: whatever lay lies as it lay. -/
def Gr (w w' : World) : Prop := Below w.heap.size w w'

theorem Gr.refl (w : World) : Gr w w := Below.refl _ _
theorem Gr.trans {a b c : World} (h : Gr a b) (k : Gr b c) : Gr a c := Below.trans h (Below.mono k (Below.size h))
theorem Gr.drewN (w : World) (n : Nat) : Gr w (w.drewN n) := ⟨rfl, rfl, rfl, Nat.le_refl _, fun _ _ => rfl⟩
theorem Gr.drew (w : World) : Gr w w.drew := Below.drew (Below.refl _ _)
theorem Gr.alloc (w : World) (o : Obj) : Gr w (w.alloc o) := Below.alloc (Below.refl _ _) (Nat.le_refl _) o
theorem Gr.size {a b : World} (h : Gr a b) : a.heap.size ≤ b.heap.size := Below.size h
theorem Gr.below {a b : World} (h : Gr a b) : Below a.heap.size a b := h
theorem Gr.cell {a b : World} (h : Gr a b) {p : Addr} (hp : p.block < a.heap.size) : b.cell? p = a.cell? p := Below.cell h hp
theorem Gr.frozen {a b : World} (h : Gr a b) {p : Addr} (hp : p.block < a.heap.size) : b.frozen? p = a.frozen? p := Below.frozen h hp
theorem Gr.setCell {a b : World} (h : Gr a b) {p : Addr} (hp : a.heap.size ≤ p.block) (u : Value) : Gr a (b.setCell p u) := Below.setCell h hp u
theorem Gr.allocR {a b : World} (h : Gr a b) (o : Obj) : Gr a (b.alloc o) := h.trans (Gr.alloc _ _)
theorem Gr.drewR {a b : World} (h : Gr a b) : Gr a b.drew := h.trans (Gr.drew _)
theorem Gr.drewNR {a b : World} (h : Gr a b) (n : Nat) : Gr a (b.drewN n) := h.trans (Gr.drewN _ _)

theorem add_block (a : Addr) (n : Nat) : (a.add n).block = a.block := by unfold Addr.add; split <;> rfl

/-- The slice value with address a and length n holds the numbers xs. -/
def Ints (w : World) (a : Option Addr) (n : Nat) (xs : List Int) : Prop :=
  xs.length = n ∧ n < 1152921504606846976 ∧ ∀ j, j < n → ∃ ad, a = some ad ∧ ad.block < w.heap.size ∧ w.cell? (ad.add j) = some (.int .i64 (xs[j]?.getD 0))

theorem Ints.len {w : World} {a : Option Addr} {n : Nat} {xs : List Int} (h : Ints w a n xs) : xs.length = n := h.1
theorem Ints.lt {w : World} {a : Option Addr} {n : Nat} {xs : List Int} (h : Ints w a n xs) : n < 1152921504606846976 := h.2.1
theorem Ints.at {w : World} {a : Option Addr} {n : Nat} {xs : List Int} (h : Ints w a n xs) {j : Nat} (hj : j < n) : ∃ ad, a = some ad ∧ ad.block < w.heap.size ∧ w.cell? (ad.add j) = some (.int .i64 (xs[j]?.getD 0)) := h.2.2 j hj
theorem Ints.gr {w w' : World} {a : Option Addr} {n : Nat} {xs : List Int} (h : Ints w a n xs) (g : Gr w w') : Ints w' a n xs :=
  ⟨h.1, h.2.1, fun j hj => by
    obtain ⟨ad, e, hb, hc⟩ := h.2.2 j hj
    exact ⟨ad, e, Nat.lt_of_lt_of_le hb g.size, (g.cell (by rw [add_block]; exact hb)).trans hc⟩⟩

/-- The slice value with address a and length n holds slices that hold the lists L. -/
def RowsAt (w : World) (a : Option Addr) (n : Nat) (L : List (List Int)) : Prop :=
  L.length = n ∧ n < 1152921504606846976 ∧ ∀ j, j < n → ∃ ad a' n' c', a = some ad ∧ ad.block < w.heap.size ∧ w.cell? (ad.add j) = some (.slice a' n' c') ∧ Ints w a' n' (L[j]?.getD [])

theorem RowsAt.len {w : World} {a : Option Addr} {n : Nat} {L : List (List Int)} (h : RowsAt w a n L) : L.length = n := h.1
theorem RowsAt.lt {w : World} {a : Option Addr} {n : Nat} {L : List (List Int)} (h : RowsAt w a n L) : n < 1152921504606846976 := h.2.1
theorem RowsAt.at {w : World} {a : Option Addr} {n : Nat} {L : List (List Int)} (h : RowsAt w a n L) {j : Nat} (hj : j < n) :
    ∃ ad a' n' c', a = some ad ∧ ad.block < w.heap.size ∧ w.cell? (ad.add j) = some (.slice a' n' c') ∧ Ints w a' n' (L[j]?.getD []) := h.2.2 j hj
theorem RowsAt.gr {w w' : World} {a : Option Addr} {n : Nat} {L : List (List Int)} (h : RowsAt w a n L) (g : Gr w w') : RowsAt w' a n L :=
  ⟨h.1, h.2.1, fun j hj => by
    obtain ⟨ad, a', n', c', e, hb, hc, hi⟩ := h.2.2 j hj
    exact ⟨ad, a', n', c', e, Nat.lt_of_lt_of_le hb g.size, (g.cell (by rw [add_block]; exact hb)).trans hc, hi.gr g⟩⟩

theorem ret_int {k : IntKind} {a b : Int} (h : a = b) : Ending.returned (.int k a) = .returned (.int k b) := by rw [h]
theorem ret_bool {a b : Bool} (h : a = b) : Ending.returned (.bool a) = .returned (.bool b) := by rw [h]
end
section
open Go.RowKit

/-- Only blocks of S (and new ones) have turned. -/
structure Only (S : Nat → Prop) (w w' : World) : Prop where
  os : w'.os = w.os
  tape : w'.tape = w.tape
  output : w'.output = w.output
  size : w.heap.size ≤ w'.heap.size
  block : ∀ b, b < w.heap.size → ¬ S b → w'.heap[b]? = w.heap[b]?

theorem Only.refl (S : Nat → Prop) (w : World) : Only S w w := ⟨rfl, rfl, rfl, Nat.le_refl _, fun _ _ _ => rfl⟩
theorem Only.trans {S : Nat → Prop} {a b c : World} (h : Only S a b) (k : Only S b c) : Only S a c :=
  ⟨k.os.trans h.os, k.tape.trans h.tape, k.output.trans h.output, Nat.le_trans h.size k.size, fun i hi hs => (k.block i (Nat.lt_of_lt_of_le hi h.size) hs).trans (h.block i hi hs)⟩
theorem Only.mono {S S' : Nat → Prop} {a b : World} (h : Only S a b) (hs : ∀ i, i < a.heap.size → S i → S' i) : Only S' a b :=
  ⟨h.os, h.tape, h.output, h.size, fun i hi hn => h.block i hi (fun hS => hn (hs i hi hS))⟩
theorem Gr.only {a b : World} (h : Gr a b) (S : Nat → Prop) : Only S a b := ⟨Below.os h, Below.tape h, Below.output h, Below.size h, fun i hi _ => Below.block h i hi⟩
theorem Only.gr {S : Nat → Prop} {a b : World} (h : Only S a b) (hs : ∀ i, i < a.heap.size → ¬ S i) : Gr a b := ⟨h.os, h.tape, h.output, h.size, fun i hi => h.block i hi (hs i hi)⟩
theorem Only.setCell {S : Nat → Prop} {a b : World} (h : Only S a b) {p : Addr} (hp : S p.block ∨ a.heap.size ≤ p.block) (u : Value) : Only S a (b.setCell p u) :=
  ⟨h.os, h.tape, h.output, by simpa [World.setCell] using h.size, fun i hi hn => (Below.heap_setCell b p u i (by
    rintro rfl
    rcases hp with hp | hp
    · exact hn hp
    · omega)).trans (h.block i hi hn)⟩
theorem Only.putObj {S : Nat → Prop} {a b : World} (h : Only S a b) {r : Nat} (hp : S r ∨ a.heap.size ≤ r) (o : Obj) : Only S a (b.putObj r o) :=
  ⟨h.os, h.tape, h.output, by simpa using h.size, fun i hi hn => (World.putObj_heap_other (by
    rintro rfl
    rcases hp with hp | hp
    · exact hn hp
    · omega)).trans (h.block i hi hn)⟩
theorem Only.thenGr {S : Nat → Prop} {a b c : World} (h : Only S a b) (k : Gr b c) : Only S a c := h.trans (k.only S)

/-- no block of S is a row of cells -/
def NoCells (S : Nat → Prop) (w : World) : Prop := ∀ b cs t fr, S b → w.heap[b]? ≠ some (.cells cs t fr)

theorem cell_block {w : World} {p : Addr} {v : Value} (h : w.cell? p = some v) : ∃ cs t fr, w.heap[p.block]? = some (.cells cs t fr) := by
  unfold World.cell? at h
  cases hb : w.heap[p.block]? with
  | none => rw [hb] at h; simp at h
  | some o => cases o <;> first | (rw [hb] at h; simp at h; done) | exact ⟨_, _, _, rfl⟩

theorem Only.cell {S : Nat → Prop} {a b : World} (h : Only S a b) {p : Addr} {v : Value} (hc : a.cell? p = some v) (hs : ¬ S p.block) : b.cell? p = some v := by
  obtain ⟨cs, t, fr, hb⟩ := cell_block hc
  have hlt : p.block < a.heap.size := (Array.getElem?_eq_some_iff.1 hb).1
  rw [World.cell?_of_block (w := a) (h.block p.block hlt hs)]; exact hc
theorem Only.cellN {S : Nat → Prop} {a b : World} (h : Only S a b) (hn : NoCells S a) {p : Addr} {v : Value} (hc : a.cell? p = some v) : b.cell? p = some v := by
  obtain ⟨cs, t, fr, hb⟩ := cell_block hc
  exact h.cell hc (fun hs => hn _ _ _ _ hs hb)

theorem Ints.only {S : Nat → Prop} {w w' : World} {a : Option Addr} {n : Nat} {xs : List Int} (h : Ints w a n xs) (g : Only S w w') (hn : NoCells S w) : Ints w' a n xs :=
  ⟨h.1, h.2.1, fun j hj => by
    obtain ⟨ad, e, hb, hc⟩ := h.2.2 j hj
    exact ⟨ad, e, Nat.lt_of_lt_of_le hb g.size, g.cellN hn hc⟩⟩
theorem Ints.onlyAt {S : Nat → Prop} {w w' : World} {a : Option Addr} {n : Nat} {xs : List Int} (h : Ints w a n xs) (g : Only S w w') (hn : ∀ ad, a = some ad → ¬ S ad.block) : Ints w' a n xs :=
  ⟨h.1, h.2.1, fun j hj => by
    obtain ⟨ad, e, hb, hc⟩ := h.2.2 j hj
    exact ⟨ad, e, Nat.lt_of_lt_of_le hb g.size, g.cell hc (by rw [add_block]; exact hn ad e)⟩⟩
theorem RowsAt.only {S : Nat → Prop} {w w' : World} {a : Option Addr} {n : Nat} {L : List (List Int)} (h : RowsAt w a n L) (g : Only S w w') (hn : NoCells S w) : RowsAt w' a n L :=
  ⟨h.1, h.2.1, fun j hj => by
    obtain ⟨ad, a', n', c', e, hb, hc, hi⟩ := h.2.2 j hj
    exact ⟨ad, a', n', c', e, Nat.lt_of_lt_of_le hb g.size, g.cellN hn hc, hi.only g hn⟩⟩
/-- how the body of a round may be left -/
def roundQ {α : Type} (Y : Nat → Prop) (I : List α → World → Prop) (Ix : Code → World → Prop) (xs : List α) (W : World) : Exit → Act → World → Prop
  | .normal, _, W' => Only Y W W' ∧ I xs W'
  | .ret, _, W' => Only Y W W' ∧ Ix .ret W'
  | .exit id, _, W' => Only Y W W' ∧ Ix (.exit id) W'
  | _, _, _ => False

/-- what holds between two rounds: the caller's word, and the loop's own two blocks -/
def Between {α : Type} (D : Nat) (L : Loop) (I : List α → World → Prop) (xs : List α) (W : World) : Prop :=
  I xs W ∧ W.heap[D + 1]? = some (.loop L) ∧ W.heap[D]? = some (.deferred (some []))
/-- what holds when a round has left the loop -/
def Left (D : Nat) (L : Loop) (Ix : Code → World → Prop) (W : World) : Prop :=
  ∃ c, Ix c W ∧ W.heap[D + 1]? = some (.loop { L with state := .done, pending := some c }) ∧ W.heap[D]? = some (.deferred (some []))

/-- **A RANGE OVER A FUNCTION.** D: the heap's size where the loop begins. -/
theorem range_rule {P : Program} {α : Type} {g : Operand} {ps : Array Tmp} {assign body : Code} {Q : Exit → Act → World → Prop} {a : Act} {w : World} {gf : Nat} {lb : Array Value}
    (hg : a.eval g = .func (.func gf) #[] lb) (eg : ∀ args w, (callFunc gf args).run P w = .ok (.enter gf args) w)
    (I : List α → World → Prop) (Ix : Code → World → Prop) (Y : Nat → Prop) (E : α → Array Value → World → Prop) (S : List α → Prop) (a₁ : Array Value → Act)
    (hY0 : ¬ Y w.heap.size) (hY1 : ¬ Y (w.heap.size + 1))
    (hI : ∀ xs W o, I xs W → I xs (W.putObj (w.heap.size + 1) (.loop o))) (hIx : ∀ c W o, Ix c W → Ix c (W.putObj (w.heap.size + 1) (.loop o)))
    (hEs : ∀ x args W, E x args W → args.size = ps.size) (hEp : ∀ x args W o, E x args W → E x args (W.putObj (w.heap.size + 1) (.loop o)))
    (h0 : I [] w) (hIa : ∀ xs W o, I xs W → I xs (W.alloc o))
    (hassign : ∀ (l : Nat) (x : α) (args : Array Value) (W : World) (K : Act → World → Prop), E x args W → K (a₁ args) W →
      assign.wpIn (Fence.wide.inRound l) 0 P (Exit.then K (fun _ _ _ => False)) { tmps := (ps.zip args).foldl (fun t (p, v) => t.setIfInBounds p v) a.tmps, defers := [] } W)
    (hbody : ∀ (pre : List α) (x : α) (args : Array Value) (W : World), I pre W → E x args W → w.heap.size + 1 < W.heap.size → body.wpIn (Fence.wide.inRound (w.heap.size + 1)) 0 P (roundQ Y I Ix (pre ++ [x]) W) (a₁ args) W)
    (hiter : ∀ (L : Loop), L.state = .ready → L.pending = none →
      (∀ pre x args W, Between w.heap.size L I pre W → E x args W → YieldAt Fence.wide 0 P (w.heap.size + 1) args W fun e W' =>
        (e = .returned (.bool true) ∧ Between w.heap.size L I (pre ++ [x]) W' ∧ Only Y W W') ∨ (e = .returned (.bool false) ∧ Left w.heap.size L Ix W')) →
      Between w.heap.size L I [] ((w.alloc (.deferred (some []))).alloc (.loop L)) →
      CallsIn Fence.wide 0 P gf (#[.func (.yield (w.heap.size + 1)) #[] #[]] ++ lb) ((w.alloc (.deferred (some []))).alloc (.loop L)) fun e W' =>
        (∃ v, e = .returned v) ∧ ((∃ xs, S xs ∧ Between w.heap.size L I xs W') ∨ Left w.heap.size L Ix W'))
    (hdone : ∀ (xs : List α) (W : World), S xs → I xs W → W.heap[w.heap.size]? = some (.deferred (some [])) → Q .normal { a with defers := { target := .collected w.heap.size, args := #[] } :: a.defers } W)
    (hstop : ∀ (c : Code) (W : World), Ix c W → W.heap[w.heap.size]? = some (.deferred (some [])) → c.wpIn Fence.wide 0 P Q { a with defers := { target := .collected w.heap.size, args := #[] } :: a.defers } W) :
    (Code.rangeFunc g ps assign body).wp P Q a w := by
  refine (wpIn_wide (n := 0)).1 ?_
  refine wpIn_rangeFunc ?_
  intro fn hfn
  obtain ⟨L, hL⟩ : ∃ L : Loop, L = { state := .ready, pending := none, fn, tmps := a.tmps, params := ps, assign, body, defers := w.heap.size } := ⟨_, rfl⟩
  obtain ⟨W1, hW1⟩ : ∃ W1, (w.alloc (.deferred (some []))).alloc (.loop L) = W1 := ⟨_, rfl⟩
  have hL1 : W1.heap[w.heap.size + 1]? = some (.loop L) := by
    rw [← hW1]; have := World.alloc_heap_new (w.alloc (.deferred (some []))) (.loop L); rwa [World.size_alloc] at this
  have hK1 : W1.heap[w.heap.size]? = some (.deferred (some [])) := by
    rw [← hW1]; exact (Below.heap_alloc _ _ _ (by simp)).trans (World.alloc_heap_new w _)
  have hI1 : I [] W1 := by rw [← hW1]; exact hIa _ _ _ (hIa _ _ _ h0)
  refine ⟨w.heap.size + 1, [{ target := .collected w.heap.size, args := #[] }], W1, { target := .fn (.func gf) lb, args := #[.func (.yield (w.heap.size + 1)) #[] #[]] }, W1, gf,
    #[.func (.yield (w.heap.size + 1)) #[] #[]] ++ lb, W1, ?_, ?_, fun _ _ => trivial, ?_, fun h => by simp [Fence.wide] at h, ?_⟩
  · rw [← hW1, hL]; exact run_enterLoop_outer _ _ _ _ _
  · simp only [resolve, hg]
    simp [go_sem]
  · simp [invoke, go_sem, eg]
  · have hit := hiter L (by rw [hL]) (by rw [hL])
    rw [hW1] at hit
    refine (hit ?_ ⟨hI1, hL1, hK1⟩).mono ?_
    · rintro pre x args W ⟨hi, hl, hk⟩ hE
      have hlt : w.heap.size + 1 < W.heap.size := (Array.getElem?_eq_some_iff.1 hl).1
      have hy := run_yield (P := P) (args := args) hl (by rw [hL]; exact hEs x args W hE)
      rw [hL] at hy
      refine ⟨fn, _, assign, body, hy, roundIn_of_wpIn (F := Fence.wide) trivial (hassign _ x args W _ hE ⟨_, run_beginRound hl (by rw [hL]), ?_⟩)⟩
      have hl2 : (W.putObj (w.heap.size + 1) (.loop { L with state := .busy })).heap[w.heap.size + 1]? = some (.loop { L with state := .busy }) := World.putObj_heap_same hlt
      have hk2 : (W.putObj (w.heap.size + 1) (.loop { L with state := .busy })).heap[w.heap.size]? = some (.deferred (some [])) := (World.putObj_heap_other (by omega)).trans hk
      have hsz2 : (W.putObj (w.heap.size + 1) (.loop { L with state := .busy })).heap.size = W.heap.size := by simp
      refine wpIn_mono (hbody pre x args _ (hI _ _ _ hi) (hEp _ _ _ _ hE) (by rw [hsz2]; exact hlt)) ?_
      have hrest : ∀ (W3 : World) (o : Loop), Only Y (W.putObj (w.heap.size + 1) (.loop { L with state := .busy })) W3 → (W3.putObj (w.heap.size + 1) (.loop o)).heap[w.heap.size]? = some (.deferred (some [])) := fun W3 o ho =>
        (World.putObj_heap_other (by omega)).trans ((ho.block _ (by rw [hsz2]; omega) hY0).trans hk2)
      have hl3 : ∀ (W3 : World), Only Y (W.putObj (w.heap.size + 1) (.loop { L with state := .busy })) W3 → W3.heap[w.heap.size + 1]? = some (.loop { L with state := .busy }) := fun W3 ho =>
        (ho.block _ (by rw [hsz2]; omega) hY1).trans hl2
      rintro e a3 W3 hp
      cases e with
      | normal =>
        obtain ⟨ho, hi3⟩ := hp
        have hl4 := hl3 W3 ho
        have hlt4 : w.heap.size + 1 < W3.heap.size := (Array.getElem?_eq_some_iff.1 hl4).1
        have hrun := run_endRound (P := P) none hl4
        have hLL : ({ ({ L with state := .busy } : Loop) with state := if (none : Option Code).isNone then .ready else .done, pending := none } : Loop) = L := by rw [hL]; rfl
        rw [hLL] at hrun
        refine ⟨_, _, hrun, .inl ⟨rfl, ⟨hI _ _ _ hi3, World.putObj_heap_same hlt4, hrest W3 L ho⟩, ?_⟩⟩
        refine ⟨ho.os, ho.tape, ho.output, by have := ho.size; simp at this ⊢; exact this, fun b hb hn => ?_⟩
        by_cases e : b = w.heap.size + 1
        · subst e; rw [World.putObj_heap_same hlt4, hl]
        · rw [World.putObj_heap_other e, ho.block b (by rw [hsz2]; exact hb) hn, World.putObj_heap_other e]
      | ret =>
        obtain ⟨ho, hi3⟩ := hp
        have hl4 := hl3 W3 ho
        have hlt4 : w.heap.size + 1 < W3.heap.size := (Array.getElem?_eq_some_iff.1 hl4).1
        have hrun := run_endRound (P := P) (some .ret) hl4
        exact ⟨_, _, hrun, .inr ⟨rfl, .ret, hIx _ _ _ hi3, World.putObj_heap_same hlt4, hrest W3 _ ho⟩⟩
      | exit id =>
        obtain ⟨ho, hi3⟩ := hp
        have hl4 := hl3 W3 ho
        have hlt4 : w.heap.size + 1 < W3.heap.size := (Array.getElem?_eq_some_iff.1 hl4).1
        have hrun := run_endRound (P := P) (some (.exit id)) hl4
        exact ⟨_, _, hrun, .inr ⟨rfl, .exit id, hIx _ _ _ hi3, World.putObj_heap_same hlt4, hrest W3 _ ho⟩⟩
      | goto t => exact hp.elim
      | panic ch => exact hp.elim
      | outgrown => exact hp.elim
    · rintro e W2 ⟨⟨v, rfl⟩, (⟨xs, hS, hi, hl, hk⟩ | ⟨c, hi, hl, hk⟩)⟩
      · refine ⟨L.pending, _, run_endLoop (P := P) hl (by rw [hL]; simp), ?_⟩
        have : L.pending = none := by rw [hL]
        rw [this]
        exact hdone xs _ hS (hI _ _ _ hi) ((World.putObj_heap_other (by omega)).trans hk)
      · refine ⟨some c, _, run_endLoop (P := P) hl (by simp), ?_⟩
        exact hstop c _ (hIx _ _ _ hi) ((World.putObj_heap_other (by omega)).trans hk)

theorem run_yield_op {P : Program} {o : Oper} {a : Act} {W : World} {l fn : Nat} {tmps : Array Value} {assign body : Code} {f x : Operand} {ts : Array TypeId} {v : Value} {ro : Option Nat}
    (ho : o.op = .call { callee := .value f, args := #[x], argTypes := ts }) (hf : a.eval f = .func (.yield l) #[] #[]) (hx : a.eval x = v) (hy : (Instr.yield l #[v]).run P W = .ok (.round l fn tmps assign body) W) :
    (o.semAt ro a.eval).run P W = .ok (.round l fn tmps assign body) W := by
  rw [Oper.semAt_eq _ _ _ (by rw [ho]; intro c h; cases h)]
  unfold execOp
  simp only [ho, resolve, hf, hx, Deferred.ofValue, List.map_toArray, List.map_cons, List.map_nil]
  simp [invoke, hy, go_sem]

/-- a call of yield as an operation -/
theorem op_yield {P : Program} {o : Oper} {a : Act} {W : World} {l : Nat} {f x : Operand} {ts : Array TypeId} {v : Value} {ro : Option Nat} {n : Nat} {K : Act → World → Prop} {Q : Exit → Act → World → Prop} {Rr : Ending → World → Prop}
    (ho : o.op = .call { callee := .value f, args := #[x], argTypes := ts }) (hf : a.eval f = .func (.yield l) #[] #[]) (hx : a.eval x = v) (hy : YieldAt Fence.wide 0 P l #[v] W Rr)
    (hr : ∀ e W', Rr e W' → ∃ v', e = .returned v') (hK : ∀ v' W', Rr (.returned v') W' → K (a.put o.dst v') W') : o.wpIn { Fence.wide with round := ro } n P a W K Q := by
  obtain ⟨fn, tmps, assign, body, hy, hR⟩ := hy
  refine ⟨fun _ _ => trivial, ?_⟩
  show Oper.uponIn _ _ _ _ _ _ _ ((o.semAt ro a.eval).run P W)
  rw [run_yield_op ho hf hx hy, Oper.uponIn_round]
  refine ⟨fun h => by simp [Fence.wide] at h, trivial, fun c cs _ => ?_⟩
  obtain ⟨e, w', hRe, hs⟩ := hR.2 c cs (room_wide _)
  obtain ⟨v', rfl⟩ := hr e w' hRe
  exact ⟨.returned v', w', hK v' w' hRe, hs⟩
end
section
open Go.RowKit
theorem putObj_only (W : World) (r : Nat) (o : Obj) : Only (fun b => b = r) W (W.putObj r o) := Only.putObj (S := fun b => b = r) (Only.refl _ W) (.inl rfl) o
theorem alloc_only (W : World) (o : Obj) (S : Nat → Prop) : Only S W (W.alloc o) := (Gr.alloc W o).only S
theorem Only.mono' {S S' : Nat → Prop} {a b : World} (h : Only S a b) (hs : ∀ i, S i → S' i) : Only S' a b := h.mono (fun i _ => hs i)
theorem lt_cell {W : World} {p : Addr} {v : Value} (h : W.cell? p = some v) : p.block < W.heap.size := by
  obtain ⟨_, _, _, hb⟩ := cell_block h
  exact (Array.getElem?_eq_some_iff.1 hb).1
theorem cell_new {w : World} {cs : Array Value} {t : TypeId} {j : Nat} {v : Value} (h : cs[j]? = some v) : (w.alloc (.cells cs t)).cell? ⟨w.heap.size, j, none⟩ = some v := by
  have := World.alloc_heap_new w (.cells cs t)
  unfold World.cell?
  simp only [this]
  exact h
theorem cell_at {w : World} {b j : Nat} {cs : Array Value} {t : TypeId} {fr : Nat × Nat} {v : Value} (h : w.heap[b]? = some (.cells cs t fr)) (hv : cs[j]? = some v) : w.cell? ⟨b, j, none⟩ = some v := by
  unfold World.cell?
  simp only [h]
  exact hv
theorem frozen_of_block {w w' : World} {a : Addr} (h : w'.heap[a.block]? = w.heap[a.block]?) : w'.frozen? a = w.frozen? a := by
  unfold World.frozen?
  rw [h]
theorem addr_add0 (g j : Nat) : (⟨g, 0, none⟩ : Addr).add j = ⟨g, j, none⟩ := by
  unfold Addr.add; split
  · subst_vars; rfl
  · simp
end
section
open Go.RowKit

/-- these cells hold these values -/
def RCells (w : World) (L : List (Addr × Value)) : Prop := ∀ p ∈ L, w.cell? p.1 = some p.2
theorem RCells.nil (w : World) : RCells w [] := fun p hp => by simp at hp
theorem RCells.gr {w w' : World} {L : List (Addr × Value)} (h : RCells w L) (g : Gr w w') : RCells w' L := fun p hp => (g.cell (lt_cell (h p hp))).trans (h p hp)
theorem RCells.at {w : World} {L : List (Addr × Value)} (h : RCells w L) (i : Nat) {p : Addr × Value} (hp : L[i]? = some p) : w.cell? p.1 = some p.2 := h p (List.mem_of_getElem? hp)
/-- the cells of block b -/
def bcells (b : Nat) : List Value → Nat → List (Addr × Value)
  | [], _ => []
  | v :: r, k => (⟨b, k, none⟩, v) :: bcells b r (k + 1)
theorem bcells_mem {b : Nat} : ∀ {l : List Value} {k : Nat} {p : Addr × Value}, p ∈ bcells b l k → ∃ j, p.1 = ⟨b, k + j, none⟩ ∧ l[j]? = some p.2 := by
  intro l
  induction l with
  | nil => intro k p h; simp [bcells] at h
  | cons v r ih =>
    intro k p h
    simp only [bcells, List.mem_cons] at h
    rcases h with rfl | h
    · exact ⟨0, rfl, rfl⟩
    · obtain ⟨j, h1, h2⟩ := ih h
      exact ⟨j + 1, by rw [h1, show k + (j + 1) = k + 1 + j by omega], by simpa using h2⟩
theorem RCells.box {w : World} {L : List (Addr × Value)} (h : RCells w L) {b : Nat} (cs : Array Value) (t : TypeId) (hb : w.heap.size = b) : RCells (w.alloc (.cells cs t)) (L ++ bcells b cs.toList 0) := by
  intro p hp
  rcases List.mem_append.1 hp with hp | hp
  · exact h.gr (Gr.alloc _ _) p hp
  · obtain ⟨j, h1, h2⟩ := bcells_mem hp
    rw [h1, ← hb, Nat.zero_add]
    exact cell_new (by simpa using h2)
theorem RCells.append {w : World} {L M : List (Addr × Value)} (h : RCells w L) (k : RCells w M) : RCells w (L ++ M) := fun p hp => by
  rcases List.mem_append.1 hp with hp | hp
  · exact h p hp
  · exact k p hp
theorem RCells.cons {w : World} {M : List (Addr × Value)} {a : Addr} {v : Value} (h : w.cell? a = some v) (k : RCells w M) : RCells w ((a, v) :: M) := fun p hp => by
  rcases List.mem_cons.1 hp with rfl | hp
  · exact h
  · exact k p hp
end
end
section
set_option linter.unusedVariables false
section
set_option linter.unusedVariables false
open Go.RowKit

/-- the frame with the values u in the slots that the operations write -/
def fillL (u : Nat → Value) : List Oper → Nat → Array Value → Array Value
  | [], _, t => t
  | o :: r, k, t => fillL u r (k + 1) (match o.dst with | some d => t.setIfInBounds d (u k) | none => t)

def dstsOf (l : List Oper) : List Tmp := l.filterMap (·.dst)

/-- p holds of each operation with its number -/
def AllIdx (p : Nat → Oper → Prop) : List Oper → Nat → Prop
  | [], _ => True
  | o :: r, k => p k o ∧ AllIdx p r (k + 1)

theorem AllIdx.at {p : Nat → Oper → Prop} : ∀ {l : List Oper} {k : Nat}, AllIdx p l k → ∀ i o, l[i]? = some o → p (k + i) o := by
  intro l
  induction l with
  | nil => intro k _ i o h; simp at h
  | cons x r ih =>
    intro k h i o hi
    cases i with
    | zero => simp at hi; subst hi; exact h.1
    | succ i =>
      have := ih h.2 i o (by simpa using hi)
      rw [show k + (i + 1) = k + 1 + i by omega]; exact this

/-- the direct forerunners of an operation -/
def fore (o : Oper) : List Nat := (o.after.toList.filter (Region.binds .any)).map (·.on)
/-- all forerunners: closed under fore, by n rounds -/
def anc (l : List Oper) : Nat → List Nat → List Nat
  | 0, s => s
  | n + 1, s => anc l n (s ++ s.flatMap fun j => match l[j]? with | some o => fore o | none => []).eraseDups

def upd (done : Nat → Bool) (i : Nat) : Nat → Bool := fun j => if j = i then true else done j

theorem fillL_size (u : Nat → Value) : ∀ (l : List Oper) (k : Nat) (t : Array Value), (fillL u l k t).size = t.size := by
  intro l
  induction l with
  | nil => intro k t; rfl
  | cons o r ih =>
    intro k t
    simp only [fillL, ih]
    split <;> simp

theorem fillL_set_comm (u : Nat → Value) : ∀ (l : List Oper) (k : Nat) (t : Array Value) (d : Nat) (v : Value), d ∉ dstsOf l → (fillL u l k t).setIfInBounds d v = fillL u l k (t.setIfInBounds d v) := by
  intro l
  induction l with
  | nil => intro k t d v _; rfl
  | cons o r ih =>
    intro k t d v hd
    simp only [fillL]
    cases ho : o.dst with
    | none =>
      have hd' : d ∉ dstsOf r := by simpa [dstsOf, List.filterMap_cons, ho] using hd
      exact ih (k + 1) t d v hd'
    | some e =>
      have hd' : d ≠ e ∧ d ∉ dstsOf r := by simpa [dstsOf, List.filterMap_cons, ho] using hd
      rw [ih (k + 1) _ d v hd'.2, Array.setIfInBounds_comm _ _ (Ne.symm hd'.1)]

theorem fillL_congr {u u' : Nat → Value} : ∀ (l : List Oper) (k : Nat) (t : Array Value), (∀ i, k ≤ i → i < k + l.length → u i = u' i) → fillL u l k t = fillL u' l k t := by
  intro l
  induction l with
  | nil => intro k t _; rfl
  | cons o r ih =>
    intro k t h
    simp only [fillL]
    have h0 : u k = u' k := h k (Nat.le_refl _) (by simp)
    rw [h0]
    exact ih (k + 1) _ (fun i h1 h2 => h i (by omega) (by simp at h2 ⊢; omega))

theorem fillL_put (u : Nat → Value) (v : Value) : ∀ (l : List Oper) (k i : Nat) (t : Array Value) (o : Oper) (d : Nat), (dstsOf l).Nodup → l[i]? = some o → o.dst = some d →
    (fillL u l k t).setIfInBounds d v = fillL (fun j => if j = k + i then v else u j) l k t := by
  intro l
  induction l with
  | nil => intro k i t o d _ h; simp at h
  | cons x r ih =>
    intro k i t o d hn hi hd
    cases i with
    | zero =>
      simp at hi
      subst hi
      have hnr : d ∉ dstsOf r := by
        have : (d :: dstsOf r).Nodup := by simpa [dstsOf, List.filterMap_cons, hd] using hn
        exact (List.nodup_cons.1 this).1
      simp only [fillL, hd, Nat.add_zero]
      rw [fillL_set_comm u r (k + 1) _ d v hnr, Array.setIfInBounds_setIfInBounds]
      simp only [if_true]
      exact fillL_congr r (k + 1) _ (fun j h1 _ => by rw [if_neg (by omega)])
    | succ i =>
      have hnr : (dstsOf r).Nodup := by
        cases hx : x.dst with
        | none => simpa [dstsOf, List.filterMap_cons, hx] using hn
        | some e =>
          have : (e :: dstsOf r).Nodup := by simpa [dstsOf, List.filterMap_cons, hx] using hn
          exact (List.nodup_cons.1 this).2
      have hi' : r[i]? = some o := by simpa using hi
      have := ih (k + 1) i (match x.dst with | some d => t.setIfInBounds d (u k) | none => t) o d hnr hi' hd
      simp only [fillL]
      rw [this]
      have e1 : k + 1 + i = k + (i + 1) := by omega
      rw [e1]
      have e2 : (if k = k + (i + 1) then v else u k) = u k := by rw [if_neg (by omega)]
      rw [e2]

theorem fillL_self (t : Array Value) : ∀ (l : List Oper) (k : Nat) (u : Nat → Value), (∀ i o d, l[i]? = some o → o.dst = some d → d < t.size → u (k + i) = t.getD d undef) → fillL u l k t = t := by
  intro l
  induction l with
  | nil => intro k u _; rfl
  | cons x r ih =>
    intro k u h
    simp only [fillL]
    have hx : (match x.dst with | some d => t.setIfInBounds d (u k) | none => t) = t := by
      cases hd : x.dst with
      | none => rfl
      | some d =>
        simp only
        by_cases hlt : d < t.size
        · have := h 0 x d (by simp) hd hlt
          simp only [Nat.add_zero] at this
          rw [this]
          apply Array.ext
          · simp
          · intro i h1 h2
            rw [Array.getElem_setIfInBounds (by simpa using h2)]
            split
            · subst_vars; simp
            · rfl
        · simp [Array.setIfInBounds, hlt]
    rw [hx]
    exact ih (k + 1) u (fun i o d hi hd hlt => by
      have := h (i + 1) o d (by simpa using hi) hd hlt
      rw [show k + 1 + i = k + (i + 1) by omega]; exact this)

/-- An operation that is no defer statement, walked as everywhere, is walked within a round, too. -/
theorem wpIn_of_wp {P : Program} {o : Oper} {a : Act} {w : World} {K : Act → World → Prop} {Q : Exit → Act → World → Prop} {ro : Option Nat} {n : Nat} (hd : ∀ c, o.op ≠ .defer c)
    (h : o.wp P a w K Q) : o.wpIn { Fence.wide with round := ro } n P a w K Q := by
  refine ⟨fun _ _ => trivial, ?_⟩
  rw [Oper.semAt_eq ro a.eval o hd]
  unfold Oper.wp at h
  generalize (execOp a.eval o).run P w = r at *
  cases r with
  | ok x w' =>
    cases x <;> simp only [Oper.upon, Oper.uponIn] at h ⊢ <;> first | exact h | skip
    · exact ⟨fun h => by simp [Fence.wide] at h, (callsIn_wide (n := n - 1)).2 h⟩
    · exact ⟨fun h => by simp [Fence.wide] at h, fun c cs _ => let ⟨v, w2, r, s⟩ := h c cs; ⟨v, w2, r, stepsIn_wide.2 s⟩⟩
  | halt x w' => cases x <;> simp only [Oper.upon, Oper.uponIn] at h ⊢ <;> exact h

/-- the forerunners of operation i have run -/
def Fore (l : List Oper) (Φ : Nat → Value → World → Prop) (u : Nat → Value) (W : World) (i : Nat) (o : Oper) : Prop := ∀ j, j ∈ anc l l.length (fore o) → Φ j (u j) W

theorem Fore.at {l : List Oper} {Φ : Nat → Value → World → Prop} {u : Nat → Value} {W : World} {i : Nat} {o : Oper} (h : Fore l Φ u W i o) (j : Nat) (hj : (anc l l.length (fore o)).contains j = true) : Φ j (u j) W :=
  h j (by simpa using hj)

theorem anc_closed {l : List Oper} {done : Nat → Bool} (hc : ∀ j o, l[j]? = some o → done j = true → ∀ k ∈ fore o, done k = true) : ∀ (n : Nat) (s : List Nat), (∀ j ∈ s, done j = true) → ∀ j ∈ anc l n s, done j = true := by
  intro n
  induction n with
  | zero => intro s hs j hj; exact hs j hj
  | succ n ih =>
    intro s hs j hj
    simp only [anc] at hj
    refine ih _ (fun k hk => ?_) j hj
    simp only [List.mem_eraseDups, List.mem_append, List.mem_flatMap] at hk
    rcases hk with hk | ⟨m, hm, hk⟩
    · exact hs k hk
    · cases ho : l[m]? with
      | none => rw [ho] at hk; simp at hk
      | some o => rw [ho] at hk; exact hc m o ho (hs m hm) k hk

theorem fillL_none (u : Nat → Value) (v : Value) : ∀ (l : List Oper) (k i : Nat) (t : Array Value) (o : Oper), l[i]? = some o → o.dst = none →
    fillL u l k t = fillL (fun j => if j = k + i then v else u j) l k t := by
  intro l
  induction l with
  | nil => intro k i t o h; simp at h
  | cons x r ih =>
    intro k i t o hi hd
    cases i with
    | zero =>
      simp at hi
      subst hi
      simp only [fillL, hd, Nat.add_zero]
      exact fillL_congr r (k + 1) _ (fun j h1 _ => by rw [if_neg (by omega)])
    | succ i =>
      have hi' : r[i]? = some o := by simpa using hi
      simp only [fillL]
      have e2 : (if k = k + (i + 1) then v else u k) = u k := by rw [if_neg (by omega)]
      rw [e2, ih (k + 1) i _ o hi' hd]
      have e1 : k + 1 + i = k + (i + 1) := by omega
      rw [e1]

theorem countP_lt {p q : Nat → Bool} (hpq : ∀ j, q j = true → p j = true) {i : Nat} (hp : p i = true) (hq : q i = false) : ∀ {l : List Nat}, i ∈ l → l.countP q < l.countP p := by
  intro l
  induction l with
  | nil => intro h; simp at h
  | cons x r ih =>
    intro h
    have hle : r.countP q ≤ r.countP p := List.countP_mono_left (fun j _ => hpq j)
    rcases List.mem_cons.1 h with e | e
    · subst e
      simp only [List.countP_cons, hp, hq]
      simp; omega
    · have := ih e
      simp only [List.countP_cons]
      cases hx : q x with
      | true => simp [hpq x hx]; omega
      | false => simp; split <;> omega
theorem countP_upd (N : Nat) (done : Nat → Bool) (i : Nat) (hi : i < N) (hd : done i = false) : (List.range N).countP (fun j => !upd done i j) < (List.range N).countP (fun j => !done j) := by
  refine countP_lt (i := i) (fun j hj => ?_) (by simp [hd]) (by simp [upd]) (List.mem_range.2 hi)
  unfold upd at hj
  by_cases e : j = i
  · subst e; simp at hj
  · simpa [e] using hj

theorem hlt_anc (l : List Oper) (hfore : ∀ i o, l[i]? = some o → ∀ k ∈ fore o, k < i) (i : Nat) (o : Oper) (ho : l[i]? = some o) : ∀ j ∈ anc l l.length (fore o), j < i := by
  have h : ∀ (n : Nat) (s : List Nat), (∀ j ∈ s, j < i) → ∀ j ∈ anc l n s, j < i := by
    intro n
    induction n with
    | zero => intro s hs j hj; exact hs j hj
    | succ n ih =>
      intro s hs j hj
      simp only [anc] at hj
      refine ih _ (fun k hk => ?_) j hj
      simp only [List.mem_eraseDups, List.mem_append, List.mem_flatMap] at hk
      rcases hk with hk | ⟨m, hm, hk⟩
      · exact hs k hk
      · have hmi := hs m hm
        cases hx : l[m]? with
        | none => rw [hx] at hk; simp at hk
        | some x => rw [hx] at hk; have := hfore m x hx k hk; omega
  exact h _ _ (hfore i o ho)

/-- **A REGION THAT DRAWS ITS ORDER.** R done W: what holds of the world when the operations done have run · Φ i v W: what operation i's value is good for, stable under G · each operation is walked once. -/
theorem region_any {F : Fence} {n : Nat} {P : Program} {id : Nat} {l : List Oper} {Q : Exit → Act → World → Prop} {a : Act} {w : World} (hm : P.follows .mixedOrders = true)
    (hdag : (l.zipIdx.all fun (o, i) => (fore o).all (· < i)) = true) (hnd : (dstsOf l).Nodup) (hwide : ∀ f, F.fn f)
    (Φ : Nat → Value → World → Prop) (G : World → World → Prop) (hGr : ∀ W, G W W) (hst : ∀ i v W W', Φ i v W → G W W' → Φ i v W')
    (R : (Nat → Bool) → World → Prop) (h0 : R (fun _ => false) w.drew)
    (hstep : AllIdx (fun i o => ∀ (u : Nat → Value) (done : Nat → Bool) (W : World), done i = false → (∀ j ∈ anc l l.length (fore o), done j = true) → R done W → Fore l Φ u W i o →
      if Region.wanted o (yielded l.toArray (fillL u l 0 a.tmps)) then o.wpIn F n P { a with tmps := fillL u l 0 a.tmps } W (fun a' W' => ∃ v, a' = ({ a with tmps := fillL u l 0 a.tmps } : Act).put o.dst v ∧ Φ i v W' ∧ R (upd done i) W' ∧ G W W') Q
      else Φ i undef W ∧ R (upd done i) W) l 0)
    (hfin : ∀ (u : Nat → Value) (W : World), (∃ done, (∀ i, i < l.length → done i = true) ∧ R done W) → (∀ i, i < l.length → Φ i (u i) W) → Q .normal { a with tmps := fillL u l 0 a.tmps } W) :
    (Code.region id l.toArray true).wpIn F n P Q a w := by
  refine wpIn_region_any hm ?_
  have hfore : ∀ i o, l[i]? = some o → ∀ k ∈ fore o, k < i := by
    intro i o hi k hk
    rw [List.all_eq_true] at hdag
    have hmem : (o, i) ∈ l.zipIdx := by
      rw [List.mem_zipIdx_iff_getElem?]; exact hi
    have := hdag (o, i) hmem
    simp only [List.all_eq_true, decide_eq_true_eq] at this
    exact this k hk
  have hready : ∀ (listed : Array Bool) (done : Nat → Bool), listed.size = l.length → (∀ i, i < l.length → listed.getD i true = done i) → ∀ i o, l[i]? = some o →
      (i ∈ Region.ready .any l.toArray listed ↔ done i = false ∧ ∀ k ∈ fore o, done k = true) := by
    intro listed done hsz hl i o hi
    have hlt : i < l.length := (List.getElem?_eq_some_iff.1 hi).1
    have hget : ∀ k, k < l.length → listed.getD k false = done k := by
      intro k hk
      rw [← hl k hk]
      simp [Array.getD_eq_getD_getElem?, hsz, hk]
    simp only [Region.ready, List.mem_filter, List.mem_range, List.size_toArray, hlt, true_and, Bool.and_eq_true, Bool.not_eq_true', hl i hlt, List.getElem?_toArray, hi, Option.map_some, Option.getD_some]
    refine and_congr_right fun _ => ?_
    rw [Array.all_eq_true']
    constructor
    · intro h k hk
      have hki := hfore i o hi k hk
      simp only [fore, List.mem_map, List.mem_filter] at hk
      obtain ⟨e, ⟨he, hb⟩, rfl⟩ := hk
      have := h e (by simpa using he)
      simp only [hb, Bool.not_true, Bool.false_or] at this
      rw [← hget e.on (by omega)]
      exact this
    · intro h e he
      cases hb : Region.binds .any e with
      | false => simp
      | true =>
        have hk : e.on ∈ fore o := by simp only [fore, List.mem_map, List.mem_filter]; exact ⟨e, ⟨by simpa using he, hb⟩, rfl⟩
        have hd := h e.on hk
        have hek := hfore i o hi e.on hk
        rw [← hget e.on (by omega)] at hd
        simp only [Bool.not_true, Bool.false_or]
        exact hd
  have hmem : ∀ (listed : Array Bool) i, i ∈ Region.ready .any l.toArray listed → i < l.length := by
    intro listed i hi
    simp only [Region.ready, List.mem_filter, List.mem_range, List.size_toArray] at hi
    exact hi.1
  have hall : ∀ (listed : Array Bool) (done : Nat → Bool), listed.size = l.length → (∀ i, i < l.length → listed.getD i true = done i) → Region.ready .any l.toArray listed = [] → ∀ i, i < l.length → done i = true := by
    intro listed done hsz hl hr i
    induction i using Nat.strongRecOn with
    | _ i ih =>
      intro hi
      cases hd : done i with
      | true => rfl
      | false =>
        have ho : l[i]? = some l[i] := List.getElem?_eq_getElem hi
        have := (hready listed done hsz hl i _ ho).2 ⟨hd, fun k hk => by
          have hki := hfore i _ ho k hk
          exact ih k hki (by omega)⟩
        rw [hr] at this
        simp at this
  have main : ∀ (fuel : Nat) (listed : Array Bool) (u : Nat → Value) (done : Nat → Bool) (W : World), listed.size = l.length → (∀ i, i < l.length → listed.getD i true = done i) →
      (List.range l.length).countP (fun j => !done j) ≤ fuel → (∀ j o, l[j]? = some o → done j = true → ∀ k ∈ fore o, done k = true) → R done W → (∀ i, i < l.length → done i = true → Φ i (u i) W) →
      wpAnyIn F n P .any l.toArray Q fuel listed { a with tmps := fillL u l 0 a.tmps } W := by
    intro fuel
    induction fuel with
    | zero =>
      intro listed u done W hsz hl hc hcl hR hΦ
      have hd : ∀ i, i < l.length → done i = true := by
        intro i hi
        have h0 : (List.range l.length).countP (fun j => !done j) = 0 := by omega
        rw [List.countP_eq_zero] at h0
        have := h0 i (List.mem_range.2 hi)
        simpa using this
      refine ⟨?_, hfin u W ⟨done, hd, hR⟩ (fun i hi => hΦ i hi (hd i hi))⟩
      rw [List.eq_nil_iff_forall_not_mem]
      intro i hi
      have hlt := hmem listed i hi
      have ho : l[i]? = some l[i] := List.getElem?_eq_getElem hlt
      have := ((hready listed done hsz hl i _ ho).1 hi).1
      rw [hd i hlt] at this
      cases this
    | succ fuel ih =>
      intro listed u done W hsz hl hc hcl hR hΦ
      refine ⟨fun hr => ?_, fun i hi => ?_⟩
      · have hd := hall listed done hsz hl hr
        exact hfin u W ⟨done, hd, hR⟩ (fun i hi => hΦ i hi (hd i hi))
      · have hlt := hmem listed i hi
        have ho : l[i]? = some l[i] := List.getElem?_eq_getElem hlt
        generalize hoo : l[i] = o at ho
        obtain ⟨hdi, hfo⟩ := (hready listed done hsz hl i o ho).1 hi
        have hanc : ∀ j ∈ anc l l.length (fore o), done j = true := anc_closed hcl _ _ hfo
        have hs := AllIdx.at hstep i o ho
        simp only [Nat.zero_add] at hs
        have hF : Fore l Φ u W i o := by
          intro j hj
          exact hΦ j (hlt_anc l hfore i o ho j hj |> fun h => Nat.lt_trans h hlt) (hanc j hj)
        have hs := hs u done W hdi hanc hR hF
        have hnext : ∀ (v : Value) (W' : World), Φ i v W' → R (upd done i) W' → G W W' → wpAnyIn F n P .any l.toArray Q fuel (listed.setIfInBounds i true) (({ a with tmps := fillL u l 0 a.tmps } : Act).put o.dst v) W' := by
          intro v W' hv hR' hG
          have hput : (({ a with tmps := fillL u l 0 a.tmps } : Act).put o.dst v) = { a with tmps := fillL (fun j => if j = i then v else u j) l 0 a.tmps } := by
            cases hd : o.dst with
            | none =>
              simp only [Act.put]
              rw [fillL_none u v l 0 i a.tmps o ho hd, Nat.zero_add]
            | some d =>
              simp only [Act.put]
              rw [fillL_put u v l 0 i a.tmps o d hnd ho hd, Nat.zero_add]
          rw [hput]
          refine ih (listed.setIfInBounds i true) _ (upd done i) W' (by simp [hsz]) (fun j hj => ?_) ?_ ?_ hR' ?_
          · unfold upd
            by_cases e : j = i
            · subst e; simp [Array.getD_eq_getD_getElem?, hsz, hj]
            · rw [if_neg e, ← hl j hj]
              simp [Array.getD_eq_getD_getElem?, Array.getElem?_setIfInBounds_ne (Ne.symm e)]
          · have := countP_upd l.length done i hlt hdi
            omega
          · intro j oj hj hdj k hk
            unfold upd at hdj ⊢
            by_cases e : j = i
            · subst e
              rw [ho] at hj
              cases hj
              have := hfo k hk
              simp [this]
            · rw [if_neg e] at hdj
              have := hcl j oj hj hdj k hk
              simp [this]
          · intro j hj hdj
            unfold upd at hdj
            by_cases e : j = i
            · subst e; simpa using hv
            · rw [if_neg e] at hdj
              simp only [e, if_false]
              exact hst j _ W W' (hΦ j hj hdj) hG
        unfold wpOpIn
        simp only [List.getElem?_toArray, ho]
        by_cases hw : Region.wanted o (yielded l.toArray (fillL u l 0 a.tmps)) = true
        · rw [if_pos hw] at hs ⊢
          exact Oper.wpIn_mono (fun a' W' ⟨v, ha, hv, hR', hG⟩ => by subst ha; exact hnext v W' hv hR' hG) hs
        · rw [if_neg hw] at hs ⊢
          exact ⟨fun f _ => hwide f, hnext undef W hs.1 hs.2 (hGr W)⟩
  obtain ⟨u0, hself⟩ : ∃ u0 : Nat → Value, fillL u0 l 0 a.tmps = a.tmps :=
    ⟨fun i => match l[i]? with | some o => (match o.dst with | some d => a.tmps.getD d undef | none => undef) | none => undef, by
      apply fillL_self
      intro i o d hi hd _
      simp only [Nat.zero_add, hi, hd]⟩
  have hmain := main l.length (Array.replicate l.length false) u0 (fun _ => false) w.drew (by simp) (fun i hi => by simp [hi]) (by simp) (fun _ _ _ h => by cases h) h0 (fun _ _ h => by cases h)
  rw [hself] at hmain
  rw [List.size_toArray]
  exact hmain

/-- **A REGION THAT DRAWS ITS ORDER, IN GENERAL.** R done u W: what holds when the operations done have run and yielded u. -/
theorem region_inv {F : Fence} {n : Nat} {P : Program} {id : Nat} {l : List Oper} {Q : Exit → Act → World → Prop} {a : Act} {w : World} (hm : P.follows .mixedOrders = true)
    (hdag : (l.zipIdx.all fun (o, i) => (fore o).all (· < i)) = true) (hnd : (dstsOf l).Nodup) (hwide : ∀ f, F.fn f)
    (R : (Nat → Bool) → (Nat → Value) → World → Prop) (h0 : ∀ u, R (fun _ => false) u w.drew)
    (hstep : AllIdx (fun i o => ∀ (u : Nat → Value) (done : Nat → Bool) (W : World), done i = false → (∀ j ∈ anc l l.length (fore o), done j = true) → (∀ j oj, l[j]? = some oj → done j = true → ∀ k ∈ anc l l.length (fore oj), done k = true) → R done u W →
      if Region.wanted o (yielded l.toArray (fillL u l 0 a.tmps)) then o.wpIn F n P { a with tmps := fillL u l 0 a.tmps } W (fun a' W' => ∃ v, a' = ({ a with tmps := fillL u l 0 a.tmps } : Act).put o.dst v ∧ R (upd done i) (fun j => if j = i then v else u j) W') Q
      else R (upd done i) (fun j => if j = i then undef else u j) W) l 0)
    (hfin : ∀ (u : Nat → Value) (W : World), (∃ done, (∀ i, i < l.length → done i = true) ∧ R done u W) → Q .normal { a with tmps := fillL u l 0 a.tmps } W) :
    (Code.region id l.toArray true).wpIn F n P Q a w := by
  refine wpIn_region_any hm ?_
  have hfore : ∀ i o, l[i]? = some o → ∀ k ∈ fore o, k < i := by
    intro i o hi k hk
    rw [List.all_eq_true] at hdag
    have hmem : (o, i) ∈ l.zipIdx := by
      rw [List.mem_zipIdx_iff_getElem?]; exact hi
    have := hdag (o, i) hmem
    simp only [List.all_eq_true, decide_eq_true_eq] at this
    exact this k hk
  have hready : ∀ (listed : Array Bool) (done : Nat → Bool), listed.size = l.length → (∀ i, i < l.length → listed.getD i true = done i) → ∀ i o, l[i]? = some o →
      (i ∈ Region.ready .any l.toArray listed ↔ done i = false ∧ ∀ k ∈ fore o, done k = true) := by
    intro listed done hsz hl i o hi
    have hlt : i < l.length := (List.getElem?_eq_some_iff.1 hi).1
    have hget : ∀ k, k < l.length → listed.getD k false = done k := by
      intro k hk
      rw [← hl k hk]
      simp [Array.getD_eq_getD_getElem?, hsz, hk]
    simp only [Region.ready, List.mem_filter, List.mem_range, List.size_toArray, hlt, true_and, Bool.and_eq_true, Bool.not_eq_true', hl i hlt, List.getElem?_toArray, hi, Option.map_some, Option.getD_some]
    refine and_congr_right fun _ => ?_
    rw [Array.all_eq_true']
    constructor
    · intro h k hk
      have hki := hfore i o hi k hk
      simp only [fore, List.mem_map, List.mem_filter] at hk
      obtain ⟨e, ⟨he, hb⟩, rfl⟩ := hk
      have := h e (by simpa using he)
      simp only [hb, Bool.not_true, Bool.false_or] at this
      rw [← hget e.on (by omega)]
      exact this
    · intro h e he
      cases hb : Region.binds .any e with
      | false => simp
      | true =>
        have hk : e.on ∈ fore o := by simp only [fore, List.mem_map, List.mem_filter]; exact ⟨e, ⟨by simpa using he, hb⟩, rfl⟩
        have hd := h e.on hk
        have hek := hfore i o hi e.on hk
        rw [← hget e.on (by omega)] at hd
        simp only [Bool.not_true, Bool.false_or]
        exact hd
  have hmem : ∀ (listed : Array Bool) i, i ∈ Region.ready .any l.toArray listed → i < l.length := by
    intro listed i hi
    simp only [Region.ready, List.mem_filter, List.mem_range, List.size_toArray] at hi
    exact hi.1
  have hall : ∀ (listed : Array Bool) (done : Nat → Bool), listed.size = l.length → (∀ i, i < l.length → listed.getD i true = done i) → Region.ready .any l.toArray listed = [] → ∀ i, i < l.length → done i = true := by
    intro listed done hsz hl hr i
    induction i using Nat.strongRecOn with
    | _ i ih =>
      intro hi
      cases hd : done i with
      | true => rfl
      | false =>
        have ho : l[i]? = some l[i] := List.getElem?_eq_getElem hi
        have := (hready listed done hsz hl i _ ho).2 ⟨hd, fun k hk => by
          have hki := hfore i _ ho k hk
          exact ih k hki (by omega)⟩
        rw [hr] at this
        simp at this
  have main : ∀ (fuel : Nat) (listed : Array Bool) (u : Nat → Value) (done : Nat → Bool) (W : World), listed.size = l.length → (∀ i, i < l.length → listed.getD i true = done i) →
      (List.range l.length).countP (fun j => !done j) ≤ fuel → (∀ j o, l[j]? = some o → done j = true → ∀ k ∈ fore o, done k = true) → R done u W →
      wpAnyIn F n P .any l.toArray Q fuel listed { a with tmps := fillL u l 0 a.tmps } W := by
    intro fuel
    induction fuel with
    | zero =>
      intro listed u done W hsz hl hc hcl hR
      have hd : ∀ i, i < l.length → done i = true := by
        intro i hi
        have h0 : (List.range l.length).countP (fun j => !done j) = 0 := by omega
        rw [List.countP_eq_zero] at h0
        have := h0 i (List.mem_range.2 hi)
        simpa using this
      refine ⟨?_, hfin u W ⟨done, hd, hR⟩⟩
      rw [List.eq_nil_iff_forall_not_mem]
      intro i hi
      have hlt := hmem listed i hi
      have ho : l[i]? = some l[i] := List.getElem?_eq_getElem hlt
      have := ((hready listed done hsz hl i _ ho).1 hi).1
      rw [hd i hlt] at this
      cases this
    | succ fuel ih =>
      intro listed u done W hsz hl hc hcl hR
      refine ⟨fun hr => ?_, fun i hi => ?_⟩
      · have hd := hall listed done hsz hl hr
        exact hfin u W ⟨done, hd, hR⟩
      · have hlt := hmem listed i hi
        have ho : l[i]? = some l[i] := List.getElem?_eq_getElem hlt
        generalize hoo : l[i] = o at ho
        obtain ⟨hdi, hfo⟩ := (hready listed done hsz hl i o ho).1 hi
        have hanc : ∀ j ∈ anc l l.length (fore o), done j = true := anc_closed hcl _ _ hfo
        have hs := AllIdx.at hstep i o ho
        simp only [Nat.zero_add] at hs
        have hs := hs u done W hdi hanc (fun j oj hj hdj => anc_closed hcl _ _ (hcl j oj hj hdj)) hR
        have hnext : ∀ (v : Value) (W' : World), R (upd done i) (fun j => if j = i then v else u j) W' → wpAnyIn F n P .any l.toArray Q fuel (listed.setIfInBounds i true) (({ a with tmps := fillL u l 0 a.tmps } : Act).put o.dst v) W' := by
          intro v W' hR'
          have hput : (({ a with tmps := fillL u l 0 a.tmps } : Act).put o.dst v) = { a with tmps := fillL (fun j => if j = i then v else u j) l 0 a.tmps } := by
            cases hd : o.dst with
            | none =>
              simp only [Act.put]
              rw [fillL_none u v l 0 i a.tmps o ho hd, Nat.zero_add]
            | some d =>
              simp only [Act.put]
              rw [fillL_put u v l 0 i a.tmps o d hnd ho hd, Nat.zero_add]
          rw [hput]
          refine ih (listed.setIfInBounds i true) _ (upd done i) W' (by simp [hsz]) (fun j hj => ?_) ?_ ?_ hR'
          · unfold upd
            by_cases e : j = i
            · subst e; simp [Array.getD_eq_getD_getElem?, hsz, hj]
            · rw [if_neg e, ← hl j hj]
              simp [Array.getD_eq_getD_getElem?, Array.getElem?_setIfInBounds_ne (Ne.symm e)]
          · have := countP_upd l.length done i hlt hdi
            omega
          · intro j oj hj hdj k hk
            unfold upd at hdj ⊢
            by_cases e : j = i
            · subst e
              rw [ho] at hj
              cases hj
              have := hfo k hk
              simp [this]
            · rw [if_neg e] at hdj
              have := hcl j oj hj hdj k hk
              simp [this]
        unfold wpOpIn
        simp only [List.getElem?_toArray, ho]
        by_cases hw : Region.wanted o (yielded l.toArray (fillL u l 0 a.tmps)) = true
        · rw [if_pos hw] at hs ⊢
          exact Oper.wpIn_mono (fun a' W' ⟨v, ha, hR'⟩ => by subst ha; exact hnext v W' hR') hs
        · rw [if_neg hw] at hs ⊢
          exact ⟨fun f _ => hwide f, hnext undef W hs⟩
  obtain ⟨u0, hself⟩ : ∃ u0 : Nat → Value, fillL u0 l 0 a.tmps = a.tmps :=
    ⟨fun i => match l[i]? with | some o => (match o.dst with | some d => a.tmps.getD d undef | none => undef) | none => undef, by
      apply fillL_self
      intro i o d hi hd _
      simp only [Nat.zero_add, hi, hd]⟩
  have hmain := main l.length (Array.replicate l.length false) u0 (fun _ => false) w.drew (by simp) (fun i hi => by simp [hi]) (by simp) (fun _ _ _ h => by cases h) (h0 _)
  rw [hself] at hmain
  rw [List.size_toArray]
  exact hmain

/-- if operation j has run, its value is as p says -/
def Vl (done : Nat → Bool) (u : Nat → Value) (j : Nat) (p : Value → Prop) : Prop := done j = true → p (u j)
theorem Vl.keep {done : Nat → Bool} {u : Nat → Value} {j i : Nat} {p : Value → Prop} {x : Value} (h : Vl done u j p) (hne : j ≠ i) : Vl (upd done i) (fun k => if k = i then x else u k) j p := by
  intro hd
  simp only [upd, if_neg hne] at hd ⊢
  exact h hd
theorem Vl.new {done : Nat → Bool} {u : Nat → Value} {i : Nat} {p : Value → Prop} {x : Value} (h : p x) : Vl (upd done i) (fun k => if k = i then x else u k) i p := by
  intro _
  simpa using h
theorem Vl.start {u : Nat → Value} {j : Nat} {p : Value → Prop} : Vl (fun _ => false) u j p := fun h => by cases h
theorem upd_ne {done : Nat → Bool} {i j : Nat} (h : j ≠ i) : upd done i j = done j := by simp [upd, h]
theorem upd_self {done : Nat → Bool} {i : Nat} : upd done i i = true := by simp [upd]

theorem op_k {P : Program} {o : Oper} {a : Act} {W : World} {Q : Exit → Act → World → Prop} {RR : Value → World → Prop}
    (h : ∀ K : Act → World → Prop, (∀ v W', RR v W' → K (a.put o.dst v) W') → o.wp P a W K Q) : o.wp P a W (fun a' W' => ∃ v, a' = a.put o.dst v ∧ RR v W') Q :=
  h _ (fun v W' h => ⟨v, rfl, h⟩)
/-- An operation without a guard, in a region that draws. -/
theorem op_plain {P : Program} {o : Oper} {a : Act} {W : World} {Q : Exit → Act → World → Prop} {RR : Value → World → Prop} {y : Nat → Option Bool} {ro : Option Nat} {n : Nat} {E : Prop} (hg : o.guard = none) (hd : ∀ c, o.op ≠ .defer c)
    (h : ∀ K : Act → World → Prop, (∀ v W', RR v W' → K (a.put o.dst v) W') → o.wp P a W K Q) :
    if Region.wanted o y then o.wpIn { Fence.wide with round := ro } n P a W (fun a' W' => ∃ v, a' = a.put o.dst v ∧ RR v W') Q else E := by
  rw [if_pos (by simp [Region.wanted, hg])]
  exact wpIn_of_wp hd (op_k h)
/-- An operation whose guard is met. -/
theorem op_yes {P : Program} {o : Oper} {a : Act} {W : World} {Q : Exit → Act → World → Prop} {RR : Value → World → Prop} {y : Nat → Option Bool} {ro : Option Nat} {n : Nat} {E : Prop} {j : Nat} {b : Bool} (hg : o.guard = some (j, b)) (hy : y j = some b) (hd : ∀ c, o.op ≠ .defer c)
    (h : ∀ K : Act → World → Prop, (∀ v W', RR v W' → K (a.put o.dst v) W') → o.wp P a W K Q) :
    if Region.wanted o y then o.wpIn { Fence.wide with round := ro } n P a W (fun a' W' => ∃ v, a' = a.put o.dst v ∧ RR v W') Q else E := by
  rw [if_pos (by simp [Region.wanted, hg, hy])]
  exact wpIn_of_wp hd (op_k h)
/-- An operation whose guard is not met. -/
theorem op_no {o : Oper} {y : Nat → Option Bool} {E E' : Prop} {j : Nat} {b : Bool} (hg : o.guard = some (j, b)) (hy : y j = some (!b)) (h : E) : if Region.wanted o y then E' else E := by
  rw [if_neg (by simp [Region.wanted, hg, hy])]
  exact h
theorem fillL_get (u : Nat → Value) : ∀ (l : List Oper) (k j : Nat) (t : Array Value) (o : Oper) (d : Nat), (dstsOf l).Nodup → l[j]? = some o → o.dst = some d → d < t.size → (fillL u l k t)[d]? = some (u (k + j)) := by
  intro l
  induction l with
  | nil => intro k j t o d _ h; simp at h
  | cons x r ih =>
    intro k j t o d hn hj hd hlt
    cases j with
    | zero =>
      simp at hj
      subst hj
      have hnr : d ∉ dstsOf r := by
        have : (d :: dstsOf r).Nodup := by simpa [dstsOf, List.filterMap_cons, hd] using hn
        exact (List.nodup_cons.1 this).1
      simp only [fillL, hd, Nat.add_zero]
      have h1 : t.setIfInBounds d (u k) = (t.setIfInBounds d (u k)).setIfInBounds d (u k) := by rw [Array.setIfInBounds_setIfInBounds]
      rw [h1, ← fillL_set_comm u r (k + 1) _ d (u k) hnr]
      rw [Array.getElem?_setIfInBounds]
      simp [fillL_size, hlt]
    | succ j =>
      have hnr : (dstsOf r).Nodup := by
        cases hx : x.dst with
        | none => simpa [dstsOf, List.filterMap_cons, hx] using hn
        | some e =>
          have : (e :: dstsOf r).Nodup := by simpa [dstsOf, List.filterMap_cons, hx] using hn
          exact (List.nodup_cons.1 this).2
      simp only [fillL]
      rw [ih (k + 1) j _ o d hnr (by simpa using hj) hd (by split <;> simp [hlt])]
      rw [show k + 1 + j = k + (j + 1) by omega]

theorem yielded_fill {l : List Oper} {u : Nat → Value} {t : Array Value} {j : Nat} {b : Bool} (hnd : (dstsOf l).Nodup) (hlt : (match (l[j]?).bind (·.dst) with | some d => decide (d < t.size) | none => false) = true) (hu : u j = .bool b) :
    yielded l.toArray (fillL u l 0 t) j = some b := by
  cases ho : l[j]? with
  | none => rw [ho] at hlt; simp at hlt
  | some o =>
    rw [ho] at hlt
    cases hd : o.dst with
    | none => simp [hd] at hlt
    | some d =>
      simp [hd] at hlt
      have := fillL_get u l 0 j t o d hnd ho hd hlt
      simp [yielded, ho, hd, this, hu]

/-- An operation whose guard is not met, in a region that draws. -/
theorem op_skip {l : List Oper} {u : Nat → Value} {t : Array Value} {o : Oper} {E E' : Prop} (j : Nat) (b : Bool) {b' : Bool} (hu : u j = .bool b') (hne : (b' == b) = false) (hnd : (dstsOf l).Nodup)
    (hlt : (match (l[j]?).bind (·.dst) with | some d => decide (d < t.size) | none => false) = true) (hg : o.guard = some (j, b)) (h : E) : if Region.wanted o (yielded l.toArray (fillL u l 0 t)) then E' else E := by
  rw [if_neg (by simp [Region.wanted, hg, yielded_fill hnd hlt hu]; simpa using hne)]
  exact h
/-- An operation whose guard is met, in a region that draws. -/
theorem op_meet {P : Program} {l : List Oper} {u : Nat → Value} {t : Array Value} {o : Oper} {a : Act} {W : World} {Q : Exit → Act → World → Prop} {RR : Value → World → Prop} {ro : Option Nat} {n : Nat} {E : Prop} (j : Nat) (b : Bool) (hu : u j = .bool b) (hnd : (dstsOf l).Nodup)
    (hlt : (match (l[j]?).bind (·.dst) with | some d => decide (d < t.size) | none => false) = true) (hg : o.guard = some (j, b)) (hd : ∀ c, o.op ≠ .defer c)
    (h : ∀ K : Act → World → Prop, (∀ v W', RR v W' → K (a.put o.dst v) W') → o.wp P a W K Q) :
    if Region.wanted o (yielded l.toArray (fillL u l 0 t)) then o.wpIn { Fence.wide with round := ro } n P a W (fun a' W' => ∃ v, a' = a.put o.dst v ∧ RR v W') Q else E := by
  rw [if_pos (by simp [Region.wanted, hg, yielded_fill hnd hlt hu])]
  exact wpIn_of_wp hd (op_k h)
/-- An operation whose guard is met: its walk in a fence. -/
theorem op_meetIn {l : List Oper} {u : Nat → Value} {t : Array Value} {o : Oper} {E E' : Prop} (j : Nat) (b : Bool) (hu : u j = .bool b) (hnd : (dstsOf l).Nodup)
    (hlt : (match (l[j]?).bind (·.dst) with | some d => decide (d < t.size) | none => false) = true) (hg : o.guard = some (j, b)) (h : E') :
    if Region.wanted o (yielded l.toArray (fillL u l 0 t)) then E' else E := by
  rw [if_pos (by simp [Region.wanted, hg, yielded_fill hnd hlt hu])]
  exact h
/-- An operation's walk in a fence without bounds, out of its plain walk. -/
theorem op_in {P : Program} {o : Oper} {a : Act} {W : World} {Q : Exit → Act → World → Prop} {RR : Value → World → Prop} {ro : Option Nat} {n : Nat} (hd : ∀ c, o.op ≠ .defer c)
    (h : ∀ K : Act → World → Prop, (∀ v W', RR v W' → K (a.put o.dst v) W') → o.wp P a W K Q) :
    o.wpIn { Fence.wide with round := ro } n P a W (fun a' W' => ∃ v, a' = a.put o.dst v ∧ RR v W') Q := wpIn_of_wp hd (op_k h)
theorem mem_of {L : List Nat} {j : Nat} (h : L.contains j = true) : j ∈ L := by simpa using h
end
section
set_option linter.unusedVariables false
open Go.RowKit

theorem region_inv2 {F : Fence} {n : Nat} {P : Program} {id : Nat} {l : List Oper} {Q : Exit → Act → World → Prop} {a : Act} {w : World} (hm : P.follows .mixedOrders = true)
    (hdag : (l.zipIdx.all fun (o, i) => (fore o).all (· < i)) = true) (hnd : (dstsOf l).Nodup) (hwide : ∀ f, F.fn f)
    (R : (Nat → Bool) → (Nat → Value) → World → Prop) (h0 : ∀ u, fillL u l 0 a.tmps = a.tmps → R (fun _ => false) u w.drew)
    (hstep : AllIdx (fun i o => ∀ (u : Nat → Value) (done : Nat → Bool) (W : World), done i = false → (∀ j ∈ anc l l.length (fore o), done j = true) → (∀ j oj, l[j]? = some oj → done j = true → ∀ k ∈ anc l l.length (fore oj), done k = true) → R done u W →
      if Region.wanted o (yielded l.toArray (fillL u l 0 a.tmps)) then o.wpIn F n P { a with tmps := fillL u l 0 a.tmps } W (fun a' W' => ∃ v, a' = ({ a with tmps := fillL u l 0 a.tmps } : Act).put o.dst v ∧ R (upd done i) (fun j => if j = i then v else u j) W') Q
      else R (upd done i) (fun j => if j = i then undef else u j) W) l 0)
    (hfin : ∀ (u : Nat → Value) (W : World), (∃ done, (∀ i, i < l.length → done i = true) ∧ R done u W) → Q .normal { a with tmps := fillL u l 0 a.tmps } W) :
    (Code.region id l.toArray true).wpIn F n P Q a w := by
  refine wpIn_region_any hm ?_
  have hfore : ∀ i o, l[i]? = some o → ∀ k ∈ fore o, k < i := by
    intro i o hi k hk
    rw [List.all_eq_true] at hdag
    have hmem : (o, i) ∈ l.zipIdx := by
      rw [List.mem_zipIdx_iff_getElem?]; exact hi
    have := hdag (o, i) hmem
    simp only [List.all_eq_true, decide_eq_true_eq] at this
    exact this k hk
  have hready : ∀ (listed : Array Bool) (done : Nat → Bool), listed.size = l.length → (∀ i, i < l.length → listed.getD i true = done i) → ∀ i o, l[i]? = some o →
      (i ∈ Region.ready .any l.toArray listed ↔ done i = false ∧ ∀ k ∈ fore o, done k = true) := by
    intro listed done hsz hl i o hi
    have hlt : i < l.length := (List.getElem?_eq_some_iff.1 hi).1
    have hget : ∀ k, k < l.length → listed.getD k false = done k := by
      intro k hk
      rw [← hl k hk]
      simp [Array.getD_eq_getD_getElem?, hsz, hk]
    simp only [Region.ready, List.mem_filter, List.mem_range, List.size_toArray, hlt, true_and, Bool.and_eq_true, Bool.not_eq_true', hl i hlt, List.getElem?_toArray, hi, Option.map_some, Option.getD_some]
    refine and_congr_right fun _ => ?_
    rw [Array.all_eq_true']
    constructor
    · intro h k hk
      have hki := hfore i o hi k hk
      simp only [fore, List.mem_map, List.mem_filter] at hk
      obtain ⟨e, ⟨he, hb⟩, rfl⟩ := hk
      have := h e (by simpa using he)
      simp only [hb, Bool.not_true, Bool.false_or] at this
      rw [← hget e.on (by omega)]
      exact this
    · intro h e he
      cases hb : Region.binds .any e with
      | false => simp
      | true =>
        have hk : e.on ∈ fore o := by simp only [fore, List.mem_map, List.mem_filter]; exact ⟨e, ⟨by simpa using he, hb⟩, rfl⟩
        have hd := h e.on hk
        have hek := hfore i o hi e.on hk
        rw [← hget e.on (by omega)] at hd
        simp only [Bool.not_true, Bool.false_or]
        exact hd
  have hmem : ∀ (listed : Array Bool) i, i ∈ Region.ready .any l.toArray listed → i < l.length := by
    intro listed i hi
    simp only [Region.ready, List.mem_filter, List.mem_range, List.size_toArray] at hi
    exact hi.1
  have hall : ∀ (listed : Array Bool) (done : Nat → Bool), listed.size = l.length → (∀ i, i < l.length → listed.getD i true = done i) → Region.ready .any l.toArray listed = [] → ∀ i, i < l.length → done i = true := by
    intro listed done hsz hl hr i
    induction i using Nat.strongRecOn with
    | _ i ih =>
      intro hi
      cases hd : done i with
      | true => rfl
      | false =>
        have ho : l[i]? = some l[i] := List.getElem?_eq_getElem hi
        have := (hready listed done hsz hl i _ ho).2 ⟨hd, fun k hk => by
          have hki := hfore i _ ho k hk
          exact ih k hki (by omega)⟩
        rw [hr] at this
        simp at this
  have main : ∀ (fuel : Nat) (listed : Array Bool) (u : Nat → Value) (done : Nat → Bool) (W : World), listed.size = l.length → (∀ i, i < l.length → listed.getD i true = done i) →
      (List.range l.length).countP (fun j => !done j) ≤ fuel → (∀ j o, l[j]? = some o → done j = true → ∀ k ∈ fore o, done k = true) → R done u W →
      wpAnyIn F n P .any l.toArray Q fuel listed { a with tmps := fillL u l 0 a.tmps } W := by
    intro fuel
    induction fuel with
    | zero =>
      intro listed u done W hsz hl hc hcl hR
      have hd : ∀ i, i < l.length → done i = true := by
        intro i hi
        have h0 : (List.range l.length).countP (fun j => !done j) = 0 := by omega
        rw [List.countP_eq_zero] at h0
        have := h0 i (List.mem_range.2 hi)
        simpa using this
      refine ⟨?_, hfin u W ⟨done, hd, hR⟩⟩
      rw [List.eq_nil_iff_forall_not_mem]
      intro i hi
      have hlt := hmem listed i hi
      have ho : l[i]? = some l[i] := List.getElem?_eq_getElem hlt
      have := ((hready listed done hsz hl i _ ho).1 hi).1
      rw [hd i hlt] at this
      cases this
    | succ fuel ih =>
      intro listed u done W hsz hl hc hcl hR
      refine ⟨fun hr => ?_, fun i hi => ?_⟩
      · have hd := hall listed done hsz hl hr
        exact hfin u W ⟨done, hd, hR⟩
      · have hlt := hmem listed i hi
        have ho : l[i]? = some l[i] := List.getElem?_eq_getElem hlt
        generalize hoo : l[i] = o at ho
        obtain ⟨hdi, hfo⟩ := (hready listed done hsz hl i o ho).1 hi
        have hanc : ∀ j ∈ anc l l.length (fore o), done j = true := anc_closed hcl _ _ hfo
        have hs := AllIdx.at hstep i o ho
        simp only [Nat.zero_add] at hs
        have hs := hs u done W hdi hanc (fun j oj hj hdj => anc_closed hcl _ _ (hcl j oj hj hdj)) hR
        have hnext : ∀ (v : Value) (W' : World), R (upd done i) (fun j => if j = i then v else u j) W' → wpAnyIn F n P .any l.toArray Q fuel (listed.setIfInBounds i true) (({ a with tmps := fillL u l 0 a.tmps } : Act).put o.dst v) W' := by
          intro v W' hR'
          have hput : (({ a with tmps := fillL u l 0 a.tmps } : Act).put o.dst v) = { a with tmps := fillL (fun j => if j = i then v else u j) l 0 a.tmps } := by
            cases hd : o.dst with
            | none =>
              simp only [Act.put]
              rw [fillL_none u v l 0 i a.tmps o ho hd, Nat.zero_add]
            | some d =>
              simp only [Act.put]
              rw [fillL_put u v l 0 i a.tmps o d hnd ho hd, Nat.zero_add]
          rw [hput]
          refine ih (listed.setIfInBounds i true) _ (upd done i) W' (by simp [hsz]) (fun j hj => ?_) ?_ ?_ hR'
          · unfold upd
            by_cases e : j = i
            · subst e; simp [Array.getD_eq_getD_getElem?, hsz, hj]
            · rw [if_neg e, ← hl j hj]
              simp [Array.getD_eq_getD_getElem?, Array.getElem?_setIfInBounds_ne (Ne.symm e)]
          · have := countP_upd l.length done i hlt hdi
            omega
          · intro j oj hj hdj k hk
            unfold upd at hdj ⊢
            by_cases e : j = i
            · subst e
              rw [ho] at hj
              cases hj
              have := hfo k hk
              simp [this]
            · rw [if_neg e] at hdj
              have := hcl j oj hj hdj k hk
              simp [this]
        unfold wpOpIn
        simp only [List.getElem?_toArray, ho]
        by_cases hw : Region.wanted o (yielded l.toArray (fillL u l 0 a.tmps)) = true
        · rw [if_pos hw] at hs ⊢
          exact Oper.wpIn_mono (fun a' W' ⟨v, ha, hR'⟩ => by subst ha; exact hnext v W' hR') hs
        · rw [if_neg hw] at hs ⊢
          exact ⟨fun f _ => hwide f, hnext undef W hs⟩
  obtain ⟨u0, hself⟩ : ∃ u0 : Nat → Value, fillL u0 l 0 a.tmps = a.tmps :=
    ⟨fun i => match l[i]? with | some o => (match o.dst with | some d => a.tmps.getD d undef | none => undef) | none => undef, by
      apply fillL_self
      intro i o d hi hd _
      simp only [Nat.zero_add, hi, hd]⟩
  have hmain := main l.length (Array.replicate l.length false) u0 (fun _ => false) w.drew (by simp) (fun i hi => by simp [hi]) (by simp) (fun _ _ _ h => by cases h) (h0 _ hself)
  rw [hself] at hmain
  rw [List.size_toArray]
  exact hmain

/-- what a slot held before -/
theorem fillL_was {l : List Oper} {u : Nat → Value} {t : Array Value} (h : fillL u l 0 t = t) (hnd : (dstsOf l).Nodup) (j : Nat) {o : Oper} {d : Nat} {v : Value} (ho : l[j]? = some o) (hd : o.dst = some d) (hv : t[d]? = some v) : u j = v := by
  have hlt : d < t.size := (Array.getElem?_eq_some_iff.1 hv).1
  have := fillL_get u l 0 j t o d hnd ho hd hlt
  rw [h, hv, Nat.zero_add] at this
  injection this with this
  exact this.symm
end
section
open Go.RowKit

/-- where operation j has run and vs says its value, it is that -/
def Kn (vs : List (Option Value)) (done : Nat → Bool) (u : Nat → Value) : Prop := ∀ j x, vs[j]? = some (some x) → done j = true → u j = x
theorem Kn.get {vs : List (Option Value)} {done : Nat → Bool} {u : Nat → Value} (h : Kn vs done u) (j : Nat) {x : Value} (hv : vs[j]? = some (some x)) (hd : done j = true) : u j = x := h j x hv hd
theorem Kn.start (vs : List (Option Value)) (u : Nat → Value) : Kn vs (fun _ => false) u := fun _ _ _ h => by cases h
theorem Kn.new {vs : List (Option Value)} {done : Nat → Bool} {u : Nat → Value} (h : Kn vs done u) {i : Nat} {v : Value} (hv : vs[i]? = some (some v)) : Kn vs (upd done i) (fun j => if j = i then v else u j) := by
  intro j x hj hd
  by_cases e : j = i
  · subst e; rw [hv] at hj; simp at hj; simp [hj]
  · simp only [upd, if_neg e] at hd ⊢; exact h j x hj hd
theorem Kn.skip {vs : List (Option Value)} {done : Nat → Bool} {u : Nat → Value} (h : Kn vs done u) {i : Nat} {v : Value} (hv : vs[i]? = some none) : Kn vs (upd done i) (fun j => if j = i then v else u j) := by
  intro j x hj hd
  by_cases e : j = i
  · subst e; rw [hv] at hj; simp at hj
  · simp only [upd, if_neg e] at hd ⊢; exact h j x hj hd
/-- an operation that comes before one that has not run -/
theorem not_done {l : List Oper} {done : Nat → Bool} (hclo : ∀ j oj, l[j]? = some oj → done j = true → ∀ k ∈ anc l l.length (fore oj), done k = true) {i : Nat} (hd : done i = false) (j : Nat) {oj : Oper} (ho : l[j]? = some oj)
    (hc : (anc l l.length (fore oj)).contains i = true) : done j = false := by
  cases h : done j with
  | false => rfl
  | true => rw [hclo j _ ho h i (mem_of hc)] at hd; cases hd
end
end
end Go.Proofs.Ytoalamakhjbedaa
