/- Several texts of this claim in one file. (1) Blocks of a call's own that it turns. Nothing of the program is proved here. (2) Rules for a range over a function in which a round knows how far it has come. Nothing of the program is proved here. (3) The reference's list of all states that work: plain words; lists that are joined; the invariant of its region. (4) A walk by lemmas: properties of values, and a range over states. (5) Contract: slices.Compare of two states. (6) Contract: the reference's states. (7) Contract: the reference's states of a whole fleet. (8) Contracts: the sum of a state. -/
import Derived.Test.YtlilojpnhmfnaaaBd7
import Derived.Test.YtlilojpnhmfnaaaBd3
import Derived.Test.YtlilojpnhmfnaaaBd6
import Derived.Deep.Upon
import Derived.Test.YtlilojpnhmfnaaaBd4
import Derived.Test.YtlilojpnhmfnaaaBd1
namespace Go.Proofs.Ytlilojpnhmfnaaa
section
open Go.RowKit
namespace Y
variable {P : Program} {W W' : World}

theorem addr_add (g i j : Nat) : (⟨g, i, none⟩ : Addr).add j = ⟨g, i + j, none⟩ := by
  unfold Addr.add; split
  · subst_vars; rfl
  · rfl
/-- a block of N cells: what each holds -/
def Own (W : World) (b N : Nat) (val : Nat → Value) : Prop := ∃ cs t, W.heap[b]? = some (.cells cs t (0, 0)) ∧ cs.size = N ∧ ∀ k, k < N → cs[k]? = some (val k)
section
variable {b N : Nat} {val : Nat → Value}
theorem Own.lt (h : Own W b N val) : b < W.heap.size := by
  obtain ⟨_, _, h, _⟩ := h
  exact (Array.getElem?_eq_some_iff.1 h).1
theorem Own.only {S : Nat → Prop} (h : Own W b N val) (g : Only S W W') (hs : ¬ S b) : Own W' b N val := by
  have hlt := h.lt
  obtain ⟨cs, t, h1, h2⟩ := h
  exact ⟨cs, t, (g.block b hlt hs).trans h1, h2⟩
theorem Own.gr (h : Own W b N val) (g : Gr W W') : Own W' b N val := h.only (g.only (fun _ => False)) (fun h => h)
theorem Own.cell (h : Own W b N val) {k : Nat} (hk : k < N) : W.cell? ⟨b, k, none⟩ = some (val k) := by
  obtain ⟨cs, t, h1, _, h3⟩ := h
  exact cell_at h1 (h3 k hk)
theorem Own.fz (h : Own W b N val) (k : Nat) : W.frozen? ⟨b, k, none⟩ = false := by
  obtain ⟨cs, t, h1, _⟩ := h
  unfold World.frozen?
  simp [h1]
theorem Own.set (h : Own W b N val) {k : Nat} (v : Value) : Own (W.setCell ⟨b, k, none⟩ v) b N (fun j => if j = k then v else val j) := by
  obtain ⟨cs, t, h1, h2, h3⟩ := h
  refine ⟨cs.setIfInBounds k v, t, heap_setCell_same W b k cs t v h1, by simpa using h2, fun j hj => ?_⟩
  show _ = some (if j = k then v else val j)
  by_cases e : j = k
  · subst e; rw [if_pos rfl, Array.getElem?_setIfInBounds_self_of_lt (by omega)]
  · rw [if_neg e, Array.getElem?_setIfInBounds_ne (Ne.symm e)]; exact h3 j hj
theorem Own.congr {val' : Nat → Value} (h : Own W b N val) (he : ∀ k, k < N → val k = val' k) : Own W b N val' := by
  obtain ⟨cs, t, h1, h2, h3⟩ := h
  exact ⟨cs, t, h1, h2, fun k hk => by rw [h3 k hk, he k hk]⟩
theorem Own.new {cs : Array Value} {t : TypeId} (h : W.heap[b]? = some (.cells cs t)) (hn : cs.size = N) (hv : ∀ k, k < N → cs[k]? = some (val k)) : Own W b N val := ⟨cs, t, h, hn, hv⟩
theorem set_only (W : World) (b k : Nat) (v : Value) : Only (fun x => x = b) W (W.setCell ⟨b, k, none⟩ v) := Only.setCell (S := fun x => x = b) (Only.refl _ _) (p := ⟨b, k, none⟩) (.inl rfl) v
/-- what was there before the block was made stays -/
theorem Only.up {wb : World} (g : Gr wb W) (h : Only (fun x => x = b) W W') (hb : wb.heap.size ≤ b) : Gr wb W' :=
  ((g.only (fun x => wb.heap.size ≤ x)).trans (h.mono' (fun i e => by subst e; exact hb))).gr (fun i hi e => by omega)

/-- a cell that is written -/
theorem Own.st1 {t : TypeId} {k : Nat} {v : Value} (h : Own W b N val) (hS : (sizeOf t).run P W = .ok 1 W) (hv : v.cells = #[v]) (hv1 : v.oneCell' = true) (hk : k < N) :
    ∃ W', (Instr.storeAt t (.pointer (some ⟨b, k, none⟩)) v).run P W = .ok () W' ∧ Own W' b N (fun j => if j = k then v else val j) ∧ Only (fun x => x = b) W W' :=
  ⟨_, Y.st1 hS hv hv1 (h.cell hk) (h.fz k), h.set v, set_only _ _ _ _⟩
/-- a struct of three numbers that is written -/
theorem Own.st3 {t : TypeId} {k : Nat} {x y z : Int} (h : Own W b N val) (hS : (sizeOf t).run P W = .ok 3 W) (hk : k + 2 < N) :
    ∃ W', (Instr.storeAt t (.pointer (some ⟨b, k, none⟩)) (.agg #[.int .i64 x, .int .i64 y, .int .i64 z])).run P W = .ok () W' ∧ Own W' b N (fun j => if j = k + 2 then .int .i64 z else if j = k + 1 then .int .i64 y else if j = k then .int .i64 x else val j) ∧ Only (fun x => x = b) W W' := by
  have h0 := h.set (k := k) (.int .i64 x)
  have h1 := h0.set (k := k + 1) (.int .i64 y)
  have h2 := h1.set (k := k + 2) (.int .i64 z)
  refine ⟨_, ?_, h2, ((set_only _ _ _ _).trans (set_only _ _ _ _)).trans (set_only _ _ _ _)⟩
  have c0 := h.cell (k := k) (by omega)
  have f0 := h.fz k
  have c1 := h0.cell (k := k + 1) (by omega)
  have f1 := h0.fz (k + 1)
  have c2 := h1.cell (k := k + 2) (by omega)
  have f2 := h1.fz (k + 2)
  have e0 : (⟨b, k, none⟩ : Addr).add 0 = ⟨b, k, none⟩ := rfl
  have e1 : (⟨b, k, none⟩ : Addr).add 1 = ⟨b, k + 1, none⟩ := rfl
  have e2 : (⟨b, k, none⟩ : Addr).add 2 = ⟨b, k + 2, none⟩ := rfl
  simp [Instr.storeAt, storeVar, Instr.sureAddr, hS, storeCells, Value.cells, go_sem, e0, e1, e2, c0, f0, c1, f1, c2, f2]
end
/-- a new variable of three numbers, zero -/
def MP.var3 (B : Nat) : MP := ⟨fun v W => ∃ b, v = .pointer (some ⟨b, 0, none⟩) ∧ Own W b 3 (fun _ => .int .i64 0) ∧ B ≤ b, fun _ _ _ ⟨b, h1, h2, h3⟩ g => ⟨b, h1, h2.gr g, h3⟩⟩
theorem var3_new {W : World} {b : Nat} {t : TypeId} (h : W.heap[b]? = some (.cells #[.int .i64 0, .int .i64 0, .int .i64 0] t)) : Own W b 3 (fun _ => .int .i64 0) := Own.new h rfl (fun k hk => by
  have : k = 0 ∨ k = 1 ∨ k = 2 := by omega
  rcases this with rfl | rfl | rfl <;> rfl)
theorem c3 {W : World} {p : Addr} {v0 v1 v2 : Value} (h0 : W.cell? (p.add 0) = some v0) (h1 : W.cell? (p.add 1) = some v1) (h2 : W.cell? (p.add 2) = some v2) : ∀ j v, [v0, v1, v2][j]? = some v → W.cell? (p.add j) = some v := fun j v h => by
  match j with
  | 0 => simp at h; subst h; exact h0
  | 1 => simp at h; subst h; exact h1
  | 2 => simp at h; subst h; exact h2
  | j + 3 => simp at h
theorem bd {o : Oper} {ρ : Operand → Value} {t : TypeId} {xs : Array (Nat × Operand)} {vs : List (Nat × Value)} {v : Value} (ho : o.op = .build t xs) (hx : xs.toList.map (fun p => (p.1, ρ p.2)) = vs) (hr : (Instr.build t vs.toArray).run P W = .ok v W') : (execOp ρ o).run P W = .ok (.value v) W' := by
  unfold execOp; rw [ho]
  have : (xs.map fun (i, x) => (i, ρ x)) = vs.toArray := by
    cases xs with
    | mk l => subst hx; simp
  simp only [this]; exact X.run_v hr
theorem b3 {ρ : Operand → Value} {x y z : Operand} {v1 v2 v3 : Value} (h1 : ρ x = v1) (h2 : ρ y = v2) (h3 : ρ z = v3) : [(0, x), (1, y), (2, z)].map (fun p : Nat × Operand => (p.1, ρ p.2)) = [(0, v1), (1, v2), (2, v3)] := by simp [h1, h2, h3]

/-- what is held in a region whose last operation is its only store -/
def RT (w : World) (Pr : List (Nat × MP)) (s : Nat) (T : (Nat → Value) → World → Prop) : (Nat → Bool) → (Nat → Value) → World → Prop := fun done u W => (done s = false → RP w Pr done u W) ∧ (done s = true → T u W)
theorem RT.of {w : World} {Pr : List (Nat × MP)} {s i : Nat} {T : (Nat → Value) → World → Prop} {done : Nat → Bool} {u : Nat → Value} (hs : done s = false) (hi : (s == i) = false) (h : RP w Pr (upd done i) u W) : RT w Pr s T (upd done i) u W :=
  ⟨fun _ => h, fun h2 => by rw [upd_ne (by simpa using hi), hs] at h2; cases h2⟩
theorem RT.fin {w : World} {Pr : List (Nat × MP)} {s : Nat} {T : (Nat → Value) → World → Prop} {done : Nat → Bool} {u : Nat → Value} (h : T u W) : RT w Pr s T (upd done s) u W :=
  ⟨fun h2 => absurd h2 (by rw [upd_self]; decide), fun _ => h⟩
theorem regionS {ro : Option Nat} {n : Nat} {L : List (Nat × Value)} {D : List Deferred} {Q : Exit → Act → World → Prop} {id : Nat} {l : List Oper} {d : Bool} {w : World} {a : Act} (F : Fr a n L D) (vs : List (Option Value)) (Pr : List (Nat × MP)) (s : Nat) (T : (Nat → Value) → World → Prop) (hm : P.follows .mixedOrders = true) (ok : RegOk l vs n) (hsl : s < l.length)
    (hstep : AllIdx (StepX P l vs L Q (RT w Pr s T)) l 0)
    (hfin : ∀ (A : Act) (u : Nat → Value) (W : World), A.tmps.size = n → A.defers = D → (∀ s v, lastAt l vs L s = some v → A.tmps[s]? = some v) → (∀ j d, ((l[j]?).bind fun o : Oper => o.dst) = some d → A.tmps[d]? = some (u j)) → T u W → Q .normal A W) :
    (Code.region id l.toArray d).wpIn (FW ro) 0 P Q a w :=
  region_xi F vs (RT w Pr s T) hm ok (fun _ => ⟨⟨fun _ => ⟨Gr.refl _, fun _ _ _ h => by cases h⟩, fun h => by cases h⟩, ⟨fun _ => ⟨Gr.drew _, fun _ _ _ h => by cases h⟩, fun h => by cases h⟩⟩) hstep
    (fun A u W h1 h2 h3 h4 h5 => hfin A u W h1 h2 h3 h4 (h5.2 (by simpa using hsl)))
end Y
theorem X.quoI {P : Program} {W : World} {t : TypeId} (_hu : P.underlying t = some (.int .i64)) {x y : Operand} {p q z : Int} (hz : p / q = z) (h0 : 0 ≤ p ∧ p ≤ 9223372036854775807) (h1 : 0 < q) : (do eqGuard .quo t x y (.int .i64 p) (.int .i64 q); binOp .quo t (.int .i64 p) (.int .i64 q) : Sem Value).run P W = .ok (.int .i64 z) W := by
  have hd : p.tdiv q = p / q := Int.tdiv_eq_ediv_of_nonneg h0.1
  have h2 : 0 ≤ p / q := Int.ediv_nonneg h0.1 (by omega)
  have h3 : p / q ≤ p := Int.ediv_le_self q h0.1
  have hne : ¬ q = 0 := by omega
  subst hz
  have hw := IntWalk.i64_in (p / q) ⟨by omega, by omega⟩
  simp [eqGuard, binOp, Op.intDiv, go_sem, hne, hd, hw]
end
section
open Go.RowKit

/-- **A RANGE OVER A FUNCTION.** D: the heap's size where the loop begins. -/
theorem range_rule2 {P : Program} {α : Type} {g : Operand} {ps : Array Tmp} {assign body : Code} {Q : Exit → Act → World → Prop} {a : Act} {w : World} {gf : Nat} {lb : Array Value}
    (hg : a.eval g = .func (.func gf) #[] lb) (eg : ∀ args w, (callFunc gf args).run P w = .ok (.enter gf args) w)
    (I : List α → World → Prop) (Ix : Code → World → Prop) (Y : Nat → Prop) (E : List α → α → Array Value → World → Prop) (S : List α → Prop) (a₁ : Array Value → Act)
    (hY0 : ¬ Y w.heap.size) (hY1 : ¬ Y (w.heap.size + 1))
    (hI : ∀ xs W o, I xs W → I xs (W.putObj (w.heap.size + 1) (.loop o))) (hIx : ∀ c W o, Ix c W → Ix c (W.putObj (w.heap.size + 1) (.loop o)))
    (hEs : ∀ pre x args W, E pre x args W → args.size = ps.size) (hEp : ∀ pre x args W o, E pre x args W → E pre x args (W.putObj (w.heap.size + 1) (.loop o)))
    (h0 : I [] w) (hIa : ∀ xs W o, I xs W → I xs (W.alloc o))
    (hassign : ∀ (l : Nat) (pre : List α) (x : α) (args : Array Value) (W : World) (K : Act → World → Prop), E pre x args W → K (a₁ args) W →
      assign.wpIn (Fence.wide.inRound l) 0 P (Exit.then K (fun _ _ _ => False)) { tmps := (ps.zip args).foldl (fun t (p, v) => t.setIfInBounds p v) a.tmps, defers := [] } W)
    (hbody : ∀ (pre : List α) (x : α) (args : Array Value) (W : World), I pre W → E pre x args W → w.heap.size + 1 < W.heap.size → body.wpIn (Fence.wide.inRound (w.heap.size + 1)) 0 P (roundQ Y I Ix (pre ++ [x]) W) (a₁ args) W)
    (hiter : ∀ (L : Loop), L.state = .ready → L.pending = none →
      (∀ pre x args W, Between w.heap.size L I pre W → E pre x args W → YieldAt Fence.wide 0 P (w.heap.size + 1) args W fun e W' =>
        (e = .returned (.bool true) ∧ Between w.heap.size L I (pre ++ [x]) W' ∧ Only Y W W') ∨ (e = .returned (.bool false) ∧ Left w.heap.size L Ix W')) →
      Between w.heap.size L I [] ((w.alloc (.deferred (some []))).alloc (.loop L)) →
      CallsIn Fence.wide 0 P gf (#[.func (.yield (w.heap.size + 1)) #[] #[]] ++ lb) ((w.alloc (.deferred (some []))).alloc (.loop L)) fun e W' =>
        (∃ v, e = .returned v) ∧ ((∃ xs, S xs ∧ Between w.heap.size L I xs W') ∨ Left w.heap.size L Ix W'))
    (hdone : ∀ (xs : List α) (W : World), S xs → I xs W → W.heap[w.heap.size]? = some (.deferred (some [])) → Q .normal { a with defers := { target := .collected w.heap.size, args := #[] } :: a.defers } W)
    (hstop : ∀ (c : Code) (W : World), Ix c W → W.heap[w.heap.size]? = some (.deferred (some [])) → c.wpIn Fence.wide 0 P Q { a with defers := { target := .collected w.heap.size, args := #[] } :: a.defers } W) :
    (Code.rangeFunc g ps assign body).wp P Q a w := by
  refine (wpIn_wide (n := 0)).1 ?_
  refine wpIn_rangeFunc ?_
  intro fn hfn
  obtain ⟨L, hL⟩ : ∃ L : Loop, L = { state := .ready, pending := none, fn, tmps := a.tmps, params := ps, assign, body, defers := w.heap.size } := ⟨_, rfl⟩
  obtain ⟨W1, hW1⟩ : ∃ W1, (w.alloc (.deferred (some []))).alloc (.loop L) = W1 := ⟨_, rfl⟩
  have hL1 : W1.heap[w.heap.size + 1]? = some (.loop L) := by
    rw [← hW1]; have := World.alloc_heap_new (w.alloc (.deferred (some []))) (.loop L); rwa [World.size_alloc] at this
  have hK1 : W1.heap[w.heap.size]? = some (.deferred (some [])) := by
    rw [← hW1]; exact (Below.heap_alloc _ _ _ (by simp)).trans (World.alloc_heap_new w _)
  have hI1 : I [] W1 := by rw [← hW1]; exact hIa _ _ _ (hIa _ _ _ h0)
  refine ⟨w.heap.size + 1, [{ target := .collected w.heap.size, args := #[] }], W1, { target := .fn (.func gf) lb, args := #[.func (.yield (w.heap.size + 1)) #[] #[]] }, W1, gf,
    #[.func (.yield (w.heap.size + 1)) #[] #[]] ++ lb, W1, ?_, ?_, fun _ _ => trivial, ?_, fun h => by simp [Fence.wide] at h, ?_⟩
  · rw [← hW1, hL]; exact run_enterLoop_outer _ _ _ _ _
  · simp only [resolve, hg]
    simp [go_sem]
  · simp [invoke, go_sem, eg]
  · have hit := hiter L (by rw [hL]) (by rw [hL])
    rw [hW1] at hit
    refine (hit ?_ ⟨hI1, hL1, hK1⟩).mono ?_
    · rintro pre x args W ⟨hi, hl, hk⟩ hE
      have hlt : w.heap.size + 1 < W.heap.size := (Array.getElem?_eq_some_iff.1 hl).1
      have hy := run_yield (P := P) (args := args) hl (by rw [hL]; exact hEs pre x args W hE)
      rw [hL] at hy
      refine ⟨fn, _, assign, body, hy, roundIn_of_wpIn (F := Fence.wide) trivial (hassign _ pre x args W _ hE ⟨_, run_beginRound hl (by rw [hL]), ?_⟩)⟩
      have hl2 : (W.putObj (w.heap.size + 1) (.loop { L with state := .busy })).heap[w.heap.size + 1]? = some (.loop { L with state := .busy }) := World.putObj_heap_same hlt
      have hk2 : (W.putObj (w.heap.size + 1) (.loop { L with state := .busy })).heap[w.heap.size]? = some (.deferred (some [])) := (World.putObj_heap_other (by omega)).trans hk
      have hsz2 : (W.putObj (w.heap.size + 1) (.loop { L with state := .busy })).heap.size = W.heap.size := by simp
      refine wpIn_mono (hbody pre x args _ (hI _ _ _ hi) (hEp _ _ _ _ _ hE) (by rw [hsz2]; exact hlt)) ?_
      have hrest : ∀ (W3 : World) (o : Loop), Only Y (W.putObj (w.heap.size + 1) (.loop { L with state := .busy })) W3 → (W3.putObj (w.heap.size + 1) (.loop o)).heap[w.heap.size]? = some (.deferred (some [])) := fun W3 o ho =>
        (World.putObj_heap_other (by omega)).trans ((ho.block _ (by rw [hsz2]; omega) hY0).trans hk2)
      have hl3 : ∀ (W3 : World), Only Y (W.putObj (w.heap.size + 1) (.loop { L with state := .busy })) W3 → W3.heap[w.heap.size + 1]? = some (.loop { L with state := .busy }) := fun W3 ho =>
        (ho.block _ (by rw [hsz2]; omega) hY1).trans hl2
      rintro e a3 W3 hp
      cases e with
      | normal =>
        obtain ⟨ho, hi3⟩ := hp
        have hl4 := hl3 W3 ho
        have hlt4 : w.heap.size + 1 < W3.heap.size := (Array.getElem?_eq_some_iff.1 hl4).1
        have hrun := run_endRound (P := P) none hl4
        have hLL : ({ ({ L with state := .busy } : Loop) with state := if (none : Option Code).isNone then .ready else .done, pending := none } : Loop) = L := by rw [hL]; rfl
        rw [hLL] at hrun
        refine ⟨_, _, hrun, .inl ⟨rfl, ⟨hI _ _ _ hi3, World.putObj_heap_same hlt4, hrest W3 L ho⟩, ?_⟩⟩
        refine ⟨ho.os, ho.tape, ho.output, by have := ho.size; simp at this ⊢; exact this, fun b hb hn => ?_⟩
        by_cases e : b = w.heap.size + 1
        · subst e; rw [World.putObj_heap_same hlt4, hl]
        · rw [World.putObj_heap_other e, ho.block b (by rw [hsz2]; exact hb) hn, World.putObj_heap_other e]
      | ret =>
        obtain ⟨ho, hi3⟩ := hp
        have hl4 := hl3 W3 ho
        have hlt4 : w.heap.size + 1 < W3.heap.size := (Array.getElem?_eq_some_iff.1 hl4).1
        have hrun := run_endRound (P := P) (some .ret) hl4
        exact ⟨_, _, hrun, .inr ⟨rfl, .ret, hIx _ _ _ hi3, World.putObj_heap_same hlt4, hrest W3 _ ho⟩⟩
      | exit id =>
        obtain ⟨ho, hi3⟩ := hp
        have hl4 := hl3 W3 ho
        have hlt4 : w.heap.size + 1 < W3.heap.size := (Array.getElem?_eq_some_iff.1 hl4).1
        have hrun := run_endRound (P := P) (some (.exit id)) hl4
        exact ⟨_, _, hrun, .inr ⟨rfl, .exit id, hIx _ _ _ hi3, World.putObj_heap_same hlt4, hrest W3 _ ho⟩⟩
      | goto t => exact hp.elim
      | panic ch => exact hp.elim
      | outgrown => exact hp.elim
    · rintro e W2 ⟨⟨v, rfl⟩, (⟨xs, hS, hi, hl, hk⟩ | ⟨c, hi, hl, hk⟩)⟩
      · refine ⟨L.pending, _, run_endLoop (P := P) hl (by rw [hL]; simp), ?_⟩
        have : L.pending = none := by rw [hL]
        rw [this]
        exact hdone xs _ hS (hI _ _ _ hi) ((World.putObj_heap_other (by omega)).trans hk)
      · refine ⟨some c, _, run_endLoop (P := P) hl (by simp), ?_⟩
        exact hstop c _ (hIx _ _ _ hi) ((World.putObj_heap_other (by omega)).trans hk)

/-- what a round is handed -/
def SArg2 (wB w : World) (S : Nat → Prop) (f : Fl) (lo hi : List Int) (n : Nat) (pre : List (List Int)) (x : List Int) (args : Array Value) (W : World) : Prop :=
  ∃ ad c, args = #[.slice (some ad) n c] ∧ Ints W (some ad) n x ∧ w.heap.size + 4 < ad.block ∧ (∃ rest, enum f lo hi n [] = pre ++ x :: rest) ∧ StOk f x ∧ worksB f x = true ∧ Only S wB W ∧ Is3 W ad.block

theorem range_states2 {g : Operand} {pt : Tmp} {assign body : Code} {Q : Exit → Act → World → Prop} {a : Act} {w wB : World} {S Y : Nat → Prop} {f : Fl} {ta ca fa toa : Option Addr} {tn tc cn cc n fc toc : Nat} {lo hi : List Int} {bfr bfl bto : Nat}
    (hg : a.eval g = .func (.func 90) #[] #[.pointer (some ⟨bfr, 0, none⟩), .pointer (some ⟨bfl, 0, none⟩), .pointer (some ⟨bto, 0, none⟩)])
    (hb : SBase wB S f ta tn ca cn fa toa n lo hi) (hbase : Only S wB w) (hYS : ∀ b, Y b → S b) (hYlt : ∀ b, Y b → b < w.heap.size)
    (c1 : w.cell? ⟨bfr, 0, none⟩ = some (.slice fa n fc)) (c2 : w.cell? ⟨bfl, 0, none⟩ = some (.slice ta tn tc)) (c3 : w.cell? ⟨bfl, 1, none⟩ = some (.slice ca cn cc)) (c4 : w.cell? ⟨bto, 0, none⟩ = some (.slice toa n toc))
    (n1 : ¬ Y bfr) (n2 : ¬ Y bfl) (n3 : ¬ Y bto) (I : List (List Int) → World → Prop) (Ix : Code → World → Prop)
    (h0 : I [] w) (hI : ∀ xs W W', I xs W → Only (fun b => b = w.heap.size + 1 ∨ b = w.heap.size + 4) W W' → I xs W')
    (hIx : ∀ c W W', Ix c W → Only (fun b => b = w.heap.size + 1) W W' → Ix c W') (a₁ : Value → Act)
    (hassign : ∀ (l : Nat) (v : Value) (W : World) (K : Act → World → Prop), K (a₁ v) W → assign.wpIn (Fence.wide.inRound l) 0 Try.prog (Exit.then K (fun _ _ _ => False)) { tmps := a.tmps.setIfInBounds pt v, defers := [] } W)
    (hbody : ∀ (pre : List (List Int)) (x : List Int) (ad : Addr) (c : Nat) (W : World), I pre W → Only S wB W → Ints W (some ad) n x → w.heap.size + 4 < ad.block → Is3 W ad.block → (∃ rest, enum f lo hi n [] = pre ++ x :: rest) → StOk f x → worksB f x = true →
      body.wpIn (Fence.wide.inRound (w.heap.size + 1)) 0 Try.prog (roundQ Y I Ix (pre ++ [x]) W) (a₁ (.slice (some ad) n c)) W)
    (hdone : ∀ (W : World), I (enum f lo hi n []) W → W.heap[w.heap.size]? = some (.deferred (some [])) → Q .normal { a with defers := { target := .collected w.heap.size, args := #[] } :: a.defers } W)
    (hstop : ∀ (c : Code) (W : World), Ix c W → W.heap[w.heap.size]? = some (.deferred (some [])) → c.wpIn Fence.wide 0 Try.prog Q { a with defers := { target := .collected w.heap.size, args := #[] } :: a.defers } W) :
    (Code.rangeFunc g #[pt] assign body).wp Try.prog Q a w := by
  have hsz := hbase.size
  refine range_rule2 (P := Try.prog) (α := List Int) (gf := 90) (lb := #[.pointer (some ⟨bfr, 0, none⟩), .pointer (some ⟨bfl, 0, none⟩), .pointer (some ⟨bto, 0, none⟩)]) hg (Go.Proofs.enters_of Try.func90 (by kernel_rfl) rfl)
    I Ix Y (SArg2 wB w S f lo hi n) (fun xs => xs = enum f lo hi n []) (fun args => a₁ (args.getD 0 undef)) (fun h => by have := hYlt _ h; omega) (fun h => by have := hYlt _ h; omega)
    (fun xs W o h => hI xs W _ h ((putObj_only _ _ _).mono' (fun i e => .inl e))) (fun c W o h => hIx c W _ h (putObj_only _ _ _))
    (fun pre x args W h => by obtain ⟨ad, c, rfl, _⟩ := h; rfl)
    (fun pre x args W o h => by
      obtain ⟨ad, c, h1, h2, h3, h4, h5, h6, h7, h8⟩ := h
      exact ⟨ad, c, h1, h2.onlyAt (putObj_only _ _ _) (fun ad' e hS => by cases e; omega), h3, h4, h5, h6, h7.trans ((putObj_only _ _ _).mono' (fun i e => by subst e; exact hb.new _ (by omega))), h8.only (putObj_only _ _ _) (by omega)⟩)
    h0 (fun xs W o h => hI xs W _ h (alloc_only _ _ _)) (fun l pre x args W K hE hK => by
      obtain ⟨ad, c, rfl, _⟩ := hE
      have h1 := hassign l (.slice (some ad) n c) W K hK
      simpa using h1)
    (fun pre x args W hi hE _ => by
      obtain ⟨ad, c, rfl, h2, h3, h4, h5, h6, h7, h8⟩ := hE
      exact hbody pre x ad c W hi h7 h2 h3 h8 h4 h5 h6) ?_ (fun xs W hS hi hk => by subst hS; exact hdone W hi hk) hstop
  intro L hLs hLp hyield hstart
  obtain ⟨W0, hW0⟩ : ∃ W0, (w.alloc (.deferred (some []))).alloc (.loop L) = W0 := ⟨_, rfl⟩
  have g0 : Gr w W0 := by rw [← hW0]; exact (Gr.alloc _ _).allocR _
  have s0 : W0.heap.size = w.heap.size + 2 := by rw [← hW0]; simp
  rw [hW0] at hstart ⊢
  refine callsIn_wide.2 ?_
  have hcall := states1_any wB W0 S Y (Between w.heap.size L I) (Left w.heap.size L Ix) f ta ca fa toa tn tc cn cc n fc toc lo hi bfr bfl bto (w.heap.size + 1) hb (hbase.thenGr g0) hYS (fun b h => Nat.lt_of_lt_of_le (hYlt b h) g0.size)
    ((g0.cell (lt_cell c1)).trans c1) ((g0.cell (lt_cell c2)).trans c2) ((g0.cell (lt_cell c3)).trans c3) ((g0.cell (lt_cell c4)).trans c4) n1 n2 n3 hstart
    (fun done W W' h ho => by
      rw [s0] at ho
      obtain ⟨hi, hl, hk⟩ := h
      have l1 := (Array.getElem?_eq_some_iff.1 hl).1
      have l2 := (Array.getElem?_eq_some_iff.1 hk).1
      exact ⟨hI _ _ _ hi (ho.mono' (fun i e => .inr e)), (ho.block _ l1 (by omega)).trans hl, (ho.block _ l2 (by omega)).trans hk⟩)
    (fun W W' h g => by
      obtain ⟨c, hi, hl, hk⟩ := h
      have l1 := (Array.getElem?_eq_some_iff.1 hl).1
      have l2 := (Array.getElem?_eq_some_iff.1 hk).1
      exact ⟨c, hIx _ _ _ hi (g.only _), (g.below.block _ l1).trans hl, (g.below.block _ l2).trans hk⟩)
    (fun done x rest W ad c hj hon hin h3 hp hall hst hw => by
      have hE : SArg2 wB w S f lo hi n done x #[.slice (some ad) n c] W := ⟨ad, c, rfl, hin, by omega, ⟨rest, hall⟩, hst, hw, hon, h3⟩
      exact (hyield done x _ W hj hE).mono (fun e W' h => by
        rcases h with ⟨h1, h2, h3⟩ | ⟨h1, h2⟩
        · exact .inl ⟨h1, h2, h3⟩
        · exact .inr ⟨h1, h2⟩))
  refine hcall.mono (fun e W' h => ?_)
  obtain ⟨hv, h | h⟩ := h
  · exact ⟨hv, .inl ⟨_, rfl, h⟩⟩
  · exact ⟨hv, .inr h⟩
end
section
open Go.RowKit

/-- all states that work and go on from pre by k more computers -/
def enumR (f : Fl) : Nat → List Int → List (List Int)
  | 0, pre => if worksB f pre then [pre] else []
  | k + 1, pre => (List.range ((f.times[pre.length]?.getD []).length + 1)).flatMap fun (i : Nat) => enumR f k (pre ++ [(i : Int)])
def zeros (f : Fl) : List Int := List.replicate f.times.length 0
def newestV (f : Fl) : List Int := f.times.map fun l => (l.length : Int)
theorem enumR_eq (f : Fl) : ∀ (k : Nat) (pre : List Int), pre.length + k = f.times.length → enumR f k pre = enum f (zeros f) (newestV f) k pre := by
  intro k
  induction k with
  | zero => intro pre _; rfl
  | succ k ih =>
    intro pre h
    have hl : pre.length < f.times.length := by omega
    have h0 : (zeros f)[pre.length]?.getD 0 = 0 := by simp [zeros, hl]
    have h1 : (newestV f)[pre.length]?.getD 0 = ((f.times[pre.length]?.getD []).length : Int) := by simp [newestV, hl]
    simp only [enumR, enum, h0, h1]
    rw [show ((((f.times[pre.length]?.getD []).length : Int) - 0 + 1).toNat) = (f.times[pre.length]?.getD []).length + 1 by omega]
    congr 1
    funext i
    rw [ih (pre ++ [(i : Int)]) (by simp; omega)]
    simp

/-- the part of a level that is done -/
def enumTo2 (f : Fl) (k : Nat) (pre : List Int) (i : Nat) : List (List Int) := (List.range i).flatMap fun (j : Nat) => enumR f k (pre ++ [(j : Int)])
theorem enumTo2_succ (f : Fl) (k : Nat) (pre : List Int) (i : Nat) : enumTo2 f k pre (i + 1) = enumTo2 f k pre i ++ enumR f k (pre ++ [(i : Int)]) := by
  unfold enumTo2; rw [List.range_succ, List.flatMap_append]; simp

/-- the beginning of a state is valid -/
def PreOk (f : Fl) (pre : List Int) : Prop := ∀ c, c < pre.length → 0 ≤ pre[c]?.getD 0 ∧ pre[c]?.getD 0 ≤ ((f.times[c]?.getD []).length : Int)
theorem PreOk.st {f : Fl} {pre : List Int} (h : PreOk f pre) (hl : pre.length = f.times.length) : StOk f pre := ⟨hl, fun c hc => h c (by omega)⟩
theorem PreOk.snoc {f : Fl} {pre : List Int} (h : PreOk f pre) {i : Nat} (hi : i ≤ (f.times[pre.length]?.getD []).length) : PreOk f (pre ++ [(i : Int)]) := by
  intro c hc
  by_cases e : c = pre.length
  · subst e; simp; exact hi
  · have hc' : c < pre.length := by simp at hc; omega
    rw [List.getElem?_append_left hc']; exact h c hc'
theorem PreOk.nil (f : Fl) : PreOk f [] := fun c hc => by simp at hc
theorem enumR_ok {f : Fl} : ∀ (k : Nat) (pre : List Int), pre.length + k = f.times.length → PreOk f pre → ∀ x ∈ enumR f k pre, StOk f x ∧ worksB f x = true := by
  intro k
  induction k with
  | zero =>
    intro pre hl hp x hx
    simp only [enumR] at hx
    split at hx
    · simp at hx; subst hx; exact ⟨hp.st (by omega), by assumption⟩
    · simp at hx
  | succ k ih =>
    intro pre hl hp x hx
    simp only [enumR, List.mem_flatMap, List.mem_range] at hx
    obtain ⟨i, hi, hx⟩ := hx
    exact ih _ (by simp; omega) (hp.snoc (by omega)) x hx
theorem flatMap_len {α β : Type} (g : α → List β) (b : Nat) : ∀ (l : List α), (∀ x ∈ l, (g x).length ≤ b) → (l.flatMap g).length ≤ l.length * b := by
  intro l
  induction l with
  | nil => intro _; simp
  | cons a l ih =>
    intro h
    rw [List.flatMap_cons, List.length_append, List.length_cons, Nat.succ_mul]
    have := h a (by simp)
    have := ih (fun x hx => h x (by simp [hx]))
    omega
theorem enumR_len {f : Fl} (hok : FlOk f) : ∀ (k : Nat) (pre : List Int), pre.length + k = f.times.length → (enumR f k pre).length ≤ 4 ^ k := by
  intro k
  induction k with
  | zero => intro pre _; simp only [enumR]; split <;> simp
  | succ k ih =>
    intro pre hl
    have h3 := hok.row pre.length (by omega)
    have h1 := flatMap_len (fun (i : Nat) => enumR f k (pre ++ [(i : Int)])) (4 ^ k) (List.range ((f.times[pre.length]?.getD []).length + 1)) (fun i _ => ih _ (by simp; omega))
    simp only [enumR]
    rw [List.length_range] at h1
    have h2 : ((f.times[pre.length]?.getD []).length + 1) * 4 ^ k ≤ 4 * 4 ^ k := Nat.mul_le_mul_right _ (by omega)
    rw [Nat.pow_succ]; omega
theorem enumTo2_len {f : Fl} (hok : FlOk f) {k : Nat} {pre : List Int} (hl : pre.length + (k + 1) = f.times.length) {i : Nat} (hi : i ≤ (f.times[pre.length]?.getD []).length + 1) : (enumTo2 f k pre i).length ≤ 4096 := by
  have h3 := hok.row pre.length (by omega)
  have h6 := hok.n6
  have h1 := flatMap_len (fun (j : Nat) => enumR f k (pre ++ [(j : Int)])) (4 ^ k) (List.range i) (fun j _ => enumR_len hok k _ (by simp; omega))
  rw [List.length_range] at h1
  have h2 : i * 4 ^ k ≤ 4 * 4 ^ k := Nat.mul_le_mul_right _ (by omega)
  have h4 : 4 ^ k ≤ 4 ^ 5 := Nat.pow_le_pow_right (by omega) (by omega)
  have h5 : (4 : Nat) ^ 5 = 1024 := by decide
  unfold enumTo2; omega

theorem OutR.mono {w : World} {B B' : Nat} {v : Value} {L : List (List Int)} (h : OutR w B' v L) (hb : B ≤ B') : OutR w B v L := by
  obtain ⟨xs, h1, h2⟩ := h
  refine ⟨xs, ⟨h1.1, ?_⟩, h2⟩
  rcases h1.2 with h3 | ⟨g, cap, cur, e, h4, h5⟩
  · exact .inl h3
  · exact .inr ⟨g, cap, cur, e, Nat.le_trans hb h4, h5⟩
/-- append of a whole list of states to the list that a call collects -/
theorem wp_pushAll {o : Oper} {a : Act} {w1 W : World} {K : Act → World → Prop} {Q : Exit → Act → World → Prop} {s x : Operand} {v v2 : Value} {L M : List (List Int)} {B2 : Nat}
    (ho : o.op = .call { callee := .builtin .append, args := #[s, x], argTypes := #[22, 22] }) (hs : a.eval s = v) (hx : a.eval x = v2)
    (hO : OutR W w1.heap.size v L) (hM : OutR W B2 v2 M) (h1 : Gr w1 W) (hl : L.length ≤ 1000000) (hm : M.length ≤ 1000000)
    (h : ∀ v' w', OutR w' w1.heap.size v' (L ++ M) → Gr w1 w' → K (a.put o.dst v') w') : o.wp Try.prog a W K Q := by
  obtain ⟨i0, hi, hz0, hz1, hz2⟩ := info_parts Try.info26
  obtain ⟨ov, hown, hrw⟩ := hO
  obtain ⟨mv, hmown, hmrw⟩ := hM
  by_cases hm0 : M.length = 0
  · have hM0 : M = [] := List.eq_nil_of_length_eq_zero hm0
    subst hM0
    obtain ⟨pa, pc, rfl⟩ : ∃ pa pc, v2 = .slice pa 0 pc := by
      rcases hmown.2 with ⟨rfl, _⟩ | ⟨g, cap, cur, rfl, _⟩
      · exact ⟨_, _, rfl⟩
      · exact ⟨_, _, rfl⟩
    have hsrc := src_none W pa pc
    rw [← hz1] at hsrc
    obtain ⟨va, vn, vc, rfl, hvn⟩ : ∃ va vn vc, v = .slice va vn vc ∧ vn ≤ vc := by
      rcases hown.2 with ⟨rfl, _⟩ | ⟨g, cap, cur, rfl, _, _, hnc, _⟩
      · exact ⟨_, _, _, rfl, Nat.le_refl _⟩
      · exact ⟨_, _, _, rfl, hnc⟩
    have hrun := run_append_nothing (P := Try.prog) W 22 22 o.type 26 i0 Try.underlying22 hi va vn vc hvn _ hsrc
    unfold Oper.wp execOp
    simp only [ho, resolve, invoke, builtin, Sem.run_bind, Sem.run_pure, Result.andThen_ok, List.map_toArray, List.map_cons, List.map_nil, hs, hx, hrun]
    rw [← List.append_nil L] at hown hrw
    exact h _ _ ⟨ov, hown, hrw⟩ h1
  · rcases hmown.2 with ⟨_, h0⟩ | ⟨g, cap, cur, rfl, hge, hg, hnc, _, hcs, ht⟩
    · omega
    · have hml : mv.length = M.length := by simpa using hmown.1
      refine wp_append_own W s x 22 ho w1.heap.size 26 i0 (.slice none 0 0) 1 24 Try.underlying22 hi hz0 hz1 hz2 rfl (by decide) v L.length ov hs hown ⟨g, 0, none⟩ M.length cap mv hx (by rw [hml, Nat.mul_one]) (fun j u hu => hmown.cells (g := g) rfl j u hu) (fun u hu => ?_) (by unfold maxLen; omega) (by omega) h1.size (fun v' w' hown' hgrow _ => ?_)
      · obtain ⟨j, hj, e⟩ := List.mem_iff_getElem.1 hu
        obtain ⟨ad, n, c, k1, _, _⟩ := hmrw j (by omega)
        rw [List.getElem?_eq_getElem hj, e] at k1
        cases k1; rfl
      · have hO' := only_grown hgrow
        have hb : ∀ b, v.ownBlock = some b → w1.heap.size ≤ b ∧ ¬ Is3 W b := fun b e => own_block hown e
        have hob : ∀ ad' : Addr, Is3 W ad'.block → ¬ (v.ownBlock = some ad'.block) := fun ad' h e => (hb _ e).2 h
        have hxl : ov.length = L.length := by simpa using hown.1
        refine h v' w' ⟨ov ++ mv, by simpa using hown', fun j hj => ?_⟩ (((h1.only (fun b => w1.heap.size ≤ b)).trans (hO'.mono' (fun i e => (hb i e).1))).gr (fun i hi e => by omega))
        by_cases hjl : j < L.length
        · obtain ⟨ad, n, c, k1, k2, k3⟩ := hrw j hjl
          refine ⟨ad, n, c, by rw [List.getElem?_append_left (by omega)]; exact k1, ?_, k3.only hO' (hob ad k3)⟩
          rw [List.getElem?_append_left hjl]
          exact k2.onlyAt hO' (fun ad2 e => by cases e; exact hob ad k3)
        · have hj2 : j - L.length < M.length := by simp at hj; omega
          obtain ⟨ad, n, c, k1, k2, k3⟩ := hmrw (j - L.length) hj2
          refine ⟨ad, n, c, by rw [List.getElem?_append_right (by omega), hxl]; exact k1, ?_, k3.only hO' (hob ad k3)⟩
          rw [List.getElem?_append_right (by omega)]
          exact k2.onlyAt hO' (fun ad2 e => by cases e; exact hob ad k3)

/-- 'append([]int(nil), xs...)', of none, too -/
theorem wp_copy0 {o : Oper} {a : Act} {W : World} {K : Act → World → Prop} {Q : Exit → Act → World → Prop} {s x : Operand} {sa : Option Addr} {n c : Nat} {y : List Int} {B : Nat}
    (ho : o.op = .call { callee := .builtin .append, args := #[s, x], argTypes := #[26, 26] }) (hs : a.eval s = .slice none 0 0) (hx : a.eval x = .slice sa n c) (hy : Ints W sa n y) (hn : n ≤ 1000000) (hB : B ≤ W.heap.size)
    (h : ∀ v w', OwnI w' B v y → Gr W w' → K (a.put o.dst v) w') : o.wp Try.prog a W K Q := by
  obtain ⟨i0, hi, hz0, hz1, hz2⟩ := info_parts Try.info3
  by_cases h0 : n = 0
  · subst h0
    have hy0 : y = [] := List.eq_nil_of_length_eq_zero hy.len
    subst hy0
    have hsrc : Src Try.prog 1 26 (.slice sa 0 c) 0 [] W := by
      refine ⟨.inl ⟨3, Try.underlying26⟩, fun w' => ?_, ?_, ?_, rfl, fun u hu => by simp at hu⟩
      · simp [Builtin.lenOf]
      · cases sa <;> simp [Builtin.firstCells, loadCells, loadCellsFrom]
      · cases sa <;> simp [Builtin.firstCells, loadCells, loadCellsFrom]
    rw [← hz1] at hsrc
    have hrun := run_append_nothing (P := Try.prog) W 26 26 o.type 3 i0 Try.underlying26 hi none 0 0 (Nat.le_refl _) _ hsrc
    unfold Oper.wp execOp
    simp only [ho, resolve, invoke, builtin, Sem.run_bind, Sem.run_pure, Result.andThen_ok, List.map_toArray, List.map_cons, List.map_nil, hs, hx, hrun]
    exact h _ _ (OwnI.nil _ _) (Gr.refl _)
  · obtain ⟨ad, rfl, hab, _⟩ := hy.at (j := 0) (by omega)
    refine wp_append_own W s x 26 ho B 3 i0 (.int .i64 0) 1 8 Try.underlying26 hi hz0 hz1 hz2 rfl (by decide) _ 0 [] hs (World.ownsRow_nil W _ 3 1) ad n c (y.map (Value.int .i64)) hx (by rw [List.length_map, hy.len, Nat.mul_one]) hy.cells (ints_one y) (by unfold maxLen; omega) (by omega) hB (fun v' w' hown' hgrow _ => ?_)
    refine h v' w' ?_ ((only_grown hgrow).gr (fun i hi e => by simp [Value.ownBlock] at e))
    unfold OwnI
    rw [hy.len]; simpa using hown'

/-- what holds in the region that goes on by one computer -/
structure R81 (w3 w0 : World) (pre : List Int) (v : Int) (vv : Value) (acc rec : List (List Int)) (done : Nat → Bool) (u : Nat → Value) (W : World) : Prop where
  gr : done 8 = false → Gr w3 W
  cp : done 6 = false → done 3 = true → OwnI W w3.heap.size (u 3) pre
  one : done 6 = false → done 5 = true → ∃ g, u 5 = .slice (some ⟨g, 0, none⟩) 1 1 ∧ W.heap[g]? = some (.cells #[.int .i64 v] 3 (0, 0))
  ext : done 7 = false → done 6 = true → OwnI W w3.heap.size (u 6) (pre ++ [v])
  rc : done 8 = false → done 7 = true → ∃ B2, OutR W B2 (u 7) rec
  fin : done 8 = true → OutR W w0.heap.size (u 8) (acc ++ rec) ∧ Gr w0 W
  out : done 9 = true → u 9 = u 8
  old : done 9 = false → u 9 = vv
section
variable {w3 w0 : World} {pre : List Int} {v : Int} {vv : Value} {acc rec : List (List Int)} {done : Nat → Bool} {u : Nat → Value} {W : World}
theorem R81.start (w3 w0 : World) (pre : List Int) (v : Int) (vv : Value) (acc rec : List (List Int)) (u : Nat → Value) (h9 : u 9 = vv) : R81 w3 w0 pre v vv acc rec (fun _ => false) u w3.drew :=
  ⟨(fun _ => Gr.drew _), (fun _ h => by cases h), (fun _ h => by cases h), (fun _ h => by cases h), (fun _ h => by cases h), (fun h => by cases h), (fun h => by cases h), (fun _ => h9)⟩
theorem R81.quiet (h : R81 w3 w0 pre v vv acc rec done u W) {i : Nat} (h3 : 3 ≠ i) (h5 : 5 ≠ i) (h6 : 6 ≠ i) (h7 : 7 ≠ i) (h8 : 8 ≠ i) (h9 : 9 ≠ i) {x : Value} : R81 w3 w0 pre v vv acc rec (upd done i) (fun j => if j = i then x else u j) W := by
  refine ⟨?_, ?_, ?_, ?_, ?_, ?_, ?_, ?_⟩ <;> simp only [upd_ne h3, upd_ne h5, upd_ne h6, upd_ne h7, upd_ne h8, upd_ne h9, if_neg h3, if_neg h5, if_neg h6, if_neg h7, if_neg h8, if_neg h9]
  · exact h.gr
  · exact h.cp
  · exact h.one
  · exact h.ext
  · exact h.rc
  · exact h.fin
  · exact h.out
  · exact h.old
theorem R81.copied (h : R81 w3 w0 pre v vv acc rec done u W) (d6 : done 6 = false) (d7 : done 7 = false) (d8 : done 8 = false) (d9 : done 9 = false) (ho : u 9 = vv) {x : Value} {W' : World} (hx : OwnI W' w3.heap.size x pre) (g : Gr W W') :
    R81 w3 w0 pre v vv acc rec (upd done 3) (fun j => if j = 3 then x else u j) W' := by
  refine ⟨(fun _ => (h.gr d8).trans g), (fun _ _ => by simpa using hx), (fun a b => ?_), (fun a b => ?_), (fun a b => ?_), (fun a => ?_), (fun a => ?_), (fun _ => by simpa using ho)⟩
  · rw [upd_ne (by decide)] at b
    obtain ⟨g0, e, hb⟩ := h.one d6 b
    have hlt := (Array.getElem?_eq_some_iff.1 hb).1
    exact ⟨g0, by simpa using e, ((g.below.block _ hlt)).trans hb⟩
  · rw [upd_ne (by decide), d6] at b; cases b
  · rw [upd_ne (by decide), d7] at b; cases b
  · rw [upd_ne (by decide), d8] at a; cases a
  · rw [upd_ne (by decide), d9] at a; cases a
theorem R81.made (h : R81 w3 w0 pre v vv acc rec done u W) (d6 : done 6 = false) (d7 : done 7 = false) (d8 : done 8 = false) (d9 : done 9 = false) (ho : u 9 = vv) :
    R81 w3 w0 pre v vv acc rec (upd done 5) (fun j => if j = 5 then .slice (some ⟨W.heap.size, 0, none⟩) 1 1 else u j) (W.alloc (.cells #[.int .i64 v] 3)) := by
  have g := Gr.alloc W (.cells #[.int .i64 v] 3)
  refine ⟨(fun _ => (h.gr d8).trans g), (fun a b => ?_), (fun _ _ => ⟨W.heap.size, by simp, World.alloc_heap_new _ _⟩), (fun a b => ?_), (fun a b => ?_), (fun a => ?_), (fun a => ?_), (fun _ => by simpa using ho)⟩
  · rw [upd_ne (by decide)] at b
    simpa using (h.cp d6 b).gr g
  · rw [upd_ne (by decide), d6] at b; cases b
  · rw [upd_ne (by decide), d7] at b; cases b
  · rw [upd_ne (by decide), d8] at a; cases a
  · rw [upd_ne (by decide), d9] at a; cases a
theorem R81.snoc (d7 : done 7 = false) (d8 : done 8 = false) (d9 : done 9 = false) (ho : u 9 = vv) {x : Value} {W' : World} (hx : OwnI W' w3.heap.size x (pre ++ [v])) (g : Gr w3 W') :
    R81 w3 w0 pre v vv acc rec (upd done 6) (fun j => if j = 6 then x else u j) W' := by
  refine ⟨(fun _ => g), (fun a _ => by rw [upd_self] at a; cases a), (fun a _ => by rw [upd_self] at a; cases a), (fun _ _ => by simpa using hx), (fun a b => ?_), (fun a => ?_), (fun a => ?_), (fun _ => by simpa using ho)⟩
  · rw [upd_ne (by decide), d7] at b; cases b
  · rw [upd_ne (by decide), d8] at a; cases a
  · rw [upd_ne (by decide), d9] at a; cases a
theorem R81.called (h : R81 w3 w0 pre v vv acc rec done u W) (d6 : done 6 = true) (d8 : done 8 = false) (d9 : done 9 = false) (ho : u 9 = vv) {x : Value} {W' : World} {B2 : Nat} (hx : OutR W' B2 x rec) (g : Gr W W') :
    R81 w3 w0 pre v vv acc rec (upd done 7) (fun j => if j = 7 then x else u j) W' := by
  refine ⟨(fun _ => (h.gr d8).trans g), (fun a _ => by rw [upd_ne (by decide), d6] at a; cases a), (fun a _ => by rw [upd_ne (by decide), d6] at a; cases a), (fun a _ => by rw [upd_self] at a; cases a), (fun _ _ => ⟨B2, by simpa using hx⟩), (fun a => ?_), (fun a => ?_), (fun _ => by simpa using ho)⟩
  · rw [upd_ne (by decide), d8] at a; cases a
  · rw [upd_ne (by decide), d9] at a; cases a
theorem R81.joined (d6 : done 6 = true) (d7 : done 7 = true) (d9 : done 9 = false) (ho : u 9 = vv) {x : Value} {W' : World} (hx : OutR W' w0.heap.size x (acc ++ rec)) (hg : Gr w0 W') :
    R81 w3 w0 pre v vv acc rec (upd done 8) (fun j => if j = 8 then x else u j) W' := by
  refine ⟨(fun a => by rw [upd_self] at a; cases a), (fun a _ => by rw [upd_ne (by decide), d6] at a; cases a), (fun a _ => by rw [upd_ne (by decide), d6] at a; cases a), (fun a _ => by rw [upd_ne (by decide), d7] at a; cases a), (fun a _ => by rw [upd_self] at a; cases a), (fun _ => ⟨by simpa using hx, hg⟩), (fun a => ?_), (fun _ => by simpa using ho)⟩
  rw [upd_ne (by decide), d9] at a; cases a
theorem R81.last (h : R81 w3 w0 pre v vv acc rec done u W) (d6 : done 6 = true) (d7 : done 7 = true) (d8 : done 8 = true) : R81 w3 w0 pre v vv acc rec (upd done 9) (fun j => if j = 9 then u 8 else u j) W := by
  refine ⟨(fun a => by rw [upd_ne (by decide), d8] at a; cases a), (fun a _ => by rw [upd_ne (by decide), d6] at a; cases a), (fun a _ => by rw [upd_ne (by decide), d6] at a; cases a), (fun a _ => by rw [upd_ne (by decide), d7] at a; cases a), (fun a _ => by rw [upd_ne (by decide), d8] at a; cases a), (fun _ => ?_), (fun _ => by simp), (fun a => by rw [upd_self] at a; cases a)⟩
  have := h.fin d8
  exact ⟨by simpa using this.1, this.2⟩
end
end
section
open Go.RowKit
namespace Y

/-- a slice that holds these numbers -/
def MP.ints (n : Nat) (xs : List Int) : MP := ⟨fun v W => ∃ a c, v = .slice a n c ∧ Ints W a n xs, fun _ _ _ ⟨a, c, h1, h2⟩ g => ⟨a, c, h1, h2.gr g⟩⟩
/-- a new slice of two numbers -/
def MP.two (x y : Int) : MP := ⟨fun v W => ∃ b, v = .slice (some ⟨b, 0, none⟩) 2 2 ∧ W.cell? ⟨b, 0, none⟩ = some (.int .i64 x) ∧ W.cell? ⟨b, 1, none⟩ = some (.int .i64 y),
  fun _ _ _ ⟨b, h1, h2, h3⟩ g => ⟨b, h1, (g.cell (lt_cell h2)).trans h2, (g.cell (lt_cell h3)).trans h3⟩⟩
/-- a slice, in new memory, that holds these numbers -/
def New (B : Nat) (a : Option Addr) : Prop := ∀ ad, a = some ad → B ≤ ad.block
def MP.intsF (B n : Nat) (xs : List Int) : MP := ⟨fun v W => ∃ a c, v = .slice a n c ∧ Ints W a n xs ∧ New B a, fun _ _ _ ⟨a, c, h1, h2, h3⟩ g => ⟨a, c, h1, h2.gr g, h3⟩⟩
/-- the iterator of states -/
def MP.iter (B : Nat) (ta : Option Addr) (tn tc : Nat) (ca : Option Addr) (cn cc n : Nat) (lo hi : List Int) (Pl Ph : Option Addr → Prop) : MP :=
  ⟨fun v W => ∃ bfr bfl bto fa fc toa toc, v = .func (.func 90) #[] #[.pointer (some ⟨bfr, 0, none⟩), .pointer (some ⟨bfl, 0, none⟩), .pointer (some ⟨bto, 0, none⟩)] ∧ W.cell? ⟨bfl, 0, none⟩ = some (.slice ta tn tc) ∧ W.cell? ⟨bfl, 1, none⟩ = some (.slice ca cn cc) ∧ W.cell? ⟨bfr, 0, none⟩ = some (.slice fa n fc) ∧ W.cell? ⟨bto, 0, none⟩ = some (.slice toa n toc) ∧ Ints W fa n lo ∧ Ints W toa n hi ∧ Pl fa ∧ Ph toa ∧ B ≤ bfr ∧ B ≤ bfl ∧ B ≤ bto,
   fun _ _ _ ⟨bfr, bfl, bto, fa, fc, toa, toc, h, h0, h1, h2, h3, h4, h5, h6⟩ g => ⟨bfr, bfl, bto, fa, fc, toa, toc, h, (g.cell (lt_cell h0)).trans h0, (g.cell (lt_cell h1)).trans h1, (g.cell (lt_cell h2)).trans h2, (g.cell (lt_cell h3)).trans h3, h4.gr g, h5.gr g, h6⟩⟩

theorem states_iter (B : Nat) (Pl Ph : Option Addr → Prop) (ta ca fa toa : Option Addr) (tn tc cn cc n fc toc : Nat) (lo hi : List Int) (w : World) (h1 : Ints w fa n lo) (h2 : Ints w toa n hi) (p1 : Pl fa) (p2 : Ph toa) (hB : B ≤ w.heap.size) :
    Calls Try.prog 59 #[.agg #[.slice ta tn tc, .slice ca cn cc], .slice fa n fc, .slice toa n toc] w (fun e w' => ∃ v, e = .returned v ∧ (MP.iter B ta tn tc ca cn cc n lo hi Pl Ph).p v w' ∧ Gr w w') := by
  refine (states_any ta ca fa toa tn tc cn cc n fc n toc w).mono ?_
  intro e w' h
  obtain ⟨g, _, i0, i1, i2, i3⟩ := NewIter.facts h
  exact ⟨_, h.1, ⟨_, _, _, fa, fc, toa, toc, rfl, i0, i1, i2, i3, h1.gr g, h2.gr g, p1, p2, by omega, by omega, by omega⟩, g⟩

theorem ppushI {ops : Array Oper} {rest : List Oper} {o : Oper} {a : Act} {w1 W : World} {Q : Exit → Act → World → Prop} (hgd : o.guard = none) {s x : Operand} {v : Value} {xs : List Int} {g : Nat} {z : Int}
    (ho : o.op = .call { callee := .builtin .append, args := #[s, x], argTypes := #[26, 26] }) (hs : a.eval s = v) (hx : a.eval x = .slice (some ⟨g, 0, none⟩) 1 1)
    (hg : W.heap[g]? = some (.cells #[.int .i64 z] 3)) (hO : OwnI W w1.heap.size v xs) (h1 : Gr w1 W) (hl : xs.length ≤ 1000000)
    (h : ∀ v' w', OwnI w' w1.heap.size v' (xs ++ [z]) → Gr w1 w' → wpL Try.prog ops Q rest (a.put o.dst v') w') : wpL Try.prog ops Q (o :: rest) a W :=
  wpL_plain hgd fun _ hK => wp_pushI ho hs hx hg hO h1 hl (fun v' w' k1 k2 => hK _ _ (h v' w' k1 k2))

theorem _root_.Go.Proofs.Ytlilojpnhmfnaaa.Try.bs26b (x y : Int) (W : World) : (Instr.buildSlice 26 2 #[(0, .int .i64 x), (1, .int .i64 y)]).run Try.prog W = .ok (.slice (some ⟨W.heap.size, 0, none⟩) 2 2) (W.alloc (.cells #[.int .i64 x, .int .i64 y] 3)) := by kernel_rfl
/-- a variable's cell may be written -/
def Fz (W : World) (b : Nat) : Prop := b < W.heap.size ∧ W.frozen? ⟨b, 0, none⟩ = false
theorem Fz.gr {W W' : World} {b : Nat} (h : Fz W b) (g : Gr W W') : Fz W' b := ⟨Nat.lt_of_lt_of_le h.1 g.size, (g.frozen (p := ⟨b, 0, none⟩) h.1).trans h.2⟩
theorem Fz.new {W : World} {b : Nat} {cs : Array Value} {t : TypeId} (h : W.heap[b]? = some (.cells cs t)) : Fz W b := ⟨(Array.getElem?_eq_some_iff.1 h).1, by simp [World.frozen?, h]⟩
/-- one variable is turned; all else that was there stays -/
structure RC (wR : World) (bn : Nat) (v : Value) (W : World) : Prop where
  on : Only (fun b => b = bn ∨ wR.heap.size ≤ b) wR W
  lt : bn < wR.heap.size
  c : W.cell? ⟨bn, 0, none⟩ = some v
  fz : W.frozen? ⟨bn, 0, none⟩ = false
theorem RC.keep {wR W W' : World} {bn k : Nat} {v : Value} (h : RC wR bn v W) (hk : wR.heap.size ≤ k) (g : Only (fun b => b = k + 1 ∨ b = k + 4) W W') : RC wR bn v W' := by
  have h1 := lt_cell h.c
  have hlt := h.lt
  have hb := g.block bn h1 (by omega)
  exact ⟨h.on.trans (g.mono' (fun i e => .inr (by omega))), h.lt, (World.cell?_of_block hb).trans h.c, by have := h.fz; unfold World.frozen? at this ⊢; simp only at this ⊢; rw [hb]; exact this⟩
theorem RC.gr {wR W W' : World} {bn : Nat} {v : Value} (h : RC wR bn v W) (g : Gr W W') : RC wR bn v W' :=
  ⟨h.on.thenGr g, h.lt, (g.cell (lt_cell h.c)).trans h.c, (g.frozen (p := ⟨bn, 0, none⟩) (lt_cell h.c)).trans h.fz⟩
theorem RC.set {wR W : World} {bn : Nat} {v : Value} (h : RC wR bn v W) (v' : Value) : RC wR bn v' (W.setCell ⟨bn, 0, none⟩ v') := by
  have hc := h.c
  have hf := h.fz
  exact ⟨h.on.trans (Only.setCell (Only.refl _ _) (.inl (.inl rfl)) _), h.lt, by simp [go_sem, hc], by simpa using hf⟩
theorem RC.setOnly {wR W W' : World} {bn : Nat} {v : Value} (h : RC wR bn v W') (g : Gr W W') (v' : Value) : Only (fun b => b = bn) W (W'.setCell ⟨bn, 0, none⟩ v') := (g.only _).trans (Only.setCell (S := fun b => b = bn) (Only.refl _ _) (p := ⟨bn, 0, none⟩) (.inl rfl) _)
theorem New.lo {B : Nat} {a : Option Addr} (h : New B a) {B' : Nat} (hb : B' ≤ B) : New B' a := fun ad e => Nat.le_trans hb (h ad e)

theorem RC.grow {w wR W : World} {bn : Nat} {v : Value} (h : RC wR bn v W) (G : Gr w wR) (h0 : w.heap.size ≤ bn) : Gr w W :=
  ((G.only (fun b => w.heap.size ≤ b)).trans (h.on.mono' (fun i e => by have := G.size; omega))).gr (fun i hi e => by omega)
/-- as RC, behind the range, with the block of its mark -/
structure RM (wR : World) (bn : Nat) (v : Value) (W : World) : Prop where
  rc : RC wR bn v W
  mark : W.heap[wR.heap.size]? = some (.deferred (some []))
theorem RM.set {wR W : World} {bn : Nat} {v : Value} (h : RM wR bn v W) (v' : Value) : RM wR bn v' (W.setCell ⟨bn, 0, none⟩ v') := by
  have hlt := h.rc.lt
  exact ⟨h.rc.set v', ((RC.setOnly h.rc (Gr.refl _) v').block _ (Array.getElem?_eq_some_iff.1 h.mark).1 (by omega)).trans h.mark⟩
theorem RM.ret {P : Program} {fn : Func} {R : Ending → World → Prop} {A : Act} {W wR : World} {bn n s t : Nat} {ty : TypeId} {v x : Value} {L : List (Nat × Value)} (h : RM wR bn v W) (F : Fr A n L [{ target := .collected wR.heap.size, args := #[] }]) (hr : fn.results = #[.cell s ty, .tmp t]) (hA : ∀ w, (isAgg ty).run P w = .ok false w)
    (hp : lookS L s = some (.pointer (some ⟨bn, 0, none⟩))) (hx : lookS L t = some x) (hR : ∀ W2, RC wR bn v W2 → Only (fun b => b = wR.heap.size) W W2 → R (.returned (.tuple #[v, x])) W2) : bodyPostM Fence.wide 0 P fn R .ret A W := by
  have hlt := h.rc.lt
  have ho := putObj_only W wR.heap.size (.deferred none)
  have hb := ho.block bn (lt_cell h.rc.c) (by omega)
  have hrc : RC wR bn v (W.putObj wR.heap.size (.deferred none)) := ⟨h.rc.on.trans (ho.mono' (fun i e => .inr (by omega))), h.rc.lt, (World.cell?_of_block hb).trans h.rc.c, by have := h.rc.fz; unfold World.frozen? at this ⊢; simp only at this ⊢; rw [hb]; exact this⟩
  exact ret1 F h.mark (rc2 F hr (hA _) hp hrc.c hx) (hR _ hrc ho)
/-- the data of a whole fleet's states lie apart from one new variable -/
theorem sbase_all {w wR : World} {f : Fl} {ta ca fa toa : Option Addr} {tn cn n bn B : Nat} (hok : FlOk f) (hf : FlAt w ta tn ca cn f) (G : Gr w wR) (h0 : w.heap.size ≤ bn) (hB : bn < B) (hl : f.times.length = n) (hlo : Ints wR fa n (zeros f)) (h1 : New B fa) (hhi : Ints wR toa n (newestV f)) (h2 : New B toa) :
    SBase wR (fun b => b = bn ∨ wR.heap.size ≤ b) f ta tn ca cn fa toa n (zeros f) (newestV f) := by
  have hn1 := hok.n1
  have hlt : ∀ {a : Option Addr} {xs : List Int}, Ints wR a n xs → New B a → ∀ ad, a = some ad → ¬ (ad.block = bn ∨ wR.heap.size ≤ ad.block) := fun {a xs} h hN ad e => by
    obtain ⟨ad', e', hb, _⟩ := h.at (j := 0) (by omega)
    rw [e] at e'
    injection e' with e'
    subst e'
    have := hN ad e
    omega
  refine ⟨hok, hf.gr G, hlo, hhi, fun W g => ⟨hf.gr (((G.only (fun b => w.heap.size ≤ b)).trans (g.mono' (fun i e => by have := G.size; omega))).gr (fun i hi e => by omega)), hlo.onlyAt g (hlt hlo h1), hhi.onlyAt g (hlt hhi h2)⟩, fun b hb => .inr hb, by omega, hl.symm, fun c hc => ?_, fun c hc => ?_⟩
  · simp [zeros, show c < f.times.length by omega]
  · simp [newestV, show c < f.times.length by omega]

variable {N : Nat} {L : List (Nat × Value)} {g : Operand} {pt : Tmp} {body : Code} {Q : Exit → Act → World → Prop} {A : Act} {w wB : World} {S Y : Nat → Prop} {f : Fl} {ta ca fa toa : Option Addr} {tn tc cn cc n fc toc : Nat} {lo hi : List Int} {bfr bfl bto : Nat}
theorem fr_round (F : Fr A N L) {pt : Nat} (hp : pt < N) (v : Value) : Fr { tmps := A.tmps.setIfInBounds pt v, defers := [] } N (X.putS L (some pt) v) := by
  have h := F.put (o := some pt) (v := v) (by simpa using hp)
  exact ⟨h.sz, rfl, h.get⟩
theorem fr_mark (F : Fr A N L) (d : Deferred) : Fr { A with defers := d :: A.defers } N L [d] := ⟨F.sz, by rw [← F.df], F.get⟩

/-- 'for range states(..)' -/
theorem range0 (F : Fr A N L) (hp : pt < N)
    (hg : A.eval g = .func (.func 90) #[] #[.pointer (some ⟨bfr, 0, none⟩), .pointer (some ⟨bfl, 0, none⟩), .pointer (some ⟨bto, 0, none⟩)])
    (hb : SBase wB S f ta tn ca cn fa toa n lo hi) (hbase : Only S wB w) (hYS : ∀ b, Y b → S b) (hYlt : ∀ b, Y b → b < w.heap.size)
    (c1 : w.cell? ⟨bfr, 0, none⟩ = some (.slice fa n fc)) (c2 : w.cell? ⟨bfl, 0, none⟩ = some (.slice ta tn tc)) (c3 : w.cell? ⟨bfl, 1, none⟩ = some (.slice ca cn cc)) (c4 : w.cell? ⟨bto, 0, none⟩ = some (.slice toa n toc))
    (n1 : ¬ Y bfr) (n2 : ¬ Y bfl) (n3 : ¬ Y bto) (I : List (List Int) → World → Prop)
    (h0 : I [] w) (hI : ∀ xs W W', I xs W → Only (fun b => b = w.heap.size + 1 ∨ b = w.heap.size + 4) W W' → I xs W')
    (hbody : ∀ (pre : List (List Int)) (x : List Int) (ad : Addr) (c : Nat) (W : World) (A : Act), I pre W → Only S wB W → Ints W (some ad) n x → w.heap.size + 4 < ad.block → Is3 W ad.block → (∃ rest, enum f lo hi n [] = pre ++ x :: rest) → StOk f x → worksB f x = true → Fr A N (X.putS L (some pt) (.slice (some ad) n c)) →
      body.wpIn (FW (some (w.heap.size + 1))) 0 Try.prog (roundQ Y I (fun _ _ => False) (pre ++ [x]) W) A W)
    (hdone : ∀ (W : World) (A : Act), I (enum f lo hi n []) W → W.heap[w.heap.size]? = some (.deferred (some [])) → Fr A N L [{ target := .collected w.heap.size, args := #[] }] → Q .normal A W) :
    (Code.rangeFunc g #[pt] .skip body).wpIn (FW none) 0 Try.prog Q A w := by
  refine (wpIn_wide (n := 0)).2 ?_
  refine range_states2 (a := A) (a₁ := fun v => { tmps := A.tmps.setIfInBounds pt v, defers := [] }) hg hb hbase hYS hYlt c1 c2 c3 c4 n1 n2 n3 I (fun _ _ => False) h0 hI (fun _ _ _ h _ => h.elim) (fun l v W K hK => wpIn_skip hK) (fun pre x ad c W h1 h2 h3 h4 h5 h6 h7 h8 => ?_) (fun W h1 h2 => ?_) (fun _ _ h => h.elim)
  · exact hbody pre x ad c W _ h1 h2 h3 h4 h5 h6 h7 h8 (fr_round F hp _)
  · exact hdone W _ h1 h2 (fr_mark F _)
/-- 'for x := range states(..)' -/
theorem range1 {id d : Nat} {o : Oper} (F : Fr A N L) (hp : pt < N) (hd : d < N) (ho : o.op = .assign (.tmp pt)) (hgd : o.guard = none) (hdd : o.dst = some d)
    (hg : A.eval g = .func (.func 90) #[] #[.pointer (some ⟨bfr, 0, none⟩), .pointer (some ⟨bfl, 0, none⟩), .pointer (some ⟨bto, 0, none⟩)])
    (hb : SBase wB S f ta tn ca cn fa toa n lo hi) (hbase : Only S wB w) (hYS : ∀ b, Y b → S b) (hYlt : ∀ b, Y b → b < w.heap.size)
    (c1 : w.cell? ⟨bfr, 0, none⟩ = some (.slice fa n fc)) (c2 : w.cell? ⟨bfl, 0, none⟩ = some (.slice ta tn tc)) (c3 : w.cell? ⟨bfl, 1, none⟩ = some (.slice ca cn cc)) (c4 : w.cell? ⟨bto, 0, none⟩ = some (.slice toa n toc))
    (n1 : ¬ Y bfr) (n2 : ¬ Y bfl) (n3 : ¬ Y bto) (I : List (List Int) → World → Prop)
    (h0 : I [] w) (hI : ∀ xs W W', I xs W → Only (fun b => b = w.heap.size + 1 ∨ b = w.heap.size + 4) W W' → I xs W')
    (hbody : ∀ (pre : List (List Int)) (x : List Int) (ad : Addr) (c : Nat) (W : World) (A : Act), I pre W → Only S wB W → Ints W (some ad) n x → w.heap.size + 4 < ad.block → Is3 W ad.block → (∃ rest, enum f lo hi n [] = pre ++ x :: rest) → StOk f x → worksB f x = true → Fr A N (X.putS (X.putS L (some pt) (.slice (some ad) n c)) (some d) (.slice (some ad) n c)) →
      body.wpIn (FW (some (w.heap.size + 1))) 0 Try.prog (roundQ Y I (fun _ _ => False) (pre ++ [x]) W) A W)
    (hdone : ∀ (W : World) (A : Act), I (enum f lo hi n []) W → W.heap[w.heap.size]? = some (.deferred (some [])) → Fr A N L [{ target := .collected w.heap.size, args := #[] }] → Q .normal A W) :
    (Code.rangeFunc g #[pt] (.region id #[o] false) body).wpIn (FW none) 0 Try.prog Q A w := by
  refine (wpIn_wide (n := 0)).2 ?_
  refine range_states2 (a := A) (a₁ := fun v => ({ tmps := A.tmps.setIfInBounds pt v, defers := [] } : Act).put (some d) v) hg hb hbase hYS hYlt c1 c2 c3 c4 n1 n2 n3 I (fun _ _ => False) h0 hI (fun _ _ _ h _ => h.elim) (fun l v W K hK => ?_) (fun pre x ad c W h1 h2 h3 h4 h5 h6 h7 h8 => ?_) (fun W h1 h2 => ?_) (fun _ _ h => h.elim)
  · refine wpIn_region_L (ro := some l) (l := [o]) (by simp [ho]) ?_
    refine wpL_step fun K' hK' => ?_
    rw [if_pos (X.w0 hgd)]
    have hF := fr_round F hp v
    unfold Oper.wp
    rw [X.assign ho (hF.ev pt v (by simp [X.putS, lookS]))]
    refine hK' _ _ ?_
    rw [hdd]
    exact hK
  · exact hbody pre x ad c W _ h1 h2 h3 h4 h5 h6 h7 h8 ((fr_round F hp _).put (o := some d) (by simpa using hd))
  · exact hdone W _ h1 h2 (fr_mark F _)
end Y
end
section
open Go.RowKit

def cmpL : List Int → List Int → Int
  | [], [] => 0
  | [], _ :: _ => -1
  | _ :: _, [] => 1
  | x :: xs, y :: ys => if cmpI x y = 0 then cmpL xs ys else cmpI x y
theorem drop_cons0 {xs : List Int} {k : Nat} (h : k < xs.length) : xs.drop k = xs[k]?.getD 0 :: xs.drop (k + 1) := by
  rw [List.drop_eq_getElem_cons h]; simp [h]
theorem cmp_1 {xs ys : List Int} {k : Nat} (h : k < xs.length) (h2 : ys.length ≤ k) : cmpL (xs.drop k) (ys.drop k) = 1 := by
  rw [drop_cons0 h, List.drop_eq_nil_of_le h2]; rfl
theorem cmp_ne {xs ys : List Int} {k : Nat} (h : k < xs.length) (h2 : k < ys.length) (h3 : ¬ (cmpI (xs[k]?.getD 0) (ys[k]?.getD 0) : Int) = 0) : cmpL (xs.drop k) (ys.drop k) = cmpI (xs[k]?.getD 0) (ys[k]?.getD 0) := by
  rw [drop_cons0 h, drop_cons0 h2]; simp only [cmpL, if_neg h3]
theorem cmp_eq {xs ys : List Int} {k : Nat} (h : k < xs.length) (h2 : k < ys.length) (h3 : (cmpI (xs[k]?.getD 0) (ys[k]?.getD 0) : Int) = 0) : cmpL (xs.drop k) (ys.drop k) = cmpL (xs.drop (k + 1)) (ys.drop (k + 1)) := by
  rw [drop_cons0 h, drop_cons0 h2]; simp only [cmpL, if_pos h3]
theorem cmp_lt {xs ys : List Int} {k : Nat} (h : k = xs.length) (h2 : k < ys.length) : cmpL (xs.drop k) (ys.drop k) = -1 := by
  rw [drop_cons0 h2, List.drop_eq_nil_of_le (by omega)]; rfl
theorem cmp_0 {xs ys : List Int} {k : Nat} (h : k = xs.length) (h2 : ys.length ≤ k) : cmpL (xs.drop k) (ys.drop k) = 0 := by
  rw [List.drop_eq_nil_of_le h2, List.drop_eq_nil_of_le (by omega)]; rfl

set_option maxRecDepth 100000 in
set_option maxHeartbeats 400000 in
theorem cmpL_any (a b : Option Addr) (n c m d : Nat) (xs ys : List Int) (w : World) (hx : Ints w a n xs) (hy : Ints w b m ys) :
    Calls Try.prog 85 #[.slice a n c, .slice b m d] w fun e w' => e = .returned (.int .i64 (cmpL xs ys)) ∧ Gr w w' := by
  have G := Gr.refl w
  refine X.calls 36 Try.func85 rfl rfl ?_
  intro ac F0
  have F : Fr ac 36 [(0, .slice a n c), (1, .slice b m d)] := F0.sub _ (by kernel_rfl)
  clear F0
  refine wp_seq ?_
  refine wp_region_lit ?_
  refine X.pval F (X.w0 rfl) rfl (X.assign rfl (X.kc (.int .i64 0) rfl)) ?_
  clear F ac
  intro ac F
  refine wpList_nil ?_
  replace F : Fr ac 36 [(0, .slice a n c), (1, .slice b m d), (4, .int .i64 0)] := F.sub _ (by kernel_rfl)
  refine X.thenN ?_
  refine wp_seq ?_
  refine wp_seq ?_
  refine wp_region_lit ?_
  refine X.pval F (X.w0 rfl) rfl (X.move rfl (F.ev 0 (.slice a n c) (by kernel_rfl))) ?_
  clear F ac
  intro ac F
  refine X.pval F (X.w0 rfl) rfl (X.len1 Try.underlying26 rfl (F.ev 9 (.slice a n c) (by kernel_rfl))) ?_
  clear F ac
  intro ac F
  refine X.pval F (X.w0 rfl) rfl (X.move rfl (X.kc (.int .i64 0) rfl)) ?_
  clear F ac
  intro ac F
  refine wpList_nil ?_
  replace F : Fr ac 36 [(0, .slice a n c), (1, .slice b m d), (4, .int .i64 0), (9, .slice a n c), (10, .int .i64 n), (11, .int .i64 0)] := F.sub _ (by kernel_rfl)
  refine X.thenN ?_
  refine wp_block ?_
  have hxB := hx
  have hyB := hy
  have GB := G
  refine wp_loop_ghost (fun me_ ac wr => ∃ (k : Nat), me_ = n - k ∧ Gr w wr ∧ k ≤ n ∧ k ≤ m ∧ Hid (cmpL xs ys = cmpL (xs.drop k) (ys.drop k)) ∧ Fr ac 36 [(0, .slice a n c), (1, .slice b m d), (9, .slice a n c), (10, .int .i64 n), (11, .int .i64 k)]) _ ⟨0, rfl, Gr.refl _, Nat.zero_le _, Nat.zero_le _, Lib.hid rfl, F.sub _ (by kernel_rfl)⟩ ?_
  clear F
  intro me_ ac w3 hI
  obtain ⟨k, rfl, gr, hk, hm, HC, F⟩ := hI
  replace G := GB.trans gr
  replace hx := hxB.gr gr
  replace hy := hyB.gr gr
  have GB_ := gr
  clear gr
  refine wp_seq ?_
  refine wp_region_lit ?_
  refine X.pval F (X.w0 rfl) rfl (X.binop rfl (F.ev 11 (.int .i64 k) (by kernel_rfl)) (F.ev 10 (.int .i64 n) (by kernel_rfl)) (X.lssI Try.underlying3 rfl)) ?_
  clear F ac
  intro ac F
  refine wpList_nil ?_
  replace F : Fr ac 36 [(0, .slice a n c), (1, .slice b m d), (9, .slice a n c), (10, .int .i64 n), (11, .int .i64 k), (12, .bool (decide ((k : Int) < n)))] := F.sub _ (by kernel_rfl)
  refine X.thenN ?_
  refine wp_seq ?_
  cases h4 : decide ((k : Int) < n) with
  | false =>
    try rw [h4] at F
    have h4p : ¬ ((k : Int) < n) := of_decide_eq_false h4
    have hkn : k = xs.length := by have := hx.len; omega
    refine wp_cond_false (F.ev 12 (.bool false) (by kernel_rfl)) ?_
    refine wp_exit ?_
    refine X.thenX ?_
    refine X.thenX ?_
    refine X.blockX ?_
    refine X.thenN ?_
    refine wp_seq ?_
    refine wp_seq ?_
    refine wp_region_lit ?_
    refine X.pval F (X.w0 rfl) rfl (X.move rfl (F.ev 0 (.slice a n c) (by kernel_rfl))) ?_
    clear F ac
    intro ac F
    refine X.pval F (X.w0 rfl) rfl (X.len1 Try.underlying26 rfl (F.ev 31 (.slice a n c) (by kernel_rfl))) ?_
    clear F ac
    intro ac F
    refine X.pval F (X.w0 rfl) rfl (X.move rfl (F.ev 1 (.slice b m d) (by kernel_rfl))) ?_
    clear F ac
    intro ac F
    refine X.pval F (X.w0 rfl) rfl (X.len1 Try.underlying26 rfl (F.ev 33 (.slice b m d) (by kernel_rfl))) ?_
    clear F ac
    intro ac F
    refine X.pval F (X.w0 rfl) rfl (X.binop rfl (F.ev 32 (.int .i64 n) (by kernel_rfl)) (F.ev 34 (.int .i64 m) (by kernel_rfl)) (X.lssI Try.underlying3 rfl)) ?_
    clear F ac
    intro ac F
    refine wpList_nil ?_
    replace F : Fr ac 36 [(0, .slice a n c), (1, .slice b m d), (9, .slice a n c), (10, .int .i64 n), (11, .int .i64 k), (12, .bool false), (35, .bool (decide ((n : Int) < m)))] := F.sub _ (by kernel_rfl)
    refine X.thenN ?_
    cases h5 : decide ((n : Int) < m) with
    | false =>
      try rw [h5] at F
      have h5p : ¬ ((n : Int) < m) := of_decide_eq_false h5
      have HR : cmpL xs ys = 0 := by rw [HC.out]; exact cmp_0 hkn (by have := hx.len; have := hy.len; omega)
      refine wp_cond_false (F.ev 35 (.bool false) (by kernel_rfl)) ?_
      refine wp_skip ?_
      refine X.thenN ?_
      refine wp_seq ?_
      refine wp_region_lit ?_
      refine X.pval F (X.w0 rfl) rfl (X.assign rfl (X.kc (.int .i64 0) rfl)) ?_
      clear F ac
      intro ac F
      refine wpList_nil ?_
      replace F : Fr ac 36 [(0, .slice a n c), (1, .slice b m d), (4, .int .i64 0), (9, .slice a n c), (10, .int .i64 n), (11, .int .i64 k), (12, .bool false), (35, .bool false)] := F.sub _ (by kernel_rfl)
      refine X.thenN ?_
      refine wp_ret ?_
      exact X.ret1 (v := .int .i64 0) F rfl (by kernel_rfl) ⟨by rw [HR], G⟩
    | true =>
      try rw [h5] at F
      have h5p : ((n : Int) < m) := of_decide_eq_true h5
      have HR : cmpL xs ys = -1 := by rw [HC.out]; exact cmp_lt hkn (by have := hx.len; have := hy.len; omega)
      refine wp_cond_true (F.ev 35 (.bool true) (by kernel_rfl)) ?_
      refine wp_seq ?_
      refine wp_region_lit ?_
      refine X.pval F (X.w0 rfl) rfl (X.assign rfl (X.kc (.int .i64 (-1)) rfl)) ?_
      clear F ac
      intro ac F
      refine wpList_nil ?_
      replace F : Fr ac 36 [(0, .slice a n c), (1, .slice b m d), (4, .int .i64 (-1)), (9, .slice a n c), (10, .int .i64 n), (11, .int .i64 k), (12, .bool false), (35, .bool true)] := F.sub _ (by kernel_rfl)
      refine X.thenN ?_
      refine wp_ret ?_
      refine X.thenR ?_
      exact X.ret1 (v := .int .i64 (-1)) F rfl (by kernel_rfl) ⟨by rw [HR], G⟩
  | true =>
    try rw [h4] at F
    have h4p : ((k : Int) < n) := of_decide_eq_true h4
    have hlt : k < n := by omega
    have hln := hx.2.1
    obtain ⟨pd, hpa, hpb, hpc⟩ := hx.at hlt
    subst hpa
    have hC : RCells w3 [(pd.add k, .int .i64 (xs[k]?.getD 0))] := (RCells.cons hpc (RCells.nil _))
    refine wp_cond_true (F.ev 12 (.bool true) (by kernel_rfl)) ?_
    refine wp_skip ?_
    refine X.thenN ?_
    refine wp_seq ?_
    refine wp_block ?_
    refine wp_seq ?_
    refine wp_region_lit ?_
    refine X.pval F (X.w0 rfl) rfl (X.move rfl (F.ev 11 (.int .i64 k) (by kernel_rfl))) ?_
    clear F ac
    intro ac F
    refine X.pval F (X.w0 rfl) rfl (X.index rfl (F.ev 9 (.slice (some pd) n c) (by kernel_rfl)) (F.ev 11 (.int .i64 k) (by kernel_rfl)) (X.idx Try.underlying26 (Try.siz3 _) (by omega) rfl (by rw [Nat.mul_one]))) ?_
    clear F ac
    intro ac F
    refine X.pval F (X.w0 rfl) rfl (X.load rfl (F.ev 14 (.pointer (some (pd.add k))) (by kernel_rfl)) (X.ld1 (Try.agg3 _) (hC.at 0 rfl))) ?_
    clear F ac
    intro ac F
    refine X.pval F (X.w0 rfl) rfl (X.assign rfl (F.ev 13 (.int .i64 k) (by kernel_rfl))) ?_
    clear F ac
    intro ac F
    refine X.pval F (X.w0 rfl) rfl (X.assign rfl (F.ev 15 (.int .i64 (xs[k]?.getD 0)) (by kernel_rfl))) ?_
    clear F ac
    intro ac F
    refine wpList_nil ?_
    replace F : Fr ac 36 [(0, .slice (some pd) n c), (1, .slice b m d), (5, .int .i64 k), (6, .int .i64 (xs[k]?.getD 0)), (9, .slice (some pd) n c), (10, .int .i64 n), (11, .int .i64 k), (12, .bool true)] := F.sub _ (by kernel_rfl)
    refine X.thenN ?_
    refine wp_seq ?_
    refine wp_seq ?_
    refine wp_region_lit ?_
    refine X.pval F (X.w0 rfl) rfl (X.move rfl (F.ev 5 (.int .i64 k) (by kernel_rfl))) ?_
    clear F ac
    intro ac F
    refine X.pval F (X.w0 rfl) rfl (X.move rfl (F.ev 1 (.slice b m d) (by kernel_rfl))) ?_
    clear F ac
    intro ac F
    refine X.pval F (X.w0 rfl) rfl (X.len1 Try.underlying26 rfl (F.ev 17 (.slice b m d) (by kernel_rfl))) ?_
    clear F ac
    intro ac F
    refine X.pval F (X.w0 rfl) rfl (X.binop rfl (F.ev 16 (.int .i64 k) (by kernel_rfl)) (F.ev 18 (.int .i64 m) (by kernel_rfl)) (X.geqI Try.underlying3 rfl)) ?_
    clear F ac
    intro ac F
    refine wpList_nil ?_
    replace F : Fr ac 36 [(0, .slice (some pd) n c), (1, .slice b m d), (5, .int .i64 k), (6, .int .i64 (xs[k]?.getD 0)), (9, .slice (some pd) n c), (10, .int .i64 n), (11, .int .i64 k), (12, .bool true), (19, .bool (decide ((m : Int) ≤ k)))] := F.sub _ (by kernel_rfl)
    refine X.thenN ?_
    cases h6 : decide ((m : Int) ≤ k) with
    | false =>
      try rw [h6] at F
      have h6p : ¬ ((m : Int) ≤ k) := of_decide_eq_false h6
      have hlm : k < m := by omega
      obtain ⟨qd, hqa, hqb, hqc⟩ := hy.at hlm
      subst hqa
      replace hC : RCells w3 [(pd.add k, .int .i64 (xs[k]?.getD 0)), (qd.add k, .int .i64 (ys[k]?.getD 0))] := hC.append ((RCells.cons hqc (RCells.nil _)))
      refine wp_cond_false (F.ev 19 (.bool false) (by kernel_rfl)) ?_
      refine wp_skip ?_
      refine X.thenN ?_
      refine wp_seq ?_
      refine wp_region_lit ?_
      refine X.pval F (X.w0 rfl) rfl (X.move rfl (F.ev 1 (.slice (some qd) m d) (by kernel_rfl))) ?_
      clear F ac
      intro ac F
      refine X.pval F (X.w0 rfl) rfl (X.move rfl (F.ev 5 (.int .i64 k) (by kernel_rfl))) ?_
      clear F ac
      intro ac F
      refine X.pval F (X.w0 rfl) rfl (X.index rfl (F.ev 20 (.slice (some qd) m d) (by kernel_rfl)) (F.ev 21 (.int .i64 k) (by kernel_rfl)) (X.idx Try.underlying26 (Try.siz3 _) (by omega) rfl (by rw [Nat.mul_one]))) ?_
      clear F ac
      intro ac F
      refine X.pval F (X.w0 rfl) rfl (X.load rfl (F.ev 22 (.pointer (some (qd.add k))) (by kernel_rfl)) (X.ld1 (Try.agg3 _) (hC.at 1 rfl))) ?_
      clear F ac
      intro ac F
      refine X.pval F (X.w0 rfl) rfl (X.assign rfl (F.ev 23 (.int .i64 (ys[k]?.getD 0)) (by kernel_rfl))) ?_
      clear F ac
      intro ac F
      refine wpList_nil ?_
      replace F : Fr ac 36 [(0, .slice (some pd) n c), (1, .slice (some qd) m d), (5, .int .i64 k), (6, .int .i64 (xs[k]?.getD 0)), (7, .int .i64 (ys[k]?.getD 0)), (9, .slice (some pd) n c), (10, .int .i64 n), (11, .int .i64 k), (12, .bool true), (19, .bool false)] := F.sub _ (by kernel_rfl)
      refine X.thenN ?_
      refine wp_seq ?_
      refine wp_region_lit ?_
      refine X.pval F (X.w0 rfl) rfl (X.move rfl (F.ev 6 (.int .i64 (xs[k]?.getD 0)) (by kernel_rfl))) ?_
      clear F ac
      intro ac F
      refine X.pval F (X.w0 rfl) rfl (X.move rfl (F.ev 7 (.int .i64 (ys[k]?.getD 0)) (by kernel_rfl))) ?_
      clear F ac
      intro ac F
      refine X.pcall F (X.w0 rfl) rfl (X.enter (F := 83) rfl (X.kc (.func (.func 83) #[] #[]) rfl) (X.a2 (F.ev 24 (.int .i64 (xs[k]?.getD 0)) (by kernel_rfl)) (F.ev 25 (.int .i64 (ys[k]?.getD 0)) (by kernel_rfl))) (enters_of Try.func83 (by kernel_rfl) rfl _)) (compare_any (xs[k]?.getD 0) (ys[k]?.getD 0) w3) ?_
      clear F ac
      rintro e w' ⟨rfl, rfl⟩
      refine ⟨_, rfl, ?_⟩
      intro ac F
      refine X.pval F (X.w0 rfl) rfl (X.assign rfl (F.ev 26 (.int .i64 (cmpI (xs[k]?.getD 0) (ys[k]?.getD 0))) (by kernel_rfl))) ?_
      clear F ac
      intro ac F
      refine wpList_nil ?_
      replace F : Fr ac 36 [(0, .slice (some pd) n c), (1, .slice (some qd) m d), (5, .int .i64 k), (6, .int .i64 (xs[k]?.getD 0)), (7, .int .i64 (ys[k]?.getD 0)), (8, .int .i64 (cmpI (xs[k]?.getD 0) (ys[k]?.getD 0))), (9, .slice (some pd) n c), (10, .int .i64 n), (11, .int .i64 k), (12, .bool true), (19, .bool false)] := F.sub _ (by kernel_rfl)
      refine X.thenN ?_
      refine wp_seq ?_
      refine wp_region_lit ?_
      refine X.pval F (X.w0 rfl) rfl (X.move rfl (F.ev 8 (.int .i64 (cmpI (xs[k]?.getD 0) (ys[k]?.getD 0))) (by kernel_rfl))) ?_
      clear F ac
      intro ac F
      refine X.pval F (X.w0 rfl) rfl (X.binop rfl (F.ev 27 (.int .i64 (cmpI (xs[k]?.getD 0) (ys[k]?.getD 0))) (by kernel_rfl)) (X.kc (.int .i64 0) rfl) (X.neqI Try.underlying3 rfl)) ?_
      clear F ac
      intro ac F
      refine wpList_nil ?_
      replace F : Fr ac 36 [(0, .slice (some pd) n c), (1, .slice (some qd) m d), (5, .int .i64 k), (6, .int .i64 (xs[k]?.getD 0)), (7, .int .i64 (ys[k]?.getD 0)), (8, .int .i64 (cmpI (xs[k]?.getD 0) (ys[k]?.getD 0))), (9, .slice (some pd) n c), (10, .int .i64 n), (11, .int .i64 k), (12, .bool true), (19, .bool false), (28, .bool ((cmpI (xs[k]?.getD 0) (ys[k]?.getD 0) : Int) != 0))] := F.sub _ (by kernel_rfl)
      refine X.thenN ?_
      cases h7 : ((cmpI (xs[k]?.getD 0) (ys[k]?.getD 0) : Int) != 0) with
      | false =>
        try rw [h7] at F
        have h7p : (cmpI (xs[k]?.getD 0) (ys[k]?.getD 0) : Int) = 0 := by simpa using h7
        have HC2 : Hid (cmpL xs ys = cmpL (xs.drop (k + 1)) (ys.drop (k + 1))) := Lib.hid (by rw [HC.out]; exact cmp_eq (by rw [hx.len]; exact hlt) (by rw [hy.len]; exact hlm) h7p)
        refine wp_cond_false (F.ev 28 (.bool false) (by kernel_rfl)) ?_
        refine wp_skip ?_
        refine X.blockN ?_
        refine X.thenN ?_
        refine wp_region_lit ?_
        refine X.pval F (X.w0 rfl) rfl (X.binop rfl (F.ev 11 (.int .i64 k) (by kernel_rfl)) (X.kc (.int .i64 1) rfl) (X.addI Try.underlying3 rfl (by omega) (by omega))) ?_
        clear F ac
        intro ac F
        refine X.pval F (X.w0 rfl) rfl (X.move rfl (F.ev 30 (.int .i64 ((k : Int) + 1)) (by kernel_rfl))) ?_
        clear F ac
        intro ac F
        refine wpList_nil ?_
        replace F : Fr ac 36 [(0, .slice (some pd) n c), (1, .slice (some qd) m d), (5, .int .i64 k), (6, .int .i64 (xs[k]?.getD 0)), (7, .int .i64 (ys[k]?.getD 0)), (8, .int .i64 (cmpI (xs[k]?.getD 0) (ys[k]?.getD 0))), (9, .slice (some pd) n c), (10, .int .i64 n), (11, .int .i64 ((k : Int) + 1)), (12, .bool true), (19, .bool false), (28, .bool false)] := F.sub _ (by kernel_rfl)
        refine X.thenN ?_
        refine ⟨_, ?_, k + 1, rfl, GB_, by omega, by omega, HC2, F.sub _ (by kernel_rfl)⟩
        omega
      | true =>
        try rw [h7] at F
        have h7p : ¬ (cmpI (xs[k]?.getD 0) (ys[k]?.getD 0) : Int) = 0 := by simpa using h7
        have HR : cmpL xs ys = cmpI (xs[k]?.getD 0) (ys[k]?.getD 0) := by rw [HC.out]; exact cmp_ne (by rw [hx.len]; exact hlt) (by rw [hy.len]; exact hlm) h7p
        refine wp_cond_true (F.ev 28 (.bool true) (by kernel_rfl)) ?_
        refine wp_seq ?_
        refine wp_region_lit ?_
        refine X.pval F (X.w0 rfl) rfl (X.move rfl (F.ev 8 (.int .i64 (cmpI (xs[k]?.getD 0) (ys[k]?.getD 0))) (by kernel_rfl))) ?_
        clear F ac
        intro ac F
        refine X.pval F (X.w0 rfl) rfl (X.assign rfl (F.ev 29 (.int .i64 (cmpI (xs[k]?.getD 0) (ys[k]?.getD 0))) (by kernel_rfl))) ?_
        clear F ac
        intro ac F
        refine wpList_nil ?_
        replace F : Fr ac 36 [(0, .slice (some pd) n c), (1, .slice (some qd) m d), (4, .int .i64 (cmpI (xs[k]?.getD 0) (ys[k]?.getD 0))), (5, .int .i64 k), (6, .int .i64 (xs[k]?.getD 0)), (7, .int .i64 (ys[k]?.getD 0)), (8, .int .i64 (cmpI (xs[k]?.getD 0) (ys[k]?.getD 0))), (9, .slice (some pd) n c), (10, .int .i64 n), (11, .int .i64 k), (12, .bool true), (19, .bool false), (28, .bool true)] := F.sub _ (by kernel_rfl)
        refine X.thenN ?_
        refine wp_ret ?_
        refine X.blockR ?_
        refine X.thenR ?_
        refine X.thenR ?_
        refine X.blockR ?_
        refine X.thenR ?_
        exact X.ret1 (v := .int .i64 (cmpI (xs[k]?.getD 0) (ys[k]?.getD 0))) F rfl (by kernel_rfl) ⟨by rw [HR], G⟩
    | true =>
      try rw [h6] at F
      have h6p : ((m : Int) ≤ k) := of_decide_eq_true h6
      have HR : cmpL xs ys = 1 := by rw [HC.out]; exact cmp_1 (by rw [hx.len]; exact hlt) (by have := hy.len; omega)
      refine wp_cond_true (F.ev 19 (.bool true) (by kernel_rfl)) ?_
      refine wp_seq ?_
      refine wp_region_lit ?_
      refine X.pval F (X.w0 rfl) rfl (X.assign rfl (X.kc (.int .i64 1) rfl)) ?_
      clear F ac
      intro ac F
      refine wpList_nil ?_
      replace F : Fr ac 36 [(0, .slice (some pd) n c), (1, .slice b m d), (4, .int .i64 1), (5, .int .i64 k), (6, .int .i64 (xs[k]?.getD 0)), (9, .slice (some pd) n c), (10, .int .i64 n), (11, .int .i64 k), (12, .bool true), (19, .bool true)] := F.sub _ (by kernel_rfl)
      refine X.thenN ?_
      refine wp_ret ?_
      refine X.thenR ?_
      refine X.blockR ?_
      refine X.thenR ?_
      refine X.thenR ?_
      refine X.blockR ?_
      refine X.thenR ?_
      exact X.ret1 (v := .int .i64 1) F rfl (by kernel_rfl) ⟨by rw [HR], G⟩
end
section
open Go.RowKit

/-- what the reference's states returns -/
def StPost (w : World) (L : List (List Int)) (e : Ending) (w' : World) : Prop := ∃ v, e = .returned v ∧ OutR w' w.heap.size v L ∧ Gr w w'
theorem OwnI.is3 {w : World} {B n c : Nat} {a : Option Addr} {xs : List Int} (h : OwnI w B (.slice a n c) xs) : ∀ ad, a = some ad → Is3 w ad.block := by
  intro ad e
  subst e
  rcases h.2 with ⟨h, _⟩ | ⟨g, cap, cur, h, _, hg, _⟩
  · cases h
  · cases h; exact ⟨_, _, hg⟩

set_option maxRecDepth 100000 in
set_option maxHeartbeats 4000000 in
theorem states2_leaf (ta ca a : Option Addr) (tn tc cn cc n c : Nat) (f : Fl) (pre : List Int) (w : World) (hf : FlAt w ta tn ca cn f) (hx : Ints w a n pre) (hok : FlOk f) (hp : PreOk f pre) (hl : pre.length = f.times.length) (h3 : ∀ ad, a = some ad → Is3 w ad.block) :
    Calls Try.prog 81 #[.agg #[.slice ta tn tc, .slice ca cn cc], .slice a n c] w (StPost w (enumR f 0 pre)) := by
  have hst := hp.st hl
  have hnt : n = tn := by rw [← hx.len, hl, hf.t.len]
  subst hnt
  have g := Gr.alloc w (.cells #[.slice ta n tc, .slice ca cn cc] 25)
  have hC := (RCells.nil w).box (b := w.heap.size) #[.slice ta n tc, .slice ca cn cc] 25 rfl
  obtain ⟨w2, hw2⟩ : ∃ w2, w.alloc (.cells #[.slice ta n tc, .slice ca cn cc] 25) = w2 := ⟨_, rfl⟩
  rw [hw2] at g hC
  have c0 : w2.cell? ⟨w.heap.size, 0, none⟩ = some (.slice ta n tc) := hC.at 0 rfl
  have c1 : w2.cell? ⟨w.heap.size, 1, none⟩ = some (.slice ca cn cc) := hC.at 1 rfl
  have hee : ((n : Int) == (n : Int)) = true := by simp
  have HC := Lib.hid (clash2_any ta ca a n tc cn cc n c f pre w2 (hf.gr g) hok (hx.gr g) hst)
  have HN1 : Hid (0 < n) := Lib.hid (by have := hok.n1; have := hx.len; omega)
  go_enter Try.func81, Try.ntmps81
  go_wp2_with fail
  refine HC.out.mono ?_
  rintro e w3 ⟨rfl, g3⟩
  clear hw2 HC c0 c1
  by_cases hc : (0 : Int) ≤ clashI f pre
  · have hw : worksB f pre = false := by unfold worksB; exact decide_eq_false (by omega)
    have HR : Hid (enumR f 0 pre = []) := Lib.hid (by simp [enumR, hw])
    go_wp2_with fail
    go_ret
    rw [HR.out]
    exact ⟨_, rfl, OutR.nil _ _, g.trans g3⟩
  · have hw : worksB f pre = true := by unfold worksB; exact decide_eq_true (by omega)
    have HR : Hid (enumR f 0 pre = [pre]) := Lib.hid (by simp [enumR, hw])
    clear hw
    go_wp2_with fail
    go_ret
    rw [HR.out]
    have g4 := (g.trans g3).allocR (.cells #[.slice a n c] 26)
    refine ⟨_, rfl, ?_, g4⟩
    obtain ⟨ad, rfl, hab, _⟩ := hx.at HN1.out
    refine ⟨[.slice (some ad) n c], ⟨rfl, .inr ⟨w3.heap.size, 1, #[.slice (some ad) n c], rfl, (g.trans g3).size, World.alloc_heap_new _ _, Nat.le_refl _, by unfold maxLen; simp, rfl, rfl⟩⟩, fun j hj => ?_⟩
    have hj0 : j = 0 := by simp at hj; omega
    subst hj0
    exact ⟨ad, n, c, rfl, hx.gr g4, (h3 ad rfl).gr g4⟩

set_option maxRecDepth 100000 in
set_option maxHeartbeats 4000000 in
theorem states2_any (f : Fl) (hok : FlOk f) (ta ca : Option Addr) (tn tc cn cc : Nat) : ∀ (k : Nat) (a : Option Addr) (n c : Nat) (pre : List Int) (w : World), FlAt w ta tn ca cn f → Ints w a n pre → PreOk f pre → pre.length + k = f.times.length → (∀ ad, a = some ad → Is3 w ad.block) →
    Calls Try.prog 81 #[.agg #[.slice ta tn tc, .slice ca cn cc], .slice a n c] w (StPost w (enumR f k pre)) := by
  intro k
  induction k with
  | zero =>
    intro a n c pre w hf hx hp hl h3
    exact states2_leaf ta ca a tn tc cn cc n c f pre w hf hx hok hp (by omega) h3
  | succ k ih =>
    intro a n c pre w hf hx hp hl h3
    have IH : Hid (∀ (a : Option Addr) (n c : Nat) (pre' : List Int) (w : World), FlAt w ta tn ca cn f → Ints w a n pre' → PreOk f pre' → pre'.length + k = f.times.length → (∀ ad, a = some ad → Is3 w ad.block) →
        Calls Try.prog 81 #[.agg #[.slice ta tn tc, .slice ca cn cc], .slice a n c] w (StPost w (enumR f k pre'))) := Lib.hid (fun a n c pre' w h1 h2 h3 h4 h5 => ih a n c pre' w h1 h2 h3 h4 h5)
    have HPO := Lib.hid hp
    have hnt : n < tn := by have := hx.len; have := hf.t.len; omega
    have hn6 : n < 6 := by have := hok.n6; have := hf.t.len; omega
    have hne : ((n : Int) == (tn : Int)) = false := by simp; omega
    have HLK : Hid (pre.length + (k + 1) = f.times.length) := Lib.hid hl
    obtain ⟨td, qa, qn, qc, hta, htb, htc, hqi⟩ := hf.t.at hnt
    subst hta
    have HQL : Hid ((f.times[pre.length]?.getD []).length = qn) := Lib.hid (by rw [hx.len]; exact hqi.len)
    have hq3 : qn ≤ 3 := by have := hok.row pre.length (by omega); have := HQL.out; omega
    have HLEN : Hid (∀ m, m ≤ qn + 1 → (enumTo2 f k pre m).length ≤ 4096) := Lib.hid (fun m hm => enumTo2_len hok hl (by rw [HQL.out]; exact hm))
    have HLE2 : Hid (∀ m : Nat, (enumR f k (pre ++ [(m : Int)])).length ≤ 4096) := Lib.hid (fun m => by
      have h1 := enumR_len hok k (pre ++ [(m : Int)]) (by simp; omega)
      have h6 := hok.n6
      have h4 : 4 ^ k ≤ 4 ^ 6 := Nat.pow_le_pow_right (by omega) (by omega)
      have h5 : (4 : Nat) ^ 6 = 4096 := by decide
      omega)
    have HXL : Hid (∀ m : Int, (pre ++ [m]).length = n + 1) := Lib.hid (fun m => by simp [hx.len])
    clear ih hp hl
    have g := Gr.alloc w (.cells #[.slice (some td) tn tc, .slice ca cn cc] 25)
    have hC := ((RCells.nil w).box (b := w.heap.size) #[.slice (some td) tn tc, .slice ca cn cc] 25 rfl).append (RCells.cons ((g.cell (lt_cell htc)).trans htc) (RCells.nil _))
    obtain ⟨w2, hw2⟩ : ∃ w2, w.alloc (.cells #[.slice (some td) tn tc, .slice ca cn cc] 25) = w2 := ⟨_, rfl⟩
    rw [hw2] at g hC
    have d0 : w2.cell? ⟨w.heap.size, 0, none⟩ = some (.slice (some td) tn tc) := hC.at 0 rfl
    go_enter Try.func81, Try.ntmps81
    go_wp2_with fail
    clear d0 hw2
    go_loopw [5, 6] (fun o i wr => ∃ (m : Nat) (vv : Value), m ≤ qn + 1 ∧ i = .int .i64 m ∧ vv = o ∧ Gr w2 wr ∧ OutR wr w2.heap.size o (enumTo2 f k pre m)) (fun _ i _ => qn + 1 - (intOf i).toNat)
    case atStart => exact ⟨0, _, Nat.zero_le _, rfl, rfl, Gr.refl _, OutR.nil _ _⟩
    case round =>
      obtain ⟨m, vv, hm, rfl, rfl, gr, hO⟩ := hrel
      have gw := g.trans gr
      have hC' := hC.gr gr
      have c0 : wr.cell? ⟨w.heap.size, 0, none⟩ = some (.slice (some td) tn tc) := hC'.at 0 rfl
      have c1 : wr.cell? ⟨w.heap.size, 1, none⟩ = some (.slice ca cn cc) := hC'.at 1 rfl
      have c2 : wr.cell? (td.add n) = some (.slice qa qn qc) := hC'.at 2 rfl
      have hLa := HLEN.out m hm
      have hLb := HLE2.out m
      by_cases hlt : (m : Int) ≤ (qn : Int)
      · have hmq : m ≤ qn := by omega
        have HP2 : Hid (PreOk f (pre ++ [(m : Int)])) := Lib.hid (HPO.out.snoc (by rw [HQL.out]; exact hmq))
        go_wp2_with fail
        refine (wpIn_wide (n := 0)).1 ?_
        refine region_inv2 (F := Fence.wide) (by kernel_rfl) (by rfl) (by decide) (fun _ => trivial)
          (fun done' u W' => Kn [some (vv), some (.agg #[.slice (some td) tn tc, .slice ca cn cc]), some (.slice a n c), none, some (.int .i64 m), none, none, none, none, none] done' u ∧ R81 wr w2 pre (m : Int) vv (enumTo2 f k pre m) (enumR f k (pre ++ [(m : Int)])) done' u W')
          (fun u hself => ⟨Kn.start _ _, R81.start wr w2 pre (m : Int) vv (enumTo2 f k pre m) (enumR f k (pre ++ [(m : Int)])) u (fillL_was hself (by decide) 9 rfl rfl rfl)⟩) ⟨?_, ?_, ?_, ?_, ?_, ?_, ?_, ?_, ?_, ?_, trivial⟩ ?_
        · rintro u done' W' hd hanc hclo ⟨hk, hR⟩
          have e9 := hR.old (not_done hclo hd 9 rfl (by kernel_rfl))
          refine op_plain (ro := none) rfl (fun c h => by cases h) fun K hK => ?_
          simp only [fillL, List.setIfInBounds_toArray, List.set_cons_zero, List.set_cons_succ, Nat.zero_add, Nat.reduceAdd, e9] at hK ⊢
          go_simp
          exact hK _ _ ⟨hk.new rfl, hR.quiet (by decide) (by decide) (by decide) (by decide) (by decide) (by decide)⟩
        · rintro u done' W' hd hanc hclo ⟨hk, hR⟩
          have g8 := hR.gr (not_done hclo hd 8 rfl (by kernel_rfl))
          have cc0 := (g8.cell (lt_cell c0)).trans c0
          have cc1 := (g8.cell (lt_cell c1)).trans c1
          refine op_plain (ro := none) rfl (fun c h => by cases h) fun K hK => ?_
          simp only [fillL, List.setIfInBounds_toArray, List.set_cons_zero, List.set_cons_succ, Nat.zero_add, Nat.reduceAdd] at hK ⊢
          go_simp
          exact hK _ _ ⟨hk.new rfl, hR.quiet (by decide) (by decide) (by decide) (by decide) (by decide) (by decide)⟩
        · rintro u done' W' hd hanc hclo ⟨hk, hR⟩
          refine op_plain (ro := none) rfl (fun c h => by cases h) fun K hK => ?_
          simp only [fillL, List.setIfInBounds_toArray, List.set_cons_zero, List.set_cons_succ, Nat.zero_add, Nat.reduceAdd] at hK ⊢
          go_simp
          exact hK _ _ ⟨hk.new rfl, hR.quiet (by decide) (by decide) (by decide) (by decide) (by decide) (by decide)⟩
        · rintro u done' W' hd hanc hclo ⟨hk, hR⟩
          have e2 := hk.get 2 rfl (hanc 2 (mem_of (by kernel_rfl)))
          have g8 := hR.gr (not_done hclo hd 8 rfl (by kernel_rfl))
          have hx8 := hx.gr (gw.trans g8)
          refine op_plain (ro := none) rfl (fun c h => by cases h) fun K hK => ?_
          simp only [fillL, List.setIfInBounds_toArray, List.set_cons_zero, List.set_cons_succ, Nat.zero_add, Nat.reduceAdd, e2] at hK ⊢
          refine wp_copy0 (sa := a) (n := n) (c := c) (y := pre) (B := wr.heap.size) rfl rfl rfl hx8 (by omega) g8.size ?_
          intro x w6 hx6 g6
          exact hK _ _ ⟨hk.skip rfl, hR.copied (not_done hclo hd 6 rfl (by kernel_rfl)) (not_done hclo hd 7 rfl (by kernel_rfl)) (not_done hclo hd 8 rfl (by kernel_rfl)) (not_done hclo hd 9 rfl (by kernel_rfl)) (hR.old (not_done hclo hd 9 rfl (by kernel_rfl))) hx6 g6⟩
        · rintro u done' W' hd hanc hclo ⟨hk, hR⟩
          refine op_plain (ro := none) rfl (fun c h => by cases h) fun K hK => ?_
          simp only [fillL, List.setIfInBounds_toArray, List.set_cons_zero, List.set_cons_succ, Nat.zero_add, Nat.reduceAdd] at hK ⊢
          go_simp
          exact hK _ _ ⟨hk.new rfl, hR.quiet (by decide) (by decide) (by decide) (by decide) (by decide) (by decide)⟩
        · rintro u done' W' hd hanc hclo ⟨hk, hR⟩
          have e4 := hk.get 4 rfl (hanc 4 (mem_of (by kernel_rfl)))
          refine op_plain (ro := none) rfl (fun c h => by cases h) fun K hK => ?_
          simp only [fillL, List.setIfInBounds_toArray, List.set_cons_zero, List.set_cons_succ, Nat.zero_add, Nat.reduceAdd, e4] at hK ⊢
          go_simp
          exact hK _ _ ⟨hk.skip rfl, hR.made (not_done hclo hd 6 rfl (by kernel_rfl)) (not_done hclo hd 7 rfl (by kernel_rfl)) (not_done hclo hd 8 rfl (by kernel_rfl)) (not_done hclo hd 9 rfl (by kernel_rfl)) (hR.old (not_done hclo hd 9 rfl (by kernel_rfl)))⟩
        · rintro u done' W' hd hanc hclo ⟨hk, hR⟩
          have g8 := hR.gr (not_done hclo hd 8 rfl (by kernel_rfl))
          have hcp := hR.cp hd (hanc 3 (mem_of (by kernel_rfl)))
          obtain ⟨g0, e5, hg0⟩ := hR.one hd (hanc 5 (mem_of (by kernel_rfl)))
          refine op_plain (ro := none) rfl (fun c h => by cases h) fun K hK => ?_
          simp only [fillL, List.setIfInBounds_toArray, List.set_cons_zero, List.set_cons_succ, Nat.zero_add, Nat.reduceAdd, e5] at hK ⊢
          generalize u 3 = u3 at *
          refine wp_pushI (w1 := wr) (v := u3) (xs := pre) (g := g0) (z := (m : Int)) rfl rfl rfl hg0 hcp g8 (by rw [hx.len]; omega) ?_
          intro x w6 hx6 g6
          exact hK _ _ ⟨hk.skip rfl, R81.snoc (not_done hclo hd 7 rfl (by kernel_rfl)) (not_done hclo hd 8 rfl (by kernel_rfl)) (not_done hclo hd 9 rfl (by kernel_rfl)) (hR.old (not_done hclo hd 9 rfl (by kernel_rfl))) hx6 g6⟩
        · rintro u done' W' hd hanc hclo ⟨hk, hR⟩
          have e1 := hk.get 1 rfl (hanc 1 (mem_of (by kernel_rfl)))
          have g8 := hR.gr (not_done hclo hd 8 rfl (by kernel_rfl))
          have hex := hR.ext hd (hanc 6 (mem_of (by kernel_rfl)))
          obtain ⟨xa, xc, e6, hxi, _⟩ := hex.ints (by simp; have := hx.lt; have := hx.len; omega)
          rw [e6] at hex
          rw [HXL.out] at e6 hxi hex
          have HCON := Lib.hid (IH.out xa (n + 1) xc (pre ++ [(m : Int)]) W' (hf.gr (gw.trans g8)) hxi HP2.out (by have := HLK.out; simp; omega) hex.is3)
          refine op_plain (ro := none) rfl (fun c h => by cases h) fun K hK => ?_
          simp only [fillL, List.setIfInBounds_toArray, List.set_cons_zero, List.set_cons_succ, Nat.zero_add, Nat.reduceAdd, e1, e6] at hK ⊢
          go_simp
          refine HCON.out.mono ?_
          rintro e w6 ⟨x, rfl, hx6, g6⟩
          exact hK _ _ ⟨hk.skip rfl, hR.called (hanc 6 (mem_of (by kernel_rfl))) (not_done hclo hd 8 rfl (by kernel_rfl)) (not_done hclo hd 9 rfl (by kernel_rfl)) (hR.old (not_done hclo hd 9 rfl (by kernel_rfl))) hx6 g6⟩
        · rintro u done' W' hd hanc hclo ⟨hk, hR⟩
          have e0 := hk.get 0 rfl (hanc 0 (mem_of (by kernel_rfl)))
          have g8 := hR.gr hd
          obtain ⟨B2, hrc⟩ := hR.rc hd (hanc 7 (mem_of (by kernel_rfl)))
          refine op_plain (ro := none) rfl (fun c h => by cases h) fun K hK => ?_
          simp only [fillL, List.setIfInBounds_toArray, List.set_cons_zero, List.set_cons_succ, Nat.zero_add, Nat.reduceAdd, e0] at hK ⊢
          generalize u 7 = u7 at *
          refine wp_pushAll (w1 := w2) (v := vv) (v2 := u7) (L := enumTo2 f k pre m) (M := enumR f k (pre ++ [(m : Int)])) rfl rfl rfl (hO.gr g8) hrc (gr.trans g8) (by omega) (by omega) ?_
          intro x w6 hx6 g6
          exact hK _ _ ⟨hk.skip rfl, R81.joined (hanc 6 (mem_of (by kernel_rfl))) (hanc 7 (mem_of (by kernel_rfl))) (not_done hclo hd 9 rfl (by kernel_rfl)) (hR.old (not_done hclo hd 9 rfl (by kernel_rfl))) hx6 g6⟩
        · rintro u done' W' hd hanc hclo ⟨hk, hR⟩
          refine op_plain (ro := none) rfl (fun c h => by cases h) fun K hK => ?_
          simp only [fillL, List.setIfInBounds_toArray, List.set_cons_zero, List.set_cons_succ, Nat.zero_add, Nat.reduceAdd] at hK ⊢
          go_simp
          exact hK _ _ ⟨hk.skip rfl, hR.last (hanc 6 (mem_of (by kernel_rfl))) (hanc 7 (mem_of (by kernel_rfl))) (hanc 8 (mem_of (by kernel_rfl)))⟩
        · rintro u W' ⟨done', hdn, hk, hR⟩
          
          have h8 := hR.fin (hdn 8 (by decide))
          have e9 := hR.out (hdn 9 (by decide))
          generalize u 8 = u8 at *
          simp only [fillL, List.setIfInBounds_toArray, List.set_cons_zero, List.set_cons_succ, Nat.zero_add, Nat.reduceAdd, e9]
          rw [← enumTo2_succ] at h8
          clear hk hdn hR e9
          go_wp2_with fail
          go_roundw
          case rel => exact ⟨m + 1, _, by omega, by go_num, rfl, h8.2, h8.1⟩
          case measure => simp [intOf] <;> omega
      · obtain rfl : m = qn + 1 := by omega
        have HF : Hid (enumTo2 f k pre (qn + 1) = enumR f (k + 1) pre) := Lib.hid (by rw [← HQL.out]; rfl)
        go_wp2_with fail
        go_ret
        rw [← HF.out]
        exact ⟨_, rfl, hO.mono g.size, gw⟩
end
section
open Go.RowKit

/-- every working state, in order -/
def allV (f : Fl) : List (List Int) := enumR f f.times.length []
theorem allV_len {f : Fl} (hok : FlOk f) : (allV f).length ≤ 4096 := by
  have h := enumR_len hok f.times.length [] (by simp)
  have h2 : (4 : Nat) ^ f.times.length ≤ 4 ^ 6 := Nat.pow_le_pow_right (by decide) hok.n6
  unfold allV; omega
theorem states2_nil (ta ca : Option Addr) (tn tc cn cc : Nat) (f : Fl) (w : World) (hok : FlOk f) (hf : FlAt w ta tn ca cn f) :
    Calls Try.prog 81 #[.agg #[.slice ta tn tc, .slice ca cn cc], .slice none 0 0] w (fun e w' => ∃ ra rn rc, e = .returned (.slice ra rn rc) ∧ RowsAt w' ra rn (allV f) ∧ Gr w w') := by
  refine (states2_any f hok ta ca tn tc cn cc f.times.length none 0 0 [] w hf (Ints.nil _) (fun c hc => by simp at hc) (by simp) (fun ad e => by cases e)).mono ?_
  rintro e w' ⟨v, rfl, ho, g⟩
  obtain ⟨a, c, rfl, hr, _⟩ := ho.rows (by have := allV_len hok; unfold allV at this; omega)
  exact ⟨a, _, c, rfl, hr, g⟩
end
section
open Go.RowKit

def sumTo (xs : List Int) : Nat → Int
  | 0 => 0
  | k + 1 => sumTo xs k + xs[k]?.getD 0
def sumV (xs : List Int) : Int := sumTo xs xs.length
theorem sumTo_bd {xs : List Int} (h : ∀ c : Nat, 0 ≤ xs[c]?.getD 0 ∧ xs[c]?.getD 0 ≤ 3) : ∀ k, k ≤ 6 → 0 ≤ sumTo xs k ∧ sumTo xs k ≤ 3 * k := by
  intro k
  induction k with
  | zero => intro _; simp [sumTo]
  | succ k ih => intro hk; have := ih (by omega); have := h k; simp only [sumTo]; omega

set_option maxRecDepth 100000 in
set_option maxHeartbeats 400000 in
theorem sum2_any (a : Option Addr) (n c : Nat) (xs : List Int) (w : World) (hx : Ints w a n xs) (hn : n ≤ 6) (hb : Hid (∀ c : Nat, 0 ≤ xs[c]?.getD 0 ∧ xs[c]?.getD 0 ≤ 3)) :
    Calls Try.prog 86 #[.slice a n c] w fun e w' => e = .returned (.int .i64 (sumV xs)) ∧ Gr w w' := by
  have G := Gr.refl w
  refine X.calls 18 Try.func86 rfl rfl ?_
  intro A F0
  have F : Fr A 18 [(0, .slice a n c)] := F0.sub _ (by kernel_rfl)
  clear F0
  refine wp_seq ?_
  refine region_x F [some (.int .i64 0)] (X.RG w) rfl ⟨by kernel_rfl, of_decide_eq_true (by kernel_rfl), by kernel_rfl, by kernel_rfl, by kernel_rfl⟩ (fun _ => ⟨Gr.refl _, Gr.drew _⟩) ⟨?_, trivial⟩ ?_
  · intro A done u W S g
    replace g : Gr w W := g
    exact X.val (X.w0 rfl) rfl (X.assign rfl rfl) g
  intro A u w3 hs hd hl _ g
  replace g : Gr w w3 := g
  replace F : Fr A 18 [(0, .slice a n c), (2, .int .i64 0)] := X.fr hs hd hl _ (by kernel_rfl)
  clear hs hd hl
  replace G := G.trans g
  replace hx := hx.gr g
  clear g
  refine X.thenN ?_
  refine wp_seq ?_
  refine region_x F [some (.int .i64 0)] (X.RG w3) rfl ⟨by kernel_rfl, of_decide_eq_true (by kernel_rfl), by kernel_rfl, by kernel_rfl, by kernel_rfl⟩ (fun _ => ⟨Gr.refl _, Gr.drew _⟩) ⟨?_, trivial⟩ ?_
  · intro A done u W S g
    replace g : Gr w3 W := g
    exact X.val (X.w0 rfl) rfl (X.assign rfl rfl) g
  intro A u w4 hs hd hl _ g
  replace g : Gr w3 w4 := g
  replace F : Fr A 18 [(0, .slice a n c), (2, .int .i64 0), (3, .int .i64 0)] := X.fr hs hd hl _ (by kernel_rfl)
  clear hs hd hl
  replace G := G.trans g
  replace hx := hx.gr g
  clear g
  refine X.thenN ?_
  refine wp_seq ?_
  refine wp_seq ?_
  refine region_x F [some (.int .i64 0)] (X.RG w4) rfl ⟨by kernel_rfl, of_decide_eq_true (by kernel_rfl), by kernel_rfl, by kernel_rfl, by kernel_rfl⟩ (fun _ => ⟨Gr.refl _, Gr.drew _⟩) ⟨?_, trivial⟩ ?_
  · intro A done u W S g
    replace g : Gr w4 W := g
    exact X.val (X.w0 rfl) rfl (X.assign rfl rfl) g
  intro A u w5 hs hd hl _ g
  replace g : Gr w4 w5 := g
  replace F : Fr A 18 [(0, .slice a n c), (2, .int .i64 0), (3, .int .i64 0), (4, .int .i64 0)] := X.fr hs hd hl _ (by kernel_rfl)
  clear hs hd hl
  replace G := G.trans g
  replace hx := hx.gr g
  clear g
  refine X.thenN ?_
  refine wp_block ?_
  have hxB := hx
  have GB := G
  refine wp_loop_ghost (fun m A wr => ∃ k : Nat, m = n - k ∧ Gr w5 wr ∧ k ≤ n ∧ Fr A 18 [(0, .slice a n c), (2, .int .i64 0), (3, .int .i64 (sumTo xs k)), (4, .int .i64 k)]) _ ⟨0, rfl, Gr.refl _, Nat.zero_le _, F.sub _ (by kernel_rfl)⟩ ?_
  clear F
  intro m A w6 hI
  obtain ⟨k, rfl, gr, hk, F⟩ := hI
  replace G := GB.trans gr
  replace hx := hxB.gr gr
  have GB_ := gr
  clear gr
  refine wp_seq ?_
  refine wp_seq ?_
  refine region_x F [some (.int .i64 k), some (.slice a n c), some (.int .i64 n), some (.bool (decide ((k : Int) < n)))] (X.RG w6) rfl ⟨by kernel_rfl, of_decide_eq_true (by kernel_rfl), by kernel_rfl, by kernel_rfl, by kernel_rfl⟩ (fun _ => ⟨Gr.refl _, Gr.drew _⟩) ⟨?_, ?_, ?_, ?_, trivial⟩ ?_
  · intro A done u W S g
    replace g : Gr w6 W := g
    exact X.val (X.w0 rfl) rfl (X.move rfl (S.ev 4 (.int .i64 k) (by kernel_rfl))) g
  · intro A done u W S g
    replace g : Gr w6 W := g
    exact X.val (X.w0 rfl) rfl (X.move rfl (S.ev 0 (.slice a n c) (by kernel_rfl))) g
  · intro A done u W S g
    replace g : Gr w6 W := g
    exact X.val (X.w0 rfl) rfl (X.len1 Try.underlying26 rfl (S.ev 6 (.slice a n c) (by kernel_rfl))) g
  · intro A done u W S g
    replace g : Gr w6 W := g
    exact X.val (X.w0 rfl) rfl (X.binop rfl (S.ev 5 (.int .i64 k) (by kernel_rfl)) (S.ev 7 (.int .i64 n) (by kernel_rfl)) (X.lssI Try.underlying3 rfl)) g
  intro A u w7 hs hd hl _ g
  replace g : Gr w6 w7 := g
  replace F : Fr A 18 [(0, .slice a n c), (2, .int .i64 0), (3, .int .i64 (sumTo xs k)), (4, .int .i64 k), (8, .bool (decide ((k : Int) < n)))] := X.fr hs hd hl _ (by kernel_rfl)
  clear hs hd hl
  replace G := G.trans g
  replace GB_ := GB_.trans g
  replace hx := hx.gr g
  clear g
  refine X.thenN ?_
  cases h8 : decide ((k : Int) < n) with
  | false =>
    try rw [h8] at F
    have h8p : ¬ ((k : Int) < n) := of_decide_eq_false h8
    obtain rfl : n = k := by omega
    have HF : Hid (sumTo xs n = sumV xs) := Lib.hid (by rw [← hx.len]; rfl)
    refine wp_cond_false (F.ev 8 (.bool false) rfl) ?_
    refine wp_exit ?_
    refine X.thenX ?_
    refine X.thenX ?_
    refine X.blockX ?_
    refine X.thenN ?_
    refine wp_seq ?_
    refine region_x F [some (.int .i64 (sumTo xs n)), some (.int .i64 (sumTo xs n))] (X.RG w7) rfl ⟨by kernel_rfl, of_decide_eq_true (by kernel_rfl), by kernel_rfl, by kernel_rfl, by kernel_rfl⟩ (fun _ => ⟨Gr.refl _, Gr.drew _⟩) ⟨?_, ?_, trivial⟩ ?_
    · intro A done u W S g
      replace g : Gr w7 W := g
      exact X.val (X.w0 rfl) rfl (X.move rfl (S.ev 3 (.int .i64 (sumTo xs n)) (by kernel_rfl))) g
    · intro A done u W S g
      replace g : Gr w7 W := g
      exact X.val (X.w0 rfl) rfl (X.assign rfl (S.ev 17 (.int .i64 (sumTo xs n)) (by kernel_rfl))) g
    intro A u w9 hs hd hl _ g
    replace g : Gr w7 w9 := g
    replace F : Fr A 18 [(0, .slice a n c), (2, .int .i64 (sumTo xs n)), (3, .int .i64 (sumTo xs n)), (4, .int .i64 n), (8, .bool false)] := X.fr hs hd hl _ (by kernel_rfl)
    clear hs hd hl
    replace G := G.trans g
    replace GB_ := GB_.trans g
    replace hx := hx.gr g
    clear g
    refine X.thenN ?_
    refine wp_ret ?_
    exact X.ret1 F rfl rfl ⟨by rw [HF.out], G⟩
  | true =>
    try rw [h8] at F
    have h8p : ((k : Int) < n) := of_decide_eq_true h8
    have hlt : k < n := by omega
    obtain ⟨pd, hpa, hpb, hpc⟩ := hx.at hlt
    subst hpa
    have hC : RCells w7 [(pd.add k, .int .i64 (xs[k]?.getD 0))] := RCells.cons hpc (RCells.nil _)
    have hbd := sumTo_bd (xs := xs) hb.out k (by omega)
    have hbk := hb.out k
    refine wp_cond_true (F.ev 8 (.bool true) rfl) ?_
    refine wp_skip ?_
    refine X.thenN ?_
    refine wp_seq ?_
    refine wp_block ?_
    refine region_x F [some (.int .i64 (sumTo xs k)), some (.slice (some pd) n c), some (.int .i64 k), some (.pointer (some (pd.add k))), some (.int .i64 (xs[k]?.getD 0)), some (.int .i64 ((sumTo xs k : Int) + (xs[k]?.getD 0))), some (.int .i64 ((sumTo xs k : Int) + (xs[k]?.getD 0)))] (X.RG w7) rfl ⟨by kernel_rfl, of_decide_eq_true (by kernel_rfl), by kernel_rfl, by kernel_rfl, by kernel_rfl⟩ (fun _ => ⟨Gr.refl _, Gr.drew _⟩) ⟨?_, ?_, ?_, ?_, ?_, ?_, ?_, trivial⟩ ?_
    · intro A done u W S g
      replace g : Gr w7 W := g
      exact X.val (X.w0 rfl) rfl (X.move rfl (S.ev 3 (.int .i64 (sumTo xs k)) (by kernel_rfl))) g
    · intro A done u W S g
      replace g : Gr w7 W := g
      exact X.val (X.w0 rfl) rfl (X.move rfl (S.ev 0 (.slice (some pd) n c) (by kernel_rfl))) g
    · intro A done u W S g
      replace g : Gr w7 W := g
      exact X.val (X.w0 rfl) rfl (X.move rfl (S.ev 4 (.int .i64 k) (by kernel_rfl))) g
    · intro A done u W S g
      replace g : Gr w7 W := g
      exact X.val (X.w0 rfl) rfl (X.index rfl (S.ev 12 (.slice (some pd) n c) (by kernel_rfl)) (S.ev 13 (.int .i64 k) (by kernel_rfl)) (X.idx Try.underlying26 (Try.siz3 _) (by omega) rfl (by rw [Nat.mul_one]))) g
    · intro A done u W S g
      replace g : Gr w7 W := g
      exact X.val (X.w0 rfl) rfl (X.load rfl (S.ev 14 (.pointer (some (pd.add k))) (by kernel_rfl)) (X.ld1 (Try.agg3 _) ((hC.gr g).at 0 rfl))) g
    · intro A done u W S g
      replace g : Gr w7 W := g
      exact X.val (X.w0 rfl) rfl (X.binop rfl (S.ev 11 (.int .i64 (sumTo xs k)) (by kernel_rfl)) (S.ev 15 (.int .i64 (xs[k]?.getD 0)) (by kernel_rfl)) (X.addI Try.underlying3 rfl (by omega) (by omega))) g
    · intro A done u W S g
      replace g : Gr w7 W := g
      exact X.val (X.w0 rfl) rfl (X.assign rfl (S.ev 16 (.int .i64 ((sumTo xs k : Int) + (xs[k]?.getD 0))) (by kernel_rfl))) g
    intro A u w10 hs hd hl _ g
    replace g : Gr w7 w10 := g
    replace F : Fr A 18 [(0, .slice (some pd) n c), (2, .int .i64 0), (3, .int .i64 ((sumTo xs k : Int) + (xs[k]?.getD 0))), (4, .int .i64 k), (8, .bool true)] := X.fr hs hd hl _ (by kernel_rfl)
    clear hs hd hl
    replace G := G.trans g
    replace hC := hC.gr g
    replace GB_ := GB_.trans g
    replace hx := hx.gr g
    clear g
    refine X.blockN ?_
    refine X.thenN ?_
    refine region_x F [some (.int .i64 k), some (.int .i64 ((k : Int) + 1)), some (.int .i64 ((k : Int) + 1))] (X.RG w10) rfl ⟨by kernel_rfl, of_decide_eq_true (by kernel_rfl), by kernel_rfl, by kernel_rfl, by kernel_rfl⟩ (fun _ => ⟨Gr.refl _, Gr.drew _⟩) ⟨?_, ?_, ?_, trivial⟩ ?_
    · intro A done u W S g
      replace g : Gr w10 W := g
      exact X.val (X.w0 rfl) rfl (X.move rfl (S.ev 4 (.int .i64 k) (by kernel_rfl))) g
    · intro A done u W S g
      replace g : Gr w10 W := g
      exact X.val (X.w0 rfl) rfl (X.binop rfl (S.ev 9 (.int .i64 k) (by kernel_rfl)) rfl (X.addI Try.underlying3 rfl (by omega) (by omega))) g
    · intro A done u W S g
      replace g : Gr w10 W := g
      exact X.val (X.w0 rfl) rfl (X.assign rfl (S.ev 10 (.int .i64 ((k : Int) + 1)) (by kernel_rfl))) g
    intro A u w11 hs hd hl _ g
    replace g : Gr w10 w11 := g
    replace F : Fr A 18 [(0, .slice (some pd) n c), (2, .int .i64 0), (3, .int .i64 ((sumTo xs k : Int) + (xs[k]?.getD 0))), (4, .int .i64 ((k : Int) + 1)), (8, .bool true)] := X.fr hs hd hl _ (by kernel_rfl)
    clear hs hd hl
    replace G := G.trans g
    replace hC := hC.gr g
    replace GB_ := GB_.trans g
    replace hx := hx.gr g
    clear g
    refine X.thenN ?_
    refine ⟨_, ?_, k + 1, rfl, GB_, by omega, F.sub _ (by kernel_rfl)⟩
    omega

set_option maxRecDepth 100000 in
set_option maxHeartbeats 400000 in
theorem sum_any (a : Option Addr) (n c : Nat) (xs : List Int) (w : World) (hx : Ints w a n xs) (hn : n ≤ 6) (hb : Hid (∀ c : Nat, 0 ≤ xs[c]?.getD 0 ∧ xs[c]?.getD 0 ≤ 3)) :
    Calls Try.prog 84 #[.slice a n c] w fun e w' => e = .returned (.int .i64 (sumV xs)) ∧ Gr w w' := by
  have G := Gr.refl w
  refine X.calls 16 Try.func84 rfl rfl ?_
  intro A F0
  have F : Fr A 16 [(0, .slice a n c)] := F0.sub _ (by kernel_rfl)
  clear F0
  refine wp_seq ?_
  refine region_x F [some (.int .i64 0)] (X.RG w) rfl ⟨by kernel_rfl, of_decide_eq_true (by kernel_rfl), by kernel_rfl, by kernel_rfl, by kernel_rfl⟩ (fun _ => ⟨Gr.refl _, Gr.drew _⟩) ⟨?_, trivial⟩ ?_
  · intro A done u W S g
    replace g : Gr w W := g
    exact X.val (X.w0 rfl) rfl (X.assign rfl rfl) g
  intro A u w3 hs hd hl _ g
  replace g : Gr w w3 := g
  replace F : Fr A 16 [(0, .slice a n c), (2, .int .i64 0)] := X.fr hs hd hl _ (by kernel_rfl)
  clear hs hd hl
  replace G := G.trans g
  replace hx := hx.gr g
  clear g
  refine X.thenN ?_
  refine wp_seq ?_
  refine wp_seq ?_
  refine region_x F [some (.slice a n c), some (.int .i64 n), some (.int .i64 0)] (X.RG w3) rfl ⟨by kernel_rfl, of_decide_eq_true (by kernel_rfl), by kernel_rfl, by kernel_rfl, by kernel_rfl⟩ (fun _ => ⟨Gr.refl _, Gr.drew _⟩) ⟨?_, ?_, ?_, trivial⟩ ?_
  · intro A done u W S g
    replace g : Gr w3 W := g
    exact X.val (X.w0 rfl) rfl (X.move rfl (S.ev 0 (.slice a n c) (by kernel_rfl))) g
  · intro A done u W S g
    replace g : Gr w3 W := g
    exact X.val (X.w0 rfl) rfl (X.len1 Try.underlying26 rfl (S.ev 5 (.slice a n c) (by kernel_rfl))) g
  · intro A done u W S g
    replace g : Gr w3 W := g
    exact X.val (X.w0 rfl) rfl (X.move rfl rfl) g
  intro A u w4 hs hd hl _ g
  replace g : Gr w3 w4 := g
  replace F : Fr A 16 [(0, .slice a n c), (2, .int .i64 0), (5, .slice a n c), (6, .int .i64 n), (7, .int .i64 0)] := X.fr hs hd hl _ (by kernel_rfl)
  clear hs hd hl
  replace G := G.trans g
  replace hx := hx.gr g
  clear g
  refine X.thenN ?_
  refine wp_block ?_
  have hxB := hx
  have GB := G
  refine wp_loop_ghost (fun m A wr => ∃ k : Nat, m = n - k ∧ Gr w4 wr ∧ k ≤ n ∧ Fr A 16 [(0, .slice a n c), (2, .int .i64 (sumTo xs k)), (5, .slice a n c), (6, .int .i64 n), (7, .int .i64 k)]) _ ⟨0, rfl, Gr.refl _, Nat.zero_le _, F.sub _ (by kernel_rfl)⟩ ?_
  clear F
  intro m A w5 hI
  obtain ⟨k, rfl, gr, hk, F⟩ := hI
  replace G := GB.trans gr
  replace hx := hxB.gr gr
  have GB_ := gr
  clear gr
  refine wp_seq ?_
  refine region_x F [some (.bool (decide ((k : Int) < n)))] (X.RG w5) rfl ⟨by kernel_rfl, of_decide_eq_true (by kernel_rfl), by kernel_rfl, by kernel_rfl, by kernel_rfl⟩ (fun _ => ⟨Gr.refl _, Gr.drew _⟩) ⟨?_, trivial⟩ ?_
  · intro A done u W S g
    replace g : Gr w5 W := g
    exact X.val (X.w0 rfl) rfl (X.binop rfl (S.ev 7 (.int .i64 k) (by kernel_rfl)) (S.ev 6 (.int .i64 n) (by kernel_rfl)) (X.lssI Try.underlying3 rfl)) g
  intro A u w6 hs hd hl _ g
  replace g : Gr w5 w6 := g
  replace F : Fr A 16 [(0, .slice a n c), (2, .int .i64 (sumTo xs k)), (5, .slice a n c), (6, .int .i64 n), (7, .int .i64 k), (8, .bool (decide ((k : Int) < n)))] := X.fr hs hd hl _ (by kernel_rfl)
  clear hs hd hl
  replace G := G.trans g
  replace GB_ := GB_.trans g
  replace hx := hx.gr g
  clear g
  refine X.thenN ?_
  refine wp_seq ?_
  cases h7 : decide ((k : Int) < n) with
  | false =>
    try rw [h7] at F
    have h7p : ¬ ((k : Int) < n) := of_decide_eq_false h7
    obtain rfl : n = k := by omega
    have HF : Hid (sumTo xs n = sumV xs) := Lib.hid (by rw [← hx.len]; rfl)
    refine wp_cond_false (F.ev 8 (.bool false) rfl) ?_
    refine wp_exit ?_
    refine X.thenX ?_
    refine X.thenX ?_
    refine X.blockX ?_
    refine X.thenN ?_
    refine wp_seq ?_
    refine region_x F [some (.int .i64 (sumTo xs n)), some (.int .i64 (sumTo xs n))] (X.RG w6) rfl ⟨by kernel_rfl, of_decide_eq_true (by kernel_rfl), by kernel_rfl, by kernel_rfl, by kernel_rfl⟩ (fun _ => ⟨Gr.refl _, Gr.drew _⟩) ⟨?_, ?_, trivial⟩ ?_
    · intro A done u W S g
      replace g : Gr w6 W := g
      exact X.val (X.w0 rfl) rfl (X.move rfl (S.ev 2 (.int .i64 (sumTo xs n)) (by kernel_rfl))) g
    · intro A done u W S g
      replace g : Gr w6 W := g
      exact X.val (X.w0 rfl) rfl (X.assign rfl (S.ev 15 (.int .i64 (sumTo xs n)) (by kernel_rfl))) g
    intro A u w8 hs hd hl _ g
    replace g : Gr w6 w8 := g
    replace F : Fr A 16 [(0, .slice a n c), (2, .int .i64 (sumTo xs n)), (5, .slice a n c), (6, .int .i64 n), (7, .int .i64 n), (8, .bool false)] := X.fr hs hd hl _ (by kernel_rfl)
    clear hs hd hl
    replace G := G.trans g
    replace GB_ := GB_.trans g
    replace hx := hx.gr g
    clear g
    refine X.thenN ?_
    refine wp_ret ?_
    exact X.ret1 F rfl rfl ⟨by rw [HF.out], G⟩
  | true =>
    try rw [h7] at F
    have h7p : ((k : Int) < n) := of_decide_eq_true h7
    have hlt : k < n := by omega
    obtain ⟨pd, hpa, hpb, hpc⟩ := hx.at hlt
    subst hpa
    have hC : RCells w6 [(pd.add k, .int .i64 (xs[k]?.getD 0))] := RCells.cons hpc (RCells.nil _)
    have hbd := sumTo_bd (xs := xs) hb.out k (by omega)
    have hbk := hb.out k
    refine wp_cond_true (F.ev 8 (.bool true) rfl) ?_
    refine wp_skip ?_
    refine X.thenN ?_
    refine wp_seq ?_
    refine wp_block ?_
    refine wp_seq ?_
    refine region_x F [some (.pointer (some (pd.add k))), some (.int .i64 (xs[k]?.getD 0)), some (.int .i64 (xs[k]?.getD 0))] (X.RG w6) rfl ⟨by kernel_rfl, of_decide_eq_true (by kernel_rfl), by kernel_rfl, by kernel_rfl, by kernel_rfl⟩ (fun _ => ⟨Gr.refl _, Gr.drew _⟩) ⟨?_, ?_, ?_, trivial⟩ ?_
    · intro A done u W S g
      replace g : Gr w6 W := g
      exact X.val (X.w0 rfl) rfl (X.index rfl (S.ev 5 (.slice (some pd) n c) (by kernel_rfl)) (S.ev 7 (.int .i64 k) (by kernel_rfl)) (X.idx Try.underlying26 (Try.siz3 _) (by omega) rfl (by rw [Nat.mul_one]))) g
    · intro A done u W S g
      replace g : Gr w6 W := g
      exact X.val (X.w0 rfl) rfl (X.load rfl (S.ev 9 (.pointer (some (pd.add k))) (by kernel_rfl)) (X.ld1 (Try.agg3 _) ((hC.gr g).at 0 rfl))) g
    · intro A done u W S g
      replace g : Gr w6 W := g
      exact X.val (X.w0 rfl) rfl (X.assign rfl (S.ev 10 (.int .i64 (xs[k]?.getD 0)) (by kernel_rfl))) g
    intro A u w9 hs hd hl _ g
    replace g : Gr w6 w9 := g
    replace F : Fr A 16 [(0, .slice (some pd) n c), (2, .int .i64 (sumTo xs k)), (4, .int .i64 (xs[k]?.getD 0)), (5, .slice (some pd) n c), (6, .int .i64 n), (7, .int .i64 k), (8, .bool true)] := X.fr hs hd hl _ (by kernel_rfl)
    clear hs hd hl
    replace G := G.trans g
    replace hC := hC.gr g
    replace GB_ := GB_.trans g
    replace hx := hx.gr g
    clear g
    refine X.thenN ?_
    refine region_x F [some (.int .i64 (sumTo xs k)), some (.int .i64 (xs[k]?.getD 0)), some (.int .i64 ((sumTo xs k : Int) + (xs[k]?.getD 0))), some (.int .i64 ((sumTo xs k : Int) + (xs[k]?.getD 0)))] (X.RG w9) rfl ⟨by kernel_rfl, of_decide_eq_true (by kernel_rfl), by kernel_rfl, by kernel_rfl, by kernel_rfl⟩ (fun _ => ⟨Gr.refl _, Gr.drew _⟩) ⟨?_, ?_, ?_, ?_, trivial⟩ ?_
    · intro A done u W S g
      replace g : Gr w9 W := g
      exact X.val (X.w0 rfl) rfl (X.move rfl (S.ev 2 (.int .i64 (sumTo xs k)) (by kernel_rfl))) g
    · intro A done u W S g
      replace g : Gr w9 W := g
      exact X.val (X.w0 rfl) rfl (X.move rfl (S.ev 4 (.int .i64 (xs[k]?.getD 0)) (by kernel_rfl))) g
    · intro A done u W S g
      replace g : Gr w9 W := g
      exact X.val (X.w0 rfl) rfl (X.binop rfl (S.ev 11 (.int .i64 (sumTo xs k)) (by kernel_rfl)) (S.ev 12 (.int .i64 (xs[k]?.getD 0)) (by kernel_rfl)) (X.addI Try.underlying3 rfl (by omega) (by omega))) g
    · intro A done u W S g
      replace g : Gr w9 W := g
      exact X.val (X.w0 rfl) rfl (X.assign rfl (S.ev 13 (.int .i64 ((sumTo xs k : Int) + (xs[k]?.getD 0))) (by kernel_rfl))) g
    intro A u w10 hs hd hl _ g
    replace g : Gr w9 w10 := g
    replace F : Fr A 16 [(0, .slice (some pd) n c), (2, .int .i64 ((sumTo xs k : Int) + (xs[k]?.getD 0))), (4, .int .i64 (xs[k]?.getD 0)), (5, .slice (some pd) n c), (6, .int .i64 n), (7, .int .i64 k), (8, .bool true)] := X.fr hs hd hl _ (by kernel_rfl)
    clear hs hd hl
    replace G := G.trans g
    replace hC := hC.gr g
    replace GB_ := GB_.trans g
    replace hx := hx.gr g
    clear g
    refine X.blockN ?_
    refine X.thenN ?_
    refine region_x F [some (.int .i64 ((k : Int) + 1)), some (.int .i64 ((k : Int) + 1))] (X.RG w10) rfl ⟨by kernel_rfl, of_decide_eq_true (by kernel_rfl), by kernel_rfl, by kernel_rfl, by kernel_rfl⟩ (fun _ => ⟨Gr.refl _, Gr.drew _⟩) ⟨?_, ?_, trivial⟩ ?_
    · intro A done u W S g
      replace g : Gr w10 W := g
      exact X.val (X.w0 rfl) rfl (X.binop rfl (S.ev 7 (.int .i64 k) (by kernel_rfl)) rfl (X.addI Try.underlying3 rfl (by omega) (by omega))) g
    · intro A done u W S g
      replace g : Gr w10 W := g
      exact X.val (X.w0 rfl) rfl (X.move rfl (S.ev 14 (.int .i64 ((k : Int) + 1)) (by kernel_rfl))) g
    intro A u w11 hs hd hl _ g
    replace g : Gr w10 w11 := g
    replace F : Fr A 16 [(0, .slice (some pd) n c), (2, .int .i64 ((sumTo xs k : Int) + (xs[k]?.getD 0))), (4, .int .i64 (xs[k]?.getD 0)), (5, .slice (some pd) n c), (6, .int .i64 n), (7, .int .i64 ((k : Int) + 1)), (8, .bool true)] := X.fr hs hd hl _ (by kernel_rfl)
    clear hs hd hl
    replace G := G.trans g
    replace hC := hC.gr g
    replace GB_ := GB_.trans g
    replace hx := hx.gr g
    clear g
    refine X.thenN ?_
    refine ⟨_, ?_, k + 1, rfl, GB_, by omega, F.sub _ (by kernel_rfl)⟩
    omega
end
end Go.Proofs.Ytlilojpnhmfnaaa
