/- CheckPlan: plain words, and the list of a state and a plan. -/
import Derived.Test.YtlilojpnhmfnaaaLook
import Derived.Deep.Upon
namespace Go.Proofs.Ytlilojpnhmfnaaa
open Go.RowKit

/-- the first step of a plan that is none, and why -/
def cpLoop (f : Fl) (bu : Int) : List Int → List (List Int) → Int → Int × Int
  | _, [], _ => (0, 0)
  | p, s :: r, i => if worksB f s then (if stepsB f.times p s bu then cpLoop f bu s r (i + 1) else (i, 112)) else (i, 111)
def cpPre (f : Fl) (a : List Int) (L : List (List Int)) (bu : Int) : Int := if chkE f = 0 then (if 64 < L.length then 1 else beginE f bu (a :: L)) else chkE f
/-- what CheckPlan returns -/
def cpR (f : Fl) (a : List Int) (L : List (List Int)) (bu : Int) : Int × Int := if cpPre f a L bu = 0 then (if worksB f a then cpLoop f bu a L 0 else (-1, 111)) else (0, cpPre f a L bu)

theorem list_pick {α : Type} {P : Nat → α → Prop} (d : α) : ∀ n, (∀ j, j < n → ∃ x, P j x) → ∃ L : List α, L.length = n ∧ ∀ j, j < n → P j (L[j]?.getD d) := by
  intro n
  induction n with
  | zero => intro _; exact ⟨[], rfl, fun j hj => by omega⟩
  | succ n ih =>
    intro h
    obtain ⟨L, hl, hL⟩ := ih (fun j hj => h j (by omega))
    obtain ⟨x, hx⟩ := h n (by omega)
    refine ⟨L ++ [x], by simp [hl], fun j hj => ?_⟩
    by_cases e : j = n
    · subst e; rw [← hl]; simpa [hl] using hx
    · rw [List.getElem?_append_left (by omega)]; exact hL j (by omega)

/-- the cells of a list of states -/
theorem RowsAt.vals {w : World} {ad : Addr} {n : Nat} {L : List (List Int)} (h : RowsAt w (some ad) n L) : ∃ vs : List Value, vs.length = n ∧ ∀ j, j < n → ∃ a' n' c', vs[j]? = some (.slice a' n' c') ∧ w.cell? (ad.add j) = some (.slice a' n' c') ∧ Ints w a' n' (L[j]?.getD []) := by
  obtain ⟨vs, h1, h2⟩ := list_pick (P := fun j (v : Value) => ∃ a' n' c', v = .slice a' n' c' ∧ w.cell? (ad.add j) = some (.slice a' n' c') ∧ Ints w a' n' (L[j]?.getD [])) undef n (fun j hj => by
    obtain ⟨ad', a', n', c', e, _, hc, hi⟩ := h.at hj
    cases e
    exact ⟨_, a', n', c', rfl, hc, hi⟩)
  refine ⟨vs, h1, fun j hj => ?_⟩
  obtain ⟨a', n', c', e, hc, hi⟩ := h2 j hj
  have hlt : j < vs.length := by omega
  refine ⟨a', n', c', ?_, hc, hi⟩
  simp [hlt] at e
  simp [hlt, e]

theorem src_none (w : World) (pa : Option Addr) (pc : Nat) : Src Try.prog 1 22 (.slice pa 0 pc) 0 [] w := by
  refine ⟨.inl ⟨26, Try.underlying22⟩, fun w' => ?_, ?_, ?_, rfl, fun u hu => by simp at hu⟩
  · simp [Builtin.lenOf]
  · cases pa <;> simp [Builtin.firstCells, loadCells, loadCellsFrom]
  · cases pa <;> simp [Builtin.firstCells, loadCells, loadCellsFrom]

/-- append of a list of states to a new list of one state -/
theorem cp_append {o : Oper} {a : Act} {w3 W : World} {K : Act → World → Prop} {Q : Exit → Act → World → Prop} {s x : Operand} {sa pa : Option Addr} {n c pn pc g : Nat} {xs : List Int} {L : List (List Int)}
    (ho : o.op = .call { callee := .builtin .append, args := #[s, x], argTypes := #[22, 22] }) (hs : a.eval s = .slice (some ⟨g, 0, none⟩) 1 1) (hx : a.eval x = .slice pa pn pc)
    (hg : W.heap[g]? = some (.cells #[.slice sa n c] 26 (0, 0))) (hge : w3.heap.size ≤ g) (hgr : Gr w3 W) (hi : Ints w3 sa n xs) (hL : RowsAt w3 pa pn L) (h64 : pn ≤ 64)
    (h : ∀ ra rc w6, RowsAt w6 ra (pn + 1) (xs :: L) → Gr w3 w6 → K (a.put o.dst (.slice ra (pn + 1) rc)) w6) : o.wp Try.prog a W K Q := by
  obtain ⟨i0, hi0, hz0, hz1, hz2⟩ := info_parts Try.info26
  have hgl : g < W.heap.size := (Array.getElem?_eq_some_iff.1 hg).1
  by_cases hp : pn = 0
  · subst hp
    have hL0 : L = [] := List.eq_nil_of_length_eq_zero hL.len
    subst hL0
    have hsrc := src_none W pa pc
    rw [← hz1] at hsrc
    have hrun := run_append_nothing (P := Try.prog) W 22 22 o.type 26 i0 Try.underlying22 hi0 (some ⟨g, 0, none⟩) 1 1 (Nat.le_refl _) _ hsrc
    unfold Oper.wp execOp
    simp only [ho, resolve, invoke, builtin, Sem.run_bind, Sem.run_pure, Result.andThen_ok, List.map_toArray, List.map_cons, List.map_nil, hs, hx, hrun]
    exact h _ _ _ (rows1 (c := c) hgl (cell_at hg rfl) (hi.gr hgr)) hgr
  · obtain ⟨ad, a', n', c', rfl, _⟩ := hL.at (j := 0) (by omega)
    obtain ⟨vs, hv1, hv2⟩ := (hL.gr hgr).vals
    have hown : W.ownsRow w3.heap.size 26 1 (.slice (some ⟨g, 0, none⟩) 1 1) 1 [.slice sa n c] := ⟨rfl, .inr ⟨g, 1, #[.slice sa n c], rfl, hge, hg, Nat.le_refl _, by unfold maxLen; omega, rfl, rfl⟩⟩
    refine wp_append_own W s x 22 ho w3.heap.size 26 i0 (.slice none 0 0) 1 24 Try.underlying22 hi0 hz0 hz1 hz2 rfl (by decide) _ 1 _ hs hown ad pn pc vs hx (by rw [hv1, Nat.mul_one]) (fun j u hu => ?_) (fun u hu => ?_) (by unfold maxLen; omega) (by omega) hgr.size (fun v' w6 hown' hgrow _ => ?_)
    · have hj : j < pn := by have := (List.getElem?_eq_some_iff.1 hu).1; omega
      obtain ⟨a1, n1, c1, e, hc, _⟩ := hv2 j hj
      rw [e] at hu
      cases hu
      exact hc
    · obtain ⟨j, hj, e⟩ := List.mem_iff_getElem.1 hu
      obtain ⟨a1, n1, c1, e2, _, _⟩ := hv2 j (by omega)
      rw [List.getElem?_eq_getElem hj, e] at e2
      cases e2
      rfl
    · have hO := only_grown hgrow
      have hg6 : Gr w3 w6 := ((hgr.only (fun b => b = g)).trans (hO.mono' (fun i e => by simp [Value.ownBlock] at e; exact e.symm))).gr (fun i hi e => by omega)
      rcases hown'.2 with ⟨_, h0⟩ | ⟨g', cap, cur, rfl, _, hg', _⟩
      · omega
      · have e1 : 1 + pn = pn + 1 := by omega
        rw [e1] at hown' ⊢
        refine h _ _ _ ⟨by simp [hL.len], by omega, fun j hj => ?_⟩ hg6
        have hgl' := (Array.getElem?_eq_some_iff.1 hg').1
        cases j with
        | zero => exact ⟨⟨g', 0, none⟩, sa, n, c, rfl, hgl', hown'.cells (g := g') rfl 0 _ (by simp), hi.gr hg6⟩
        | succ j =>
          obtain ⟨a1, n1, c1, e, _, hi1⟩ := hv2 j (by omega)
          obtain ⟨_, a2, n2, c2, e3, _, hc2, hi2⟩ := hL.at (j := j) (by omega)
          cases e3
          obtain ⟨a3, n3, c3, e4, hc4, _⟩ := hv2 j (by omega)
          have hc2' := (hgr.cell (lt_cell hc2)).trans hc2
          rw [hc2'] at hc4
          cases hc4
          refine ⟨⟨g', 0, none⟩, a2, n2, c2, rfl, hgl', hown'.cells (g := g') rfl (j + 1) _ (by simp [e4]), ?_⟩
          simpa using hi2.gr hg6

structure R23 (w3 : World) (v : Value) (xs : List Int) (L : List (List Int)) (m : Nat) (done : Nat → Bool) (u : Nat → Value) (W : World) : Prop where
  gr : Gr w3 W
  one : done 5 = false → done 3 = true → ∃ g, u 3 = .slice (some ⟨g, 0, none⟩) 1 1 ∧ w3.heap.size ≤ g ∧ W.heap[g]? = some (.cells #[v] 26 (0, 0))
  all : done 5 = true → ∃ ra rc, u 5 = .slice ra m rc ∧ RowsAt W ra m (xs :: L)
theorem R23.start (w3 : World) (v : Value) (xs : List Int) (L : List (List Int)) (m : Nat) (u : Nat → Value) : R23 w3 v xs L m (fun _ => false) u w3.drew := ⟨Gr.drew _, (fun _ h => by cases h), (fun h => by cases h)⟩
theorem R23.quiet {w3 W : World} {v : Value} {xs : List Int} {L : List (List Int)} {m : Nat} {done : Nat → Bool} {u : Nat → Value} (h : R23 w3 v xs L m done u W) {i : Nat} (h3 : 3 ≠ i) (h5 : 5 ≠ i) {x : Value} : R23 w3 v xs L m (upd done i) (fun j => if j = i then x else u j) W := by
  refine ⟨h.gr, ?_, ?_⟩ <;> simp only [upd_ne h3, upd_ne h5, if_neg h3, if_neg h5]
  · exact h.one
  · exact h.all
theorem R23.made {w3 W : World} {v : Value} {xs : List Int} {L : List (List Int)} {m : Nat} {done : Nat → Bool} {u : Nat → Value} (h : R23 w3 v xs L m done u W) (h5 : done 5 = false) : R23 w3 v xs L m (upd done 3) (fun j => if j = 3 then .slice (some ⟨W.heap.size, 0, none⟩) 1 1 else u j) (W.alloc (.cells #[v] 26)) :=
  ⟨h.gr.allocR _, fun _ _ => ⟨W.heap.size, by simp, h.gr.size, World.alloc_heap_new _ _⟩, (fun h => by rw [upd_ne (by decide), h5] at h; cases h)⟩
theorem R23.app {w3 W w6 : World} {v : Value} {xs : List Int} {L : List (List Int)} {m : Nat} {done : Nat → Bool} {u : Nat → Value} (h : R23 w3 v xs L m done u W) {ra : Option Addr} {rc : Nat} (hr : RowsAt w6 ra m (xs :: L)) (g : Gr w3 w6) : R23 w3 v xs L m (upd done 5) (fun j => if j = 5 then .slice ra m rc else u j) w6 :=
  ⟨g, (fun h => by rw [upd_self] at h; cases h), fun _ => ⟨ra, rc, by simp, hr⟩⟩
theorem R23.call {w3 W w6 : World} {v : Value} {xs : List Int} {L : List (List Int)} {m : Nat} {done : Nat → Bool} {u : Nat → Value} (h : R23 w3 v xs L m done u W) (h5 : done 5 = true) {x : Value} (g : Gr W w6) : R23 w3 v xs L m (upd done 6) (fun j => if j = 6 then x else u j) w6 := by
  refine ⟨h.gr.trans g, (fun hh => by rw [upd_ne (by decide), h5] at hh; cases hh), fun _ => ?_⟩
  obtain ⟨ra, rc, e, hr⟩ := h.all h5
  exact ⟨ra, rc, by simpa using e, hr.gr g⟩
end Go.Proofs.Ytlilojpnhmfnaaa
