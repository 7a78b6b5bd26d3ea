/- Several texts of this claim in one file. (1) The chapter's example, in plain words; rows of structures that are written out. Nothing of the program is walked here. (2) Lists of nudges that a call makes. Nothing of the program is walked here. (3) More on lists of nudges that a call makes; remainders of any number. Nothing of the program is walked here. (4) A table of numbers and lists of numbers; append of a list. Nothing of the program is walked here. (5) Contract: the reference's better. (6) Contract: the tokens behind some ticks. -/
import Derived.Test.YtoalamakhjbedaaBd7
import Derived.Test.YtoalamakhjbedaaBd12
import Derived.Test.YtoalamakhjbedaaBd3
import Derived.Test.YtoalamakhjbedaaBd8
import Derived.Deep.Upon
import Derived.Test.YtoalamakhjbedaaBd2
namespace Go.Proofs.Ytoalamakhjbedaa
section
set_option linter.unusedVariables false
open Go.RowKit
theorem stc {P : Program} {b n : Nat} : ∀ (rest : List Value) (i : Nat) (W : World) (val : Nat → Value), OwnP W b n val → i + rest.length ≤ n → (rest.all fun v => v.oneCell') = true →
    ∃ W', (storeCells ⟨b, 0, none⟩ rest i).run P W = .ok () W' ∧ OwnP W' b n (fun k => if i ≤ k ∧ k < i + rest.length then rest.getD (k - i) undef else val k) ∧ Only (fun z => z = b) W W' := by
  intro rest
  induction rest with
  | nil => intro i W val h _ _; exact ⟨W, by simp [storeCells, go_sem], h.congr (fun k _ => by rw [if_neg (by simp only [List.length_nil]; omega)]), Only.refl _ _⟩
  | cons v rest ih =>
    intro i W val h hi h1
    simp only [List.all_cons, Bool.and_eq_true, List.length_cons] at h1 hi
    have hs := run_store P W ⟨b, i, none⟩ v .plain h1.1
    rw [h.cell (k := i) (by omega), h.fz] at hs
    simp only [Bool.false_eq_true, if_false] at hs
    obtain ⟨W', hr, hO, hon⟩ := ih (i + 1) _ _ (h.set (k := i) v) (by omega) h1.2
    refine ⟨W', ?_, hO.congr (fun k hk => ?_), (Y.set_only _ _ _ _).trans hon⟩
    · have e : (⟨b, 0, none⟩ : Addr).add i = ⟨b, i, none⟩ := addr_add0 _ _
      simp [storeCells, e, hs, go_sem]
      exact hr
    · simp only [List.length_cons]
      by_cases e : k = i
      · subst e; rw [if_neg (by omega), if_pos rfl, if_pos (by omega)]; simp
      · by_cases e2 : i + 1 ≤ k ∧ k < i + 1 + rest.length
        · rw [if_pos e2, if_pos (by omega), show k - i = (k - (i + 1)) + 1 by omega]; simp
        · rw [if_neg e2, if_neg e, if_neg (by omega)]
theorem OwnP.stL {P : Program} {W : World} {b n : Nat} {val : Nat → Value} {t : TypeId} (vs : List Value) (h : OwnP W b n val) (hn : vs.length = n) (hS : ∀ W, (sizeOf t).run P W = .ok vs.length W) (h1 : (vs.all fun v => v.oneCell') = true) :
    ∃ W', (Instr.storeAt t (.pointer (some ⟨b, 0, none⟩)) (.agg vs.toArray)).run P W = .ok () W' ∧ OwnP W' b n (VL vs) ∧ Only (fun z => z = b) W W' := by
  obtain ⟨W', hr, hO, hon⟩ := stc (P := P) vs 0 W val h (by omega) h1
  refine ⟨W', ?_, hO.congr (fun k hk => ?_), hon⟩
  · simp [Instr.storeAt, storeVar, Instr.sureAddr, hS, Value.cells, go_sem]
    exact hr
  · rw [if_pos (by omega)]; rfl
theorem stAt_own {W : World} {b n k : Nat} {L : List (List Int)} (h : OwnP W b (n * k) (fun j => .int .i64 (cv L (j / k) (j % k)))) (hl : L.length = n) (hk : ∀ j, j < n → (L[j]?.getD []).length = k) (hn : n * k * 8 ≤ 140737488351232) : StAt W k (some ⟨b, 0, none⟩) n L :=
  ⟨hl, hn, fun j hj => ⟨_, rfl, h.lt, hk j hj, fun r hr => by
    rw [addr_add0, Y.addr_add]
    have h1 : (j * k + r) / k = j := by
      rw [Nat.mul_comm, Nat.mul_add_div (by omega), Nat.div_eq_of_lt hr, Nat.add_zero]
    have h2 : (j * k + r) % k = r := by
      rw [Nat.mul_comm, Nat.mul_add_mod, Nat.mod_eq_of_lt hr]
    have h3 : j * k + r < n * k := by
      have := Nat.mul_le_mul_right k (show j + 1 ≤ n by omega)
      rw [Nat.add_mul, Nat.one_mul] at this
      omega
    rw [h.cell h3]
    show some (Value.int .i64 (cv L ((j * k + r) / k) ((j * k + r) % k))) = _
    rw [h1, h2]; rfl⟩⟩
def exN : List (List Int) := [[1, 10, 1, 1, 5], [3, 20, 2, 2, 10], [2, 30, 0, 0, 1]]
def exL : List (List Int) := [[1, 1, 1, 0], [2, 2, 1, 0]]
set_option maxRecDepth 100000 in
theorem ex_e : playE 2 3 exN 6 exL = 0 := by decide +kernel
set_option maxRecDepth 100000 in
theorem ex_t : ticksE 2 3 exN 8 = 0 := by decide +kernel
set_option maxRecDepth 100000 in
theorem ex_p : parkV 2 3 exN 8 = 186 := by decide +kernel
set_option maxRecDepth 100000 in
theorem ex_pr : playRows 2 3 exN 6 exL = [0, 3, 3, 3, 0, 0] := by decide +kernel
set_option maxRecDepth 100000 in
theorem ex_en : playEn 2 3 exN 6 exL = [33, 66, 0] := by decide +kernel
theorem exN_at {W : World} {b : Nat} {t : TypeId} (h : W.heap[b]? = some (.cells #[.int .i64 1, .int .i64 10, .int .i64 1, .int .i64 1, .int .i64 5, .int .i64 3, .int .i64 20, .int .i64 2, .int .i64 2, .int .i64 10, .int .i64 2, .int .i64 30, .int .i64 0, .int .i64 0, .int .i64 1] t)) : StAt W 5 (some ⟨b, 0, none⟩) 3 exN :=
  stAt_own ⟨_, _, h, by simp, fun k hk => by
    match k, hk with
    | 0, _ | 1, _ | 2, _ | 3, _ | 4, _ | 5, _ | 6, _ | 7, _ | 8, _ | 9, _ | 10, _ | 11, _ | 12, _ | 13, _ | 14, _ => rfl⟩ rfl (fun j hj => by
    match j, hj with
    | 0, _ | 1, _ | 2, _ => rfl) (by decide)
theorem exL_at {W : World} {b : Nat} {t : TypeId} (h : W.heap[b]? = some (.cells #[.int .i64 1, .int .i64 1, .int .i64 1, .int .i64 0, .int .i64 2, .int .i64 2, .int .i64 1, .int .i64 0] t)) : StAt W 4 (some ⟨b, 0, none⟩) 2 exL :=
  stAt_own ⟨_, _, h, by simp, fun k hk => by
    match k, hk with
    | 0, _ | 1, _ | 2, _ | 3, _ | 4, _ | 5, _ | 6, _ | 7, _ => rfl⟩ rfl (fun j hj => by
    match j, hj with
    | 0, _ | 1, _ => rfl) (by decide)
theorem Try.exb1 (W : World) : (Instr.build 31 #[(0, .int .i64 1), (1, .int .i64 10), (2, .int .i64 1), (3, .int .i64 1), (4, .int .i64 5)]).run Try.prog W = .ok (.agg #[.int .i64 1, .int .i64 10, .int .i64 1, .int .i64 1, .int .i64 5]) W := by kernel_rfl
theorem Try.exb2 (W : World) : (Instr.build 31 #[(0, .int .i64 3), (1, .int .i64 20), (2, .int .i64 2), (3, .int .i64 2), (4, .int .i64 10)]).run Try.prog W = .ok (.agg #[.int .i64 3, .int .i64 20, .int .i64 2, .int .i64 2, .int .i64 10]) W := by kernel_rfl
theorem Try.exb3 (W : World) : (Instr.build 31 #[(0, .int .i64 2), (1, .int .i64 30), (4, .int .i64 1)]).run Try.prog W = .ok (.agg #[.int .i64 2, .int .i64 30, .int .i64 0, .int .i64 0, .int .i64 1]) W := by kernel_rfl
theorem Try.exs (W : World) : (Instr.buildSlice 22 3 #[(0, .agg #[.int .i64 1, .int .i64 10, .int .i64 1, .int .i64 1, .int .i64 5]), (1, .agg #[.int .i64 3, .int .i64 20, .int .i64 2, .int .i64 2, .int .i64 10]), (2, .agg #[.int .i64 2, .int .i64 30, .int .i64 0, .int .i64 0, .int .i64 1])]).run Try.prog W = .ok (.slice (some ⟨W.heap.size, 0, none⟩) 3 3) (W.alloc (.cells #[.int .i64 1, .int .i64 10, .int .i64 1, .int .i64 1, .int .i64 5, .int .i64 3, .int .i64 20, .int .i64 2, .int .i64 2, .int .i64 10, .int .i64 2, .int .i64 30, .int .i64 0, .int .i64 0, .int .i64 1] 31)) := by kernel_rfl
theorem Try.exc (a : Option Addr) (n c : Nat) (g h : Int) (W : World) : (Instr.build 24 #[(0, .int .i64 g), (1, .int .i64 h), (2, .slice a n c)]).run Try.prog W = .ok (.agg #[.int .i64 g, .int .i64 h, .slice a n c]) W := by kernel_rfl
theorem Try.exn1 (W : World) : (Instr.build 33 #[(0, .int .i64 1), (1, .int .i64 1), (2, .int .i64 1)]).run Try.prog W = .ok (.agg #[.int .i64 1, .int .i64 1, .int .i64 1, .int .i64 0]) W := by kernel_rfl
theorem Try.exn2 (W : World) : (Instr.build 33 #[(0, .int .i64 2), (1, .int .i64 2), (2, .int .i64 1)]).run Try.prog W = .ok (.agg #[.int .i64 2, .int .i64 2, .int .i64 1, .int .i64 0]) W := by kernel_rfl
theorem Try.exm (W : World) : (Instr.buildSlice 25 2 #[(0, .agg #[.int .i64 1, .int .i64 1, .int .i64 1, .int .i64 0]), (1, .agg #[.int .i64 2, .int .i64 2, .int .i64 1, .int .i64 0])]).run Try.prog W = .ok (.slice (some ⟨W.heap.size, 0, none⟩) 2 2) (W.alloc (.cells #[.int .i64 1, .int .i64 1, .int .i64 1, .int .i64 0, .int .i64 2, .int .i64 2, .int .i64 1, .int .i64 0] 33)) := by kernel_rfl
theorem Try.exr (W : World) : (Instr.buildSlice 34 6 #[(0, .int .i64 0), (1, .int .i64 3), (2, .int .i64 3), (3, .int .i64 3), (4, .int .i64 0), (5, .int .i64 0)]).run Try.prog W = .ok (.slice (some ⟨W.heap.size, 0, none⟩) 6 6) (W.alloc (.cells #[.int .i64 0, .int .i64 3, .int .i64 3, .int .i64 3, .int .i64 0, .int .i64 0] 3)) := by kernel_rfl
theorem Try.exq (W : World) : (Instr.buildSlice 34 3 #[(0, .int .i64 33), (1, .int .i64 66), (2, .int .i64 0)]).run Try.prog W = .ok (.slice (some ⟨W.heap.size, 0, none⟩) 3 3) (W.alloc (.cells #[.int .i64 33, .int .i64 66, .int .i64 0] 3)) := by kernel_rfl
theorem exr_at {W : World} {b : Nat} {t : TypeId} (h : W.heap[b]? = some (.cells #[.int .i64 0, .int .i64 3, .int .i64 3, .int .i64 3, .int .i64 0, .int .i64 0] t)) : Ints W (some ⟨b, 0, none⟩) 6 [0, 3, 3, 3, 0, 0] :=
  ⟨rfl, by decide, fun j hj => ⟨_, rfl, (Array.getElem?_eq_some_iff.1 h).1, by
    rw [addr_add0]
    exact cell_at h (by
      match j, hj with
      | 0, _ | 1, _ | 2, _ | 3, _ | 4, _ | 5, _ => rfl)⟩⟩
theorem exq_at {W : World} {b : Nat} {t : TypeId} (h : W.heap[b]? = some (.cells #[.int .i64 33, .int .i64 66, .int .i64 0] t)) : Ints W (some ⟨b, 0, none⟩) 3 [33, 66, 0] :=
  ⟨rfl, by decide, fun j hj => ⟨_, rfl, (Array.getElem?_eq_some_iff.1 h).1, by
    rw [addr_add0]
    exact cell_at h (by
      match j, hj with
      | 0, _ | 1, _ | 2, _ => rfl)⟩⟩
theorem Y.rc13 {P : Program} {A : Act} {W : World} {n : Nat} {L : List (Nat × Value)} {D : List Deferred} {fn : Func} {s b : Nat} {t : TypeId} {x y z : Value} (F : Fr A n L D) (hr : fn.results = #[.cell s t]) (hA : (isAgg t).run P W = .ok true W) (hS : (sizeOf t).run P W = .ok 3 W) (hp : lookS L s = some (.pointer (some ⟨b, 0, none⟩))) (h : OwnP W b 3 (VL [x, y, z])) : (results fn A.tmps).run P W = .ok (.agg #[x, y, z]) W := by
  have e := F.look hp
  have hl : W.cell? ⟨b, 0, none⟩ = some x := h.cell (k := 0) (by decide)
  have hl1 : W.cell? ⟨b, 1, none⟩ = some y := h.cell (k := 1) (by decide)
  have hl2 : W.cell? ⟨b, 2, none⟩ = some z := h.cell (k := 2) (by decide)
  simp [results, hr, e, asAddr, hl, hl1, hl2, hA, hS, go_sem]
theorem same_no {xs ys : List Int} {j : Nat} (hj : j < xs.length) (hl : xs.length = ys.length) (h : ¬ xs[j]?.getD 0 = ys[j]?.getD 0) : decide (xs = ys) = false := by
  simp only [decide_eq_false_iff_not]
  intro e; subst e; exact h rfl
theorem same_yes {xs ys : List Int} (hl : xs.length = ys.length) (h : ∀ j, j < xs.length → xs[j]?.getD 0 = ys[j]?.getD 0) : decide (xs = ys) = true := by
  simp only [decide_eq_true_eq]
  apply List.ext_getElem hl
  intro i h1 h2
  have := h i h1
  rw [List.getElem?_eq_getElem h1, List.getElem?_eq_getElem h2] at this
  simpa using this
end
section
set_option linter.unusedVariables false
open Go.RowKit
end
section
set_option linter.unusedVariables false
open Go.RowKit
theorem addr_own (g j : Nat) : (⟨g, 0, none⟩ : Addr).add (j * 1) = ⟨g, j, none⟩ := by rw [Nat.mul_one]; exact addr_add0 g j
end
section
set_option linter.unusedVariables false
open Go.RowKit
/-- what a cell of the table holds -/
def WCell (W : World) (p : Nd) (B tb hi : Nat) (y k : Nat) (u v : Value) : Prop :=
  u = .int .i64 (bestV p y k).1 ∧ ∃ a c, v = .slice a (noiV p y k).length c ∧ Ints W a (noiV p y k).length (noiV p y k) ∧ (a = none → c = 0) ∧ ∀ ad, a = some ad → B ≤ ad.block ∧ ad.block < hi ∧ ¬ ad.block = tb
/-- a row that is done -/
def RowD (W : World) (p : Nd) (N B tb hi rb y : Nat) : Prop := ∃ val, OwnP W rb (N * 2) val ∧ ∀ k, k < N → WCell W p B tb hi y k (val (k * 2)) (val (k * 2 + 1))
/-- a row in the making -/
def RowM (W : World) (p : Nd) (N B tb hi rb y x : Nat) : Prop := ∃ val, OwnP W rb (N * 2) val ∧ ∀ k, k < N → (k < x → WCell W p B tb hi y k (val (k * 2)) (val (k * 2 + 1)) ∧ ∀ ad n c, val (k * 2 + 1) = .slice (some ad) n c → ¬ ad.block = rb) ∧ (x ≤ k → val (k * 2) = .int .i64 0 ∧ val (k * 2 + 1) = .slice none 0 0)
def TbW (W : World) (tb T N : Nat) (p : Nd) (z hi B : Nat) : Prop :=
  ∃ TV : Nat → Value, OwnP W tb (T + 1) TV ∧ tb < hi ∧ B ≤ tb ∧ ∀ t, z ≤ t → t ≤ T → ∃ b, TV t = .slice (some ⟨b, 0, none⟩) N N ∧ B ≤ b ∧ b < hi ∧ ¬ b = tb ∧ RowD W p N B tb hi b t
section
variable {W W' : World} {tb T N z hi hi' B rb y x : Nat} {p : Nd} {S : Nat → Prop} {u v : Value} {k : Nat}
theorem WCell.only (h : WCell W p B tb hi y k u v) (g : Only S W W') (hS : ∀ b, B ≤ b → b < hi → ¬ b = tb → ¬ S b) : WCell W' p B tb hi y k u v := by
  obtain ⟨h1, a, c, h2, h3, h4, h5⟩ := h
  exact ⟨h1, a, c, h2, h3.onlyAt g (fun ad e hs => hS _ (h5 ad e).1 (h5 ad e).2.1 (h5 ad e).2.2 hs), h4, h5⟩
theorem WCell.up (h : WCell W p B tb hi y k u v) (hh : hi ≤ hi') : WCell W p B tb hi' y k u v := by
  obtain ⟨h1, a, c, h2, h3, h4, h5⟩ := h
  exact ⟨h1, a, c, h2, h3, h4, fun ad e => ⟨(h5 ad e).1, Nat.lt_of_lt_of_le (h5 ad e).2.1 hh, (h5 ad e).2.2⟩⟩
theorem RowD.only (h : RowD W p N B tb hi rb y) (g : Only S W W') (hr : ¬ S rb) (hS : ∀ b, B ≤ b → b < hi → ¬ b = tb → ¬ S b) : RowD W' p N B tb hi rb y := by
  obtain ⟨val, h1, h2⟩ := h
  exact ⟨val, h1.only g hr, fun k hk => (h2 k hk).only g hS⟩
theorem RowM.only (h : RowM W p N B tb hi rb y x) (g : Only S W W') (hr : ¬ S rb) (hS : ∀ b, B ≤ b → b < hi → ¬ b = tb → ¬ S b) : RowM W' p N B tb hi rb y x := by
  obtain ⟨val, h1, h2⟩ := h
  exact ⟨val, h1.only g hr, fun k hk => ⟨fun hx => ⟨((h2 k hk).1 hx).1.only g hS, ((h2 k hk).1 hx).2⟩, (h2 k hk).2⟩⟩
theorem RowM.up (h : RowM W p N B tb hi rb y x) (hh : hi ≤ hi') : RowM W p N B tb hi' rb y x := by
  obtain ⟨val, h1, h2⟩ := h
  exact ⟨val, h1, fun k hk => ⟨fun hx => ⟨((h2 k hk).1 hx).1.up hh, ((h2 k hk).1 hx).2⟩, (h2 k hk).2⟩⟩
theorem RowM.gr (h : RowM W p N B tb hi rb y x) (g : Gr W W') : RowM W' p N B tb hi rb y x := h.only (g.only (fun _ => False)) (fun h => h) (fun _ _ _ _ h => h)
theorem RowM.lt (h : RowM W p N B tb hi rb y x) : rb < W.heap.size := by
  obtain ⟨val, h1, _⟩ := h
  exact h1.lt
theorem TbW.only (h : TbW W tb T N p z hi B) (g : Only S W W') (hS : ∀ b, B ≤ b → b < hi → ¬ S b) : TbW W' tb T N p z hi B := by
  obtain ⟨TV, h1, h2, h3, h4⟩ := h
  refine ⟨TV, h1.only g (hS tb h3 h2), h2, h3, fun t a b => ?_⟩
  obtain ⟨x, e1, e2, e3, e4, e5⟩ := h4 t a b
  exact ⟨x, e1, e2, e3, e4, e5.only g (hS x e2 e3) (fun b h1 h2 _ => hS b h1 h2)⟩
theorem TbW.gr (h : TbW W tb T N p z hi B) (g : Gr W W') : TbW W' tb T N p z hi B := h.only (g.only (fun _ => False)) (fun _ _ _ h => h)
theorem TbW.up (h : TbW W tb T N p z hi B) (hh : hi ≤ hi') : TbW W tb T N p z hi' B := by
  obtain ⟨TV, h1, h2, h3, h4⟩ := h
  refine ⟨TV, h1, by omega, h3, fun t a b => ?_⟩
  obtain ⟨x, e1, e2, e3, e4, val, e5, e6⟩ := h4 t a b
  exact ⟨x, e1, e2, by omega, e4, val, e5, fun k hk => (e6 k hk).up hh⟩
theorem TbW.lt (h : TbW W tb T N p z hi B) : tb < W.heap.size := by
  obtain ⟨TV, k1, _⟩ := h
  exact k1.lt
theorem TbW.row (h : TbW W tb T N p z hi B) {t : Nat} (h0 : z ≤ t) (h1 : t ≤ T) : ∃ b, W.cell? ⟨tb, t, none⟩ = some (.slice (some ⟨b, 0, none⟩) N N) ∧ b < hi ∧ ¬ b = tb ∧ RowD W p N B tb hi b t := by
  obtain ⟨TV, k1, k2, k3, k4⟩ := h
  obtain ⟨x, e1, e2, e3, e4, e5⟩ := k4 t h0 h1
  exact ⟨x, by rw [← e1]; exact k1.cell (by omega), e3, e4, e5⟩
/-- the cells of a place in a row -/
theorem RowD.cells (h : RowD W p N B tb hi rb y) {k : Nat} (hk : k < N) : ∃ a c, W.cell? ⟨rb, k * 2, none⟩ = some (.int .i64 (bestV p y k).1) ∧ W.cell? ⟨rb, k * 2 + 1, none⟩ = some (.slice a (noiV p y k).length c) ∧ Ints W a (noiV p y k).length (noiV p y k) ∧ (a = none → c = 0) ∧ ∀ ad, a = some ad → B ≤ ad.block ∧ ad.block < hi ∧ ¬ ad.block = tb := by
  obtain ⟨val, h1, h2⟩ := h
  obtain ⟨e1, a, c, e2, e3, e4, e5⟩ := h2 k hk
  exact ⟨a, c, by rw [← e1]; exact h1.cell (by omega), by rw [← e2]; exact h1.cell (by omega), e3, e4, e5⟩
theorem TbW.lay (h : TbW W tb T N p (z + 1) hi B) (hr : ¬ rb = tb) (hM : RowM W p N B tb hi' rb y x) :
    TbW (W.setCell ⟨tb, z, none⟩ (.slice (some ⟨rb, 0, none⟩) N N)) tb T N p (z + 1) hi B ∧ RowM (W.setCell ⟨tb, z, none⟩ (.slice (some ⟨rb, 0, none⟩) N N)) p N B tb hi' rb y x ∧
      (z ≤ T → (W.setCell ⟨tb, z, none⟩ (.slice (some ⟨rb, 0, none⟩) N N)).cell? ⟨tb, z, none⟩ = some (.slice (some ⟨rb, 0, none⟩) N N)) := by
  obtain ⟨TV, k1, k2, k3, k4⟩ := h
  have g := Y.set_only W tb z (.slice (some ⟨rb, 0, none⟩) N N)
  have k5 := k1.set (k := z) (.slice (some ⟨rb, 0, none⟩) N N)
  refine ⟨⟨_, k5, k2, k3, fun t a b => ?_⟩, hM.only g (fun e => hr e) (fun b _ _ hn e => hn e), fun hz => by rw [k5.cell (k := z) (by omega), if_pos rfl]⟩
  obtain ⟨x, e1, e2, e3, e4, e5⟩ := k4 t a b
  exact ⟨x, by rw [if_neg (by omega)]; exact e1, e2, e3, e4, e5.only g (fun e => e4 e) (fun b _ _ hn e => hn e)⟩
theorem TbW.new (h : OwnP W tb (T + 1) (fun _ => .slice none 0 0)) (hB : B ≤ tb) (hh : tb < hi) : TbW W tb T N p (T + 1) hi B := ⟨_, h, hh, hB, fun t a b => by omega⟩
theorem TbW.st (h : TbW W tb T N p z hi B) {k : Nat} {v : Value} (hk : k < T + 1) (hv : v.cells = #[v]) (hv1 : v.oneCell' = true) : (Instr.storeAt 120 (.pointer (some ⟨tb, k, none⟩)) v).run Try.prog W = .ok () (W.setCell ⟨tb, k, none⟩ v) := by
  obtain ⟨TV, k1, _⟩ := h
  exact k1.st1 (Try.siz120 _) hv hv1 hk
theorem RowM.new {val : Nat → Value} (h : OwnP W rb (N * 2) val) (hv : ∀ k, k < N * 2 → val k = if k % 2 = 0 then .int .i64 0 else .slice none 0 0) : RowM W p N B tb hi rb y 0 :=
  ⟨val, h, fun k hk => ⟨fun h => by omega, fun _ => ⟨by rw [hv _ (by omega), if_pos (by omega)], by rw [hv _ (by omega), if_neg (by omega)]⟩⟩⟩
/-- a row is done -/
theorem RowM.done (h : RowM W p N B tb hi rb y x) (hx : x = N ∨ p.T ≤ y) : RowD W p N B tb hi rb y := by
  obtain ⟨val, h1, h2⟩ := h
  refine ⟨val, h1, fun k hk => ?_⟩
  by_cases e : k < x
  · exact ((h2 k hk).1 e).1
  · rcases hx with hx | hx
    · omega
    · obtain ⟨e1, e2⟩ := (h2 k hk).2 (by omega)
      refine ⟨by rw [e1, bestV_done _ hx], none, 0, by rw [e2, noi_done hx]; rfl, by rw [noi_done hx]; exact Ints.nil _, fun _ => rfl, fun ad h => by cases h⟩
theorem TbW.done (h : TbW W tb T N p (z + 1) hi B) (hr : ¬ rb = tb) (hb : B ≤ rb) (hh : rb < hi) (hz : z ≤ T) (hc : W.cell? ⟨tb, z, none⟩ = some (.slice (some ⟨rb, 0, none⟩) N N)) (hR : RowD W p N B tb hi rb z) : TbW W tb T N p z hi B := by
  obtain ⟨TV, k1, k2, k3, k4⟩ := h
  refine ⟨TV, k1, k2, k3, fun t a b => ?_⟩
  by_cases e : t = z
  · subst e
    exact ⟨rb, by have := k1.cell (k := t) (by omega); rw [hc] at this; exact (Option.some.inj this).symm, hb, hh, hr, hR⟩
  · exact k4 t (by omega) b
/-- two cells of a block are written -/
theorem OwnP.st2k {P : Program} {W : World} {b n k : Nat} {val : Nat → Value} {t : TypeId} {u v : Value} (h : OwnP W b n val) (hk : k + 1 < n) (hS : ∀ W, (sizeOf t).run P W = .ok 2 W) (h1 : u.oneCell' = true) (h2 : v.oneCell' = true) :
    ∃ W', (Instr.storeAt t (.pointer (some ⟨b, k, none⟩)) (.agg #[u, v])).run P W = .ok () W' ∧ OwnP W' b n (fun j => if j = k + 1 then v else if j = k then u else val j) ∧ Only (fun z => z = b) W W' := by
  have hs1 := run_store P W ⟨b, k, none⟩ u .plain h1
  rw [h.cell (k := k) (by omega), h.fz] at hs1
  simp only [Bool.false_eq_true, if_false] at hs1
  have hA := h.set (k := k) u
  have hs2 := run_store P (W.setCell ⟨b, k, none⟩ u) ⟨b, k + 1, none⟩ v .plain h2
  rw [hA.cell (k := k + 1) hk, hA.fz] at hs2
  simp only [Bool.false_eq_true, if_false] at hs2
  have hB := hA.set (k := k + 1) v
  refine ⟨(W.setCell ⟨b, k, none⟩ u).setCell ⟨b, k + 1, none⟩ v, ?_, hB, (Y.set_only _ _ _ _).trans (Y.set_only _ _ _ _)⟩
  have e0 : (⟨b, k, none⟩ : Addr).add 0 = ⟨b, k, none⟩ := rfl
  have e1 : (⟨b, k, none⟩ : Addr).add 1 = ⟨b, k + 1, none⟩ := rfl
  simp [Instr.storeAt, storeVar, Instr.sureAddr, hS, Value.cells, storeCells, e0, e1, hs1, hs2, go_sem]
/-- the next place of the row in the making -/
theorem RowM.put (h : RowM W p N B tb hi rb y x) (hx : x < N) {A : Int} {L : List Int} {a : Option Addr} {n c : Nat} (hA : A = (bestV p y x).1) (hL : L = noiV p y x) (hn : n = L.length) (hI : Ints W a n L) (hac : a = none → c = 0) (hb : ∀ ad, a = some ad → B ≤ ad.block ∧ ad.block < hi ∧ ¬ ad.block = tb ∧ ¬ ad.block = rb) :
    ∃ W', (Instr.storeAt 86 (.pointer (some ⟨rb, x * 2, none⟩)) (.agg #[.int .i64 A, .slice a n c])).run Try.prog W = .ok () W' ∧ RowM W' p N B tb hi rb y (x + 1) ∧ Only (fun z => z = rb) W W' := by
  obtain ⟨val, h1, h2⟩ := h
  obtain ⟨W', hr, hO, hon⟩ := h1.st2k (P := Try.prog) (k := x * 2) (t := 86) (u := .int .i64 A) (v := .slice a n c) (by omega) (fun W => Try.siz86 W) rfl rfl
  refine ⟨W', hr, ⟨_, hO, fun k hk => ⟨fun hkx => ?_, fun hkx => ?_⟩⟩, hon⟩
  · by_cases e : k = x
    · subst e
      simp only [if_neg (show ¬ k * 2 = k * 2 + 1 by omega), if_true]
      subst hA hL hn
      exact ⟨⟨rfl, a, c, rfl, hI.onlyAt hon (fun ad e h => (hb ad e).2.2.2 h), hac, fun ad e => ⟨(hb ad e).1, (hb ad e).2.1, (hb ad e).2.2.1⟩⟩, fun ad n' c' e => (hb ad (by injection e)).2.2.2⟩
    · simp only [if_neg (show ¬ k * 2 = x * 2 + 1 by omega), if_neg (show ¬ k * 2 = x * 2 by omega), if_neg (show ¬ k * 2 + 1 = x * 2 + 1 by omega), if_neg (show ¬ k * 2 + 1 = x * 2 by omega)]
      obtain ⟨⟨e1, a', c', e2, e3, e4, e5⟩, e6⟩ := (h2 k hk).1 (by omega)
      exact ⟨⟨e1, a', c', e2, e3.onlyAt hon (fun ad e h => e6 ad _ _ (by rw [e2, e]) h), e4, e5⟩, e6⟩
  · simp only [if_neg (show ¬ k * 2 = x * 2 + 1 by omega), if_neg (show ¬ k * 2 = x * 2 by omega), if_neg (show ¬ k * 2 + 1 = x * 2 + 1 by omega), if_neg (show ¬ k * 2 + 1 = x * 2 by omega)]
    exact (h2 k hk).2 (by omega)
end
theorem make121 (W : World) {N : Nat} {x : Int} (hx : x = N) (hN : N ≤ 1000000) : ∃ W', (Instr.makeSlice 121 (.int .i64 x) (.int .i64 x)).run Try.prog W = .ok (.slice (some ⟨W.heap.size, 0, none⟩) N N) W' ∧ OwnP W' W.heap.size N (fun _ => .slice none 0 0) ∧ Gr W W' := by
  subst hx
  obtain ⟨i, hi, h0, h1, h2⟩ := info_parts (show (Try.prog.info? 120).map (fun i => (i.zero, i.size, i.bytes)) = some (some (.slice none 0 0), 1, 24) by kernel_rfl)
  have hr := run_make (P := Try.prog) W 121 120 i _ Try.underlying121 hi h0 .i64 .i64 N N (by omega) (Int.le_refl _) (by rw [h2]; omega) (by omega)
  simp only [Int.toNat_natCast, h1] at hr
  refine ⟨_, hr, ⟨_, _, World.alloc_heap_new _ _, by rw [size_madeCells]; omega, fun k hk => ?_⟩, Gr.alloc _ _⟩
  unfold madeCells
  simp only [Value.cells, Array.getElem?_map]
  rw [Array.getElem?_eq_getElem (by simpa using hk)]
  simp [Nat.mod_one]
theorem make120 (W : World) {N : Nat} {x : Int} (hx : x = N) (hN : N ≤ 1000000) : ∃ W', (Instr.makeSlice 120 (.int .i64 x) (.int .i64 x)).run Try.prog W = .ok (.slice (some ⟨W.heap.size, 0, none⟩) N N) W' ∧ OwnP W' W.heap.size (N * 2) (fun k => if k % 2 = 0 then .int .i64 0 else .slice none 0 0) ∧ Gr W W' := by
  subst hx
  obtain ⟨i, hi, h0, h1, h2⟩ := info_parts Try.info86
  have hr := run_make (P := Try.prog) W 120 86 i _ Try.underlying120 hi h0 .i64 .i64 N N (by omega) (Int.le_refl _) (by rw [h2]; omega) (by omega)
  simp only [Int.toNat_natCast, h1] at hr
  refine ⟨_, hr, ⟨_, _, World.alloc_heap_new _ _, by rw [size_madeCells]; omega, fun k hk => ?_⟩, Gr.alloc _ _⟩
  unfold madeCells
  simp only [Value.cells, Array.getElem?_map]
  rw [Array.getElem?_eq_getElem (by simpa using hk)]
  have : k % 2 = 0 ∨ k % 2 = 1 := by omega
  rcases this with e | e <;> simp [e]
/-- a list of one number that a call makes -/
theorem ownR_one {W : World} {B b e : Nat} {x : Int} (h : W.heap[b]? = some (.cells #[.int .i64 x] e)) (hB : B ≤ b) : OwnR W B e 1 (.slice (some ⟨b, 0, none⟩) 1 1) 1 ([x].map (Value.int .i64)) :=
  ⟨rfl, .inr ⟨b, 1, #[.int .i64 x], rfl, hB, h, Nat.le_refl _, by decide, rfl, rfl⟩⟩
theorem app_nil (W : World) (ty : TypeId) (g n c : Nat) (hle : n ≤ c) : (Builtin.append_ #[34, 34] ty #[.slice (some ⟨g, 0, none⟩) n c, .slice none 0 0]).run Try.prog W = .ok (.slice (some ⟨g, 0, none⟩) n c) W := by
  obtain ⟨i, hi, h0, h1, h2⟩ := info_parts Try.info3
  exact run_append_nothing (P := Try.prog) W 34 34 ty 3 i Try.underlying34 hi (some ⟨g, 0, none⟩) n c hle (.slice none 0 0) (Src.ofNil W Try.underlying34 0)
/-- append of a list of numbers, which may be nil -/
theorem wp_pushI {o : Oper} {a : Act} {W : World} {K : Act → World → Prop} {Q : Exit → Act → World → Prop} {s x : Operand} {B m n c g cc : Nat} {sa : Option Addr} {xs ys : List Int}
    (ho : o.op = .call { callee := .builtin .append, args := #[s, x], argTypes := #[34, 34] }) (hs : a.eval s = .slice (some ⟨g, 0, none⟩) m cc) (hx : a.eval x = .slice sa n c) (hO : OwnR W B 3 1 (.slice (some ⟨g, 0, none⟩) m cc) m (ys.map (Value.int .i64)))
    (hI : Ints W sa n xs) (hc : sa = none → c = 0) (hmax : m + n ≤ 1000000) (hB : B ≤ W.heap.size)
    (h : ∀ v' w', OwnR w' B 3 1 v' (m + n) ((ys ++ xs).map (Value.int .i64)) → Only (fun b => b = g) W w' → (v'.ownBlock = some g ∨ v'.ownBlock = some W.heap.size) → K (a.put o.dst v') w') : o.wp Try.prog a W K Q := by
  have hl : xs.length = n := hI.len
  cases sa with
  | none =>
    have hn : n = 0 := by
      refine Classical.byContradiction fun hne => ?_
      obtain ⟨ad, e, _⟩ := hI.at (j := 0) (by omega)
      cases e
    subst hn
    rw [hc rfl] at hx
    have hxs : xs = [] := List.length_eq_zero_iff.1 hl
    subst hxs
    have hle : m ≤ cc := by
      rcases hO.2 with ⟨h2, _⟩ | ⟨b, cap, cur, h1, h2, h3, h4, _⟩
      · cases h2
      · injection h1 with _ _ h1; omega
    have hrun : (execOp a.eval o).run Try.prog W = .ok (.value (.slice (some ⟨g, 0, none⟩) m cc)) W := by
      unfold execOp
      simp only [ho, resolve, invoke, builtin, Sem.run_bind, Sem.run_pure, Result.andThen_ok, List.map_toArray, List.map_cons, List.map_nil, hs, hx, app_nil W _ g m cc hle]
    unfold Oper.wp
    rw [hrun]
    exact h _ _ (by rw [List.append_nil]; exact hO) (Only.refl _ _) (.inl rfl)
  | some ad =>
    refine wp_pushV Try.underlying34 Try.info3 rfl (by decide) ho hs hx hO (m := n) (news := xs.map (Value.int .i64)) (by rw [List.length_map, hl, Nat.mul_one]) (fun j u hj => ?_) ?_ hmax (by decide) hB (fun v' w' h1 h2 h3 => h v' w' (by rw [List.map_append]; exact h1) (h2.mono' (fun i e => by simp [Value.ownBlock] at e; exact e.symm)) h3)
    · rw [List.getElem?_map] at hj
      cases hx2 : xs[j]? with
      | none => rw [hx2] at hj; cases hj
      | some z =>
        rw [hx2] at hj
        obtain ⟨ad', e, _, hcell⟩ := hI.at (j := j) (by have := (List.getElem?_eq_some_iff.1 hx2).1; omega)
        injection e with e
        subst e
        rw [hcell, hx2]
        exact hj
    · rw [List.all_eq_true]
      intro u hu
      obtain ⟨z, _, rfl⟩ := List.mem_map.1 hu
      rfl
end
section
open Go.RowKit

set_option maxRecDepth 100000 in
set_option maxHeartbeats 400000 in
theorem betterW_any (a1 a2 : Int) (xa ya : Option Addr) (en xc fn yc : Nat) (X1 X2 : List Int) (w : World) (hx : Ints w xa en X1) (hy : Ints w ya fn X2) :
  Calls Try.prog 88 #[.agg #[Vi a1, .slice xa en xc], .agg #[Vi a2, .slice ya fn yc]] w fun e w' => ∃ b, e = .returned (.bool b) ∧ (¬ a1 = a2 → b = decide (a2 < a1)) ∧ (a1 = a2 → ¬ en = fn → b = decide ((en : Int) < fn)) ∧ (a1 = a2 → en = fn → 0 < en → ¬ X1[0]?.getD 0 = X2[0]?.getD 0 → b = decide (X1[0]?.getD 0 < X2[0]?.getD 0)) ∧ Gr w w' := by
 have G := Gr.refl w
 have hxl := hx.len
 have hyl := hy.len
 have hxb := hx.lt
 have hyb := hy.lt
 refine Y.calls 59 Try.func88 rfl rfl ?_
 intro ac F0
 have F : Fr ac 59 [(0, .agg #[Vi a1, .slice xa en xc]), (1, .agg #[Vi a2, .slice ya fn yc])] := F0.sub _
 clear F0
 refine Y.seq ?_
 refine Y.lit (by kernel_rfl) ?_
 refine Y.pval F (X.w0 rfl) rfl (X.box rfl (F.e 0 rfl) X.bx) ?_
 clear F ac
 intro ac F
 have g := Gr.alloc w (.cells #[Vi a1, .slice xa en xc] 86)
 have hb := heap_alloc_new w (.cells #[Vi a1, .slice xa en xc] 86)
 have hbl : w.heap.size < (w.alloc (.cells #[Vi a1, .slice xa en xc] 86)).heap.size := by simp
 have hC2 : RCells (w.alloc (.cells #[Vi a1, .slice xa en xc] 86)) [(Ad w.heap.size 0, Vi a1), (Ad w.heap.size 1, .slice xa en xc)] := (RCells.nil w).box (b := w.heap.size) #[Vi a1, .slice xa en xc] 86 rfl
 generalize w.alloc (.cells #[Vi a1, .slice xa en xc] 86) = w3 at *
 replace G := G.trans g
 have hC := hC2
 clear hC2
 replace hx := hx.gr g
 replace hy := hy.gr g
 clear g hb hbl
 refine Y.pval F (X.w0 rfl) rfl (X.box rfl (F.e 1 rfl) X.bx) ?_
 clear F ac
 intro ac F
 have g := Gr.alloc w3 (.cells #[Vi a2, .slice ya fn yc] 86)
 have hb := heap_alloc_new w3 (.cells #[Vi a2, .slice ya fn yc] 86)
 have hbl : w3.heap.size < (w3.alloc (.cells #[Vi a2, .slice ya fn yc] 86)).heap.size := by simp
 have hC2 : RCells (w3.alloc (.cells #[Vi a2, .slice ya fn yc] 86)) [(Ad w.heap.size 0, Vi a1), (Ad w.heap.size 1, .slice xa en xc), (Ad w3.heap.size 0, Vi a2), (Ad w3.heap.size 1, .slice ya fn yc)] := hC.box (b := w3.heap.size) #[Vi a2, .slice ya fn yc] 86 rfl
 generalize w3.alloc (.cells #[Vi a2, .slice ya fn yc] 86) = w4 at *
 replace G := G.trans g
 replace hC := hC2
 clear hC2
 replace hx := hx.gr g
 replace hy := hy.gr g
 clear g hb hbl
 refine Y.pval F (X.w0 rfl) rfl (X.assign rfl (X.kc (.bool false) rfl)) ?_
 clear F ac
 intro ac F
 refine Y.nil ?_
 replace F : Fr ac 59 [(0, .agg #[Vi a1, .slice xa en xc]), (1, .agg #[Vi a2, .slice ya fn yc]), (2, Vp w.heap.size), (3, Vp w3.heap.size), (4, .bool false)] := F.sub _
 refine X.thenN ?_
 refine Y.seq ?_
 refine Y.seq ?_
 refine Y.lit (by kernel_rfl) ?_
 refine Y.pval F (X.w0 rfl) rfl (X.field rfl (F.e 2 rfl) (X.fld Try.underlying86 rfl (Try.siz3 _) rfl rfl)) ?_
 clear F ac
 intro ac F
 refine Y.pval F (X.w0 rfl) rfl (X.load rfl (F.e 6 rfl) (X.ld1 (Try.agg3 _) (hC.at 0 rfl))) ?_
 clear F ac
 intro ac F
 refine Y.pval F (X.w0 rfl) rfl (X.field rfl (F.e 3 rfl) (X.fld Try.underlying86 rfl (Try.siz3 _) rfl rfl)) ?_
 clear F ac
 intro ac F
 refine Y.pval F (X.w0 rfl) rfl (X.load rfl (F.e 8 rfl) (X.ld1 (Try.agg3 _) (hC.at 2 rfl))) ?_
 clear F ac
 intro ac F
 refine Y.pval F (X.w0 rfl) rfl (X.binop rfl (F.e 7 rfl) (F.e 9 rfl) (X.neqI Try.underlying3 rfl)) ?_
 clear F ac
 intro ac F
 refine Y.nil ?_
 replace F : Fr ac 59 [(0, .agg #[Vi a1, .slice xa en xc]), (1, .agg #[Vi a2, .slice ya fn yc]), (2, Vp w.heap.size), (3, Vp w3.heap.size), (4, .bool false), (10, .bool ((a1 : Int) != a2))] := F.sub _
 refine X.thenN ?_
 cases h5 : ((a1 : Int) != a2) with
 | false =>
  try rw [h5] at F
  have h5p : (a1 : Int) = a2 := by simpa using h5
  have ha : a1 = a2 := by simpa using h5
  refine Y.condF (F.e 10 rfl) ?_
  refine Y.skip ?_
  refine X.thenN ?_
  refine Y.seq ?_
  refine Y.seq ?_
  refine Y.lit (by kernel_rfl) ?_
  refine Y.pval F (X.w0 rfl) rfl (X.field rfl (F.e 2 rfl) (X.fld Try.underlying86 rfl (Try.siz34 _) rfl rfl)) ?_
  clear F ac
  intro ac F
  refine Y.pval F (X.w0 rfl) rfl (X.load rfl (F.e 16 rfl) (X.ld1 (Try.agg34 _) (hC.at 1 rfl))) ?_
  clear F ac
  intro ac F
  refine Y.pval F (X.w0 rfl) rfl (X.len1 Try.underlying34 rfl (F.e 17 rfl)) ?_
  clear F ac
  intro ac F
  refine Y.pval F (X.w0 rfl) rfl (X.field rfl (F.e 3 rfl) (X.fld Try.underlying86 rfl (Try.siz34 _) rfl rfl)) ?_
  clear F ac
  intro ac F
  refine Y.pval F (X.w0 rfl) rfl (X.load rfl (F.e 19 rfl) (X.ld1 (Try.agg34 _) (hC.at 3 rfl))) ?_
  clear F ac
  intro ac F
  refine Y.pval F (X.w0 rfl) rfl (X.len1 Try.underlying34 rfl (F.e 20 rfl)) ?_
  clear F ac
  intro ac F
  refine Y.pval F (X.w0 rfl) rfl (X.binop rfl (F.e 18 rfl) (F.e 21 rfl) (X.neqI Try.underlying3 rfl)) ?_
  clear F ac
  intro ac F
  refine Y.nil ?_
  replace F : Fr ac 59 [(0, .agg #[Vi a1, .slice xa en xc]), (1, .agg #[Vi a2, .slice ya fn yc]), (2, Vp w.heap.size), (3, Vp w3.heap.size), (4, .bool false), (10, .bool false), (22, .bool ((en : Int) != fn))] := F.sub _
  refine X.thenN ?_
  cases h6 : ((en : Int) != fn) with
  | false =>
   try rw [h6] at F
   have h6p : (en : Int) = fn := by simpa using h6
   have hn : en = fn := by have := h6; simp at this; omega
   refine Y.condF (F.e 22 rfl) ?_
   refine Y.skip ?_
   refine X.thenN ?_
   refine Y.seq ?_
   refine Y.seq ?_
   refine Y.lit (by kernel_rfl) ?_
   refine Y.pval F (X.w0 rfl) rfl (X.assign rfl (X.kc (Vi 0) rfl)) ?_
   clear F ac
   intro ac F
   refine Y.nil ?_
   replace F : Fr ac 59 [(0, .agg #[Vi a1, .slice xa en xc]), (1, .agg #[Vi a2, .slice ya fn yc]), (2, Vp w.heap.size), (3, Vp w3.heap.size), (4, .bool false), (5, Vi 0), (10, .bool false), (22, .bool false)] := F.sub _
   refine X.thenN ?_
   refine Y.block ?_
   have hxB := hx
   have hyB := hy
   have hCB := hC
   have GB := G
   refine Y.loop (fun me_ ac wr => ∃ (i : Nat), me_ = en - i ∧ Gr w4 wr ∧ i ≤ en ∧ (0 < i → X1[0]?.getD 0 = X2[0]?.getD 0) ∧ Fr ac 59 [(0, .agg #[Vi a1, .slice xa en xc]), (1, .agg #[Vi a2, .slice ya fn yc]), (2, Vp w.heap.size), (3, Vp w3.heap.size), (5, Vi i), (10, .bool false), (22, .bool false)]) _ ⟨0, rfl, Gr.refl _, Nat.zero_le _, (fun h => by omega), F.sub _⟩ ?_
   clear F
   intro me_ ac w7 hI
   obtain ⟨i, rfl, gr, hi, h0, F⟩ := hI
   replace G := GB.trans gr
   replace hC := hCB.gr gr
   replace hx := hxB.gr gr
   replace hy := hyB.gr gr
   have GB_ := gr
   clear gr
   refine Y.seq ?_
   refine Y.seq ?_
   refine Y.lit (by kernel_rfl) ?_
   refine Y.pval F (X.w0 rfl) rfl (X.move rfl (F.e 5 rfl)) ?_
   clear F ac
   intro ac F
   refine Y.pval F (X.w0 rfl) rfl (X.field rfl (F.e 2 rfl) (X.fld Try.underlying86 rfl (Try.siz34 _) rfl rfl)) ?_
   clear F ac
   intro ac F
   refine Y.pval F (X.w0 rfl) rfl (X.load rfl (F.e 31 rfl) (X.ld1 (Try.agg34 _) (hC.at 1 rfl))) ?_
   clear F ac
   intro ac F
   refine Y.pval F (X.w0 rfl) rfl (X.len1 Try.underlying34 rfl (F.e 32 rfl)) ?_
   clear F ac
   intro ac F
   refine Y.pval F (X.w0 rfl) rfl (X.binop rfl (F.e 30 rfl) (F.e 33 rfl) (X.lssI Try.underlying3 rfl)) ?_
   clear F ac
   intro ac F
   refine Y.nil ?_
   replace F : Fr ac 59 [(0, .agg #[Vi a1, .slice xa en xc]), (1, .agg #[Vi a2, .slice ya fn yc]), (2, Vp w.heap.size), (3, Vp w3.heap.size), (5, Vi i), (10, .bool false), (22, .bool false), (34, .bool (decide ((i : Int) < en)))] := F.sub _
   refine X.thenN ?_
   cases h8 : decide ((i : Int) < en) with
   | false =>
    try rw [h8] at F
    have h8p : ¬ ((i : Int) < en) := of_decide_eq_false h8
    refine Y.condF (F.e 34 rfl) ?_
    refine Y.exit ?_
    refine X.thenX ?_
    refine X.thenX ?_
    refine X.blockX ?_
    refine X.thenN ?_
    refine Y.seq ?_
    refine Y.lit (by kernel_rfl) ?_
    refine Y.pval F (X.w0 rfl) rfl (X.assign rfl (X.kc (.bool false) rfl)) ?_
    clear F ac
    intro ac F
    refine Y.nil ?_
    replace F : Fr ac 59 [(0, .agg #[Vi a1, .slice xa en xc]), (1, .agg #[Vi a2, .slice ya fn yc]), (2, Vp w.heap.size), (3, Vp w3.heap.size), (4, .bool false), (5, Vi i), (10, .bool false), (22, .bool false), (34, .bool false)] := F.sub _
    refine X.thenN ?_
    refine Y.ret ?_
    exact Y.ret0 (v := .bool false) F (Y.rs1 F rfl (by kernel_rfl)) ⟨_, rfl, fun h => absurd ha h, fun _ h => absurd hn h, fun _ _ h8 h9 => absurd (h0 (by omega)) h9, G⟩
   | true =>
    try rw [h8] at F
    have h8p : ((i : Int) < en) := of_decide_eq_true h8
    refine Y.condT (F.e 34 rfl) ?_
    refine Y.skip ?_
    refine X.thenN ?_
    refine Y.seq ?_
    refine Y.block ?_
    refine Y.seq ?_
    obtain ⟨pd9, pe9, -, pc9⟩ := hx.at (j := i) (by omega)
    subst pe9
    replace hC : RCells w7 [(Ad w.heap.size 0, Vi a1), (Ad w.heap.size 1, .slice (some pd9) en xc), (Ad w3.heap.size 0, Vi a2), (Ad w3.heap.size 1, .slice ya fn yc), (pd9.add i, Vi (X1[i]?.getD 0))] := hC.append ((RCells.cons pc9 (RCells.nil _)))
    clear pc9
    obtain ⟨pd10, pe10, -, pc10⟩ := hy.at (j := i) (by omega)
    subst pe10
    replace hC : RCells w7 [(Ad w.heap.size 0, Vi a1), (Ad w.heap.size 1, .slice (some pd9) en xc), (Ad w3.heap.size 0, Vi a2), (Ad w3.heap.size 1, .slice (some pd10) fn yc), (pd9.add i, Vi (X1[i]?.getD 0)), (pd10.add i, Vi (X2[i]?.getD 0))] := hC.append ((RCells.cons pc10 (RCells.nil _)))
    clear pc10
    refine Y.region F [some (.pointer (some ⟨w.heap.size, 1, none⟩)), some (.slice (some pd9) en xc), some (Vi i), some (.pointer (some (pd9.add i))), some (Vi (X1[i]?.getD 0)), some (.pointer (some ⟨w3.heap.size, 1, none⟩)), some (.slice (some pd10) fn yc), some (Vi i), some (.pointer (some (pd10.add i))), some (Vi (X2[i]?.getD 0)), some (.bool ((X1[i]?.getD 0 : Int) != (X2[i]?.getD 0)))] [] rfl ⟨by kernel_rfl, of_decide_eq_true (by kernel_rfl), by kernel_rfl, by kernel_rfl, by kernel_rfl⟩ ⟨?_, ?_, ?_, ?_, ?_, ?_, ?_, ?_, ?_, ?_, ?_, trivial⟩ ?_
    ·intro ac done u W Sx hR
     exact X.val (X.w0 rfl) rfl (X.field rfl (Sx.ev 2 (Vp w.heap.size)) (X.fld Try.underlying86 rfl (Try.siz34 _) rfl rfl)) (hR.step (Gr.refl _) rfl)
    ·intro ac done u W Sx hR
     have g : Gr w7 W := hR.1
     exact X.val (X.w0 rfl) rfl (X.load rfl (Sx.ev 37 (.pointer (some ⟨w.heap.size, 1, none⟩))) (X.ld1 (Try.agg34 _) ((hC.gr g).at 1 rfl))) (hR.step (Gr.refl _) rfl)
    ·intro ac done u W Sx hR
     exact X.val (X.w0 rfl) rfl (X.move rfl (Sx.ev 5 (Vi i))) (hR.step (Gr.refl _) rfl)
    ·intro ac done u W Sx hR
     exact X.val (X.w0 rfl) rfl (X.index rfl (Sx.ev 38 (.slice (some pd9) en xc)) (Sx.ev 39 (Vi i)) (X.idx (k := i) Try.underlying34 (Try.siz3 _) (by omega) (by omega) (by rw [Nat.mul_one]))) (hR.step (Gr.refl _) rfl)
    ·intro ac done u W Sx hR
     have g : Gr w7 W := hR.1
     exact X.val (X.w0 rfl) rfl (X.load rfl (Sx.ev 40 (.pointer (some (pd9.add i)))) (X.ld1 (Try.agg3 _) ((hC.gr g).at 4 rfl))) (hR.step (Gr.refl _) rfl)
    ·intro ac done u W Sx hR
     exact X.val (X.w0 rfl) rfl (X.field rfl (Sx.ev 3 (Vp w3.heap.size)) (X.fld Try.underlying86 rfl (Try.siz34 _) rfl rfl)) (hR.step (Gr.refl _) rfl)
    ·intro ac done u W Sx hR
     have g : Gr w7 W := hR.1
     exact X.val (X.w0 rfl) rfl (X.load rfl (Sx.ev 42 (.pointer (some ⟨w3.heap.size, 1, none⟩))) (X.ld1 (Try.agg34 _) ((hC.gr g).at 3 rfl))) (hR.step (Gr.refl _) rfl)
    ·intro ac done u W Sx hR
     exact X.val (X.w0 rfl) rfl (X.move rfl (Sx.ev 5 (Vi i))) (hR.step (Gr.refl _) rfl)
    ·intro ac done u W Sx hR
     exact X.val (X.w0 rfl) rfl (X.index rfl (Sx.ev 43 (.slice (some pd10) fn yc)) (Sx.ev 44 (Vi i)) (X.idx (k := i) Try.underlying34 (Try.siz3 _) (by omega) (by omega) (by rw [Nat.mul_one]))) (hR.step (Gr.refl _) rfl)
    ·intro ac done u W Sx hR
     have g : Gr w7 W := hR.1
     exact X.val (X.w0 rfl) rfl (X.load rfl (Sx.ev 45 (.pointer (some (pd10.add i)))) (X.ld1 (Try.agg3 _) ((hC.gr g).at 5 rfl))) (hR.step (Gr.refl _) rfl)
    ·intro ac done u W Sx hR
     exact X.val (X.w0 rfl) rfl (X.binop rfl (Sx.ev 41 (Vi (X1[i]?.getD 0))) (Sx.ev 46 (Vi (X2[i]?.getD 0))) (X.neqI Try.underlying3 rfl)) (hR.step (Gr.refl _) rfl)
    intro ac u w11 hs hd hl ho hR
    have g : Gr w7 w11 := hR.1
    replace F : Fr ac 59 [(0, .agg #[Vi a1, .slice (some pd9) en xc]), (1, .agg #[Vi a2, .slice (some pd10) fn yc]), (2, Vp w.heap.size), (3, Vp w3.heap.size), (5, Vi i), (10, .bool false), (22, .bool false), (34, .bool true), (47, .bool ((X1[i]?.getD 0 : Int) != (X2[i]?.getD 0)))] := X.fr hs hd hl _ (by kernel_rfl)
    clear hs hd hl ho hR
    replace G := G.trans g
    replace hC := hC.gr g
    replace GB_ := GB_.trans g
    replace hx := hx.gr g
    replace hy := hy.gr g
    clear g
    refine X.thenN ?_
    cases h12 : ((X1[i]?.getD 0 : Int) != (X2[i]?.getD 0)) with
    | false =>
     try rw [h12] at F
     have h12p : (X1[i]?.getD 0 : Int) = (X2[i]?.getD 0) := by simpa using h12
     refine Y.condF (F.e 47 rfl) ?_
     refine Y.skip ?_
     refine X.blockN ?_
     refine X.thenN ?_
     refine Y.lit (by kernel_rfl) ?_
     refine Y.pval F (X.w0 rfl) rfl (X.move rfl (F.e 5 rfl)) ?_
     clear F ac
     intro ac F
     refine Y.pval F (X.w0 rfl) rfl (X.binop rfl (F.e 35 rfl) (X.kc (Vi 1) rfl) (X.addI Try.underlying3 rfl (by omega) (by omega))) ?_
     clear F ac
     intro ac F
     refine Y.pval F (X.w0 rfl) rfl (X.assign rfl (F.e 36 rfl)) ?_
     clear F ac
     intro ac F
     refine Y.nil ?_
     replace F : Fr ac 59 [(0, .agg #[Vi a1, .slice (some pd9) en xc]), (1, .agg #[Vi a2, .slice (some pd10) fn yc]), (2, Vp w.heap.size), (3, Vp w3.heap.size), (5, Vi ((i : Int) + 1)), (10, .bool false), (22, .bool false), (34, .bool true), (47, .bool false)] := F.sub _
     refine X.thenN ?_
     refine ⟨_, ?_, i + 1, rfl, GB_, by omega, (fun _ => by
      by_cases e : i = 0
      ·subst e; simpa using h12
      ·exact h0 (by omega)), F.sub _⟩
     omega
    | true =>
     try rw [h12] at F
     have h12p : ¬ (X1[i]?.getD 0 : Int) = (X2[i]?.getD 0) := by simpa using h12
     refine Y.condT (F.e 47 rfl) ?_
     refine Y.seq ?_
     refine Y.region F [some (.pointer (some ⟨w.heap.size, 1, none⟩)), some (.slice (some pd9) en xc), some (Vi i), some (.pointer (some (pd9.add i))), some (Vi (X1[i]?.getD 0)), some (.pointer (some ⟨w3.heap.size, 1, none⟩)), some (.slice (some pd10) fn yc), some (Vi i), some (.pointer (some (pd10.add i))), some (Vi (X2[i]?.getD 0)), some (.bool (decide ((X1[i]?.getD 0 : Int) < (X2[i]?.getD 0)))), some (.bool (decide ((X1[i]?.getD 0 : Int) < (X2[i]?.getD 0))))] [] rfl ⟨by kernel_rfl, of_decide_eq_true (by kernel_rfl), by kernel_rfl, by kernel_rfl, by kernel_rfl⟩ ⟨?_, ?_, ?_, ?_, ?_, ?_, ?_, ?_, ?_, ?_, ?_, ?_, trivial⟩ ?_
     ·intro ac done u W Sx hR
      exact X.val (X.w0 rfl) rfl (X.field rfl (Sx.ev 2 (Vp w.heap.size)) (X.fld Try.underlying86 rfl (Try.siz34 _) rfl rfl)) (hR.step (Gr.refl _) rfl)
     ·intro ac done u W Sx hR
      have g : Gr w11 W := hR.1
      exact X.val (X.w0 rfl) rfl (X.load rfl (Sx.ev 48 (.pointer (some ⟨w.heap.size, 1, none⟩))) (X.ld1 (Try.agg34 _) ((hC.gr g).at 1 rfl))) (hR.step (Gr.refl _) rfl)
     ·intro ac done u W Sx hR
      exact X.val (X.w0 rfl) rfl (X.move rfl (Sx.ev 5 (Vi i))) (hR.step (Gr.refl _) rfl)
     ·intro ac done u W Sx hR
      exact X.val (X.w0 rfl) rfl (X.index rfl (Sx.ev 49 (.slice (some pd9) en xc)) (Sx.ev 50 (Vi i)) (X.idx (k := i) Try.underlying34 (Try.siz3 _) (by omega) (by omega) (by rw [Nat.mul_one]))) (hR.step (Gr.refl _) rfl)
     ·intro ac done u W Sx hR
      have g : Gr w11 W := hR.1
      exact X.val (X.w0 rfl) rfl (X.load rfl (Sx.ev 51 (.pointer (some (pd9.add i)))) (X.ld1 (Try.agg3 _) ((hC.gr g).at 4 rfl))) (hR.step (Gr.refl _) rfl)
     ·intro ac done u W Sx hR
      exact X.val (X.w0 rfl) rfl (X.field rfl (Sx.ev 3 (Vp w3.heap.size)) (X.fld Try.underlying86 rfl (Try.siz34 _) rfl rfl)) (hR.step (Gr.refl _) rfl)
     ·intro ac done u W Sx hR
      have g : Gr w11 W := hR.1
      exact X.val (X.w0 rfl) rfl (X.load rfl (Sx.ev 53 (.pointer (some ⟨w3.heap.size, 1, none⟩))) (X.ld1 (Try.agg34 _) ((hC.gr g).at 3 rfl))) (hR.step (Gr.refl _) rfl)
     ·intro ac done u W Sx hR
      exact X.val (X.w0 rfl) rfl (X.move rfl (Sx.ev 5 (Vi i))) (hR.step (Gr.refl _) rfl)
     ·intro ac done u W Sx hR
      exact X.val (X.w0 rfl) rfl (X.index rfl (Sx.ev 54 (.slice (some pd10) fn yc)) (Sx.ev 55 (Vi i)) (X.idx (k := i) Try.underlying34 (Try.siz3 _) (by omega) (by omega) (by rw [Nat.mul_one]))) (hR.step (Gr.refl _) rfl)
     ·intro ac done u W Sx hR
      have g : Gr w11 W := hR.1
      exact X.val (X.w0 rfl) rfl (X.load rfl (Sx.ev 56 (.pointer (some (pd10.add i)))) (X.ld1 (Try.agg3 _) ((hC.gr g).at 5 rfl))) (hR.step (Gr.refl _) rfl)
     ·intro ac done u W Sx hR
      exact X.val (X.w0 rfl) rfl (X.binop rfl (Sx.ev 52 (Vi (X1[i]?.getD 0))) (Sx.ev 57 (Vi (X2[i]?.getD 0))) (X.lssI Try.underlying3 rfl)) (hR.step (Gr.refl _) rfl)
     ·intro ac done u W Sx hR
      exact X.val (X.w0 rfl) rfl (X.assign rfl (Sx.ev 58 (.bool (decide ((X1[i]?.getD 0 : Int) < (X2[i]?.getD 0)))))) (hR.step (Gr.refl _) rfl)
     intro ac u w13 hs hd hl ho hR
     have g : Gr w11 w13 := hR.1
     replace F : Fr ac 59 [(0, .agg #[Vi a1, .slice (some pd9) en xc]), (1, .agg #[Vi a2, .slice (some pd10) fn yc]), (2, Vp w.heap.size), (3, Vp w3.heap.size), (4, .bool (decide ((X1[i]?.getD 0 : Int) < (X2[i]?.getD 0)))), (5, Vi i), (10, .bool false), (22, .bool false), (34, .bool true), (47, .bool true)] := X.fr hs hd hl _ (by kernel_rfl)
     clear hs hd hl ho hR
     replace G := G.trans g
     replace hC := hC.gr g
     replace GB_ := GB_.trans g
     replace hx := hx.gr g
     replace hy := hy.gr g
     clear g
     refine X.thenN ?_
     refine Y.ret ?_
     refine X.blockR ?_
     refine X.thenR ?_
     refine X.thenR ?_
     refine X.blockR ?_
     refine X.thenR ?_
     exact Y.ret0 (v := .bool (decide ((X1[i]?.getD 0 : Int) < (X2[i]?.getD 0)))) F (Y.rs1 F rfl (by kernel_rfl)) ⟨_, rfl, fun h => absurd ha h, fun _ h => absurd hn h, fun _ _ _ h9 => by
      by_cases e : i = 0
      ·subst e; rfl
      ·exact absurd (h0 (by omega)) h9, G⟩
  | true =>
   try rw [h6] at F
   have h6p : ¬ (en : Int) = fn := by simpa using h6
   have hn : ¬ en = fn := by have := h6; simp at this; omega
   refine Y.condT (F.e 22 rfl) ?_
   refine Y.seq ?_
   refine Y.lit (by kernel_rfl) ?_
   refine Y.pval F (X.w0 rfl) rfl (X.field rfl (F.e 2 rfl) (X.fld Try.underlying86 rfl (Try.siz34 _) rfl rfl)) ?_
   clear F ac
   intro ac F
   refine Y.pval F (X.w0 rfl) rfl (X.load rfl (F.e 23 rfl) (X.ld1 (Try.agg34 _) (hC.at 1 rfl))) ?_
   clear F ac
   intro ac F
   refine Y.pval F (X.w0 rfl) rfl (X.len1 Try.underlying34 rfl (F.e 24 rfl)) ?_
   clear F ac
   intro ac F
   refine Y.pval F (X.w0 rfl) rfl (X.field rfl (F.e 3 rfl) (X.fld Try.underlying86 rfl (Try.siz34 _) rfl rfl)) ?_
   clear F ac
   intro ac F
   refine Y.pval F (X.w0 rfl) rfl (X.load rfl (F.e 26 rfl) (X.ld1 (Try.agg34 _) (hC.at 3 rfl))) ?_
   clear F ac
   intro ac F
   refine Y.pval F (X.w0 rfl) rfl (X.len1 Try.underlying34 rfl (F.e 27 rfl)) ?_
   clear F ac
   intro ac F
   refine Y.pval F (X.w0 rfl) rfl (X.binop rfl (F.e 25 rfl) (F.e 28 rfl) (X.lssI Try.underlying3 rfl)) ?_
   clear F ac
   intro ac F
   refine Y.pval F (X.w0 rfl) rfl (X.assign rfl (F.e 29 rfl)) ?_
   clear F ac
   intro ac F
   refine Y.nil ?_
   replace F : Fr ac 59 [(0, .agg #[Vi a1, .slice xa en xc]), (1, .agg #[Vi a2, .slice ya fn yc]), (2, Vp w.heap.size), (3, Vp w3.heap.size), (4, .bool (decide ((en : Int) < fn))), (10, .bool false), (22, .bool true)] := F.sub _
   refine X.thenN ?_
   refine Y.ret ?_
   refine X.thenR ?_
   exact Y.ret0 (v := .bool (decide ((en : Int) < fn))) F (Y.rs1 F rfl (by kernel_rfl)) ⟨_, rfl, fun h => absurd ha h, fun _ _ => rfl, fun _ h => absurd h hn, G⟩
 | true =>
  try rw [h5] at F
  have h5p : ¬ (a1 : Int) = a2 := by simpa using h5
  have ha : ¬ a1 = a2 := by simpa using h5
  refine Y.condT (F.e 10 rfl) ?_
  refine Y.seq ?_
  refine Y.lit (by kernel_rfl) ?_
  refine Y.pval F (X.w0 rfl) rfl (X.field rfl (F.e 2 rfl) (X.fld Try.underlying86 rfl (Try.siz3 _) rfl rfl)) ?_
  clear F ac
  intro ac F
  refine Y.pval F (X.w0 rfl) rfl (X.load rfl (F.e 11 rfl) (X.ld1 (Try.agg3 _) (hC.at 0 rfl))) ?_
  clear F ac
  intro ac F
  refine Y.pval F (X.w0 rfl) rfl (X.field rfl (F.e 3 rfl) (X.fld Try.underlying86 rfl (Try.siz3 _) rfl rfl)) ?_
  clear F ac
  intro ac F
  refine Y.pval F (X.w0 rfl) rfl (X.load rfl (F.e 13 rfl) (X.ld1 (Try.agg3 _) (hC.at 2 rfl))) ?_
  clear F ac
  intro ac F
  refine Y.pval F (X.w0 rfl) rfl (X.binop rfl (F.e 12 rfl) (F.e 14 rfl) (X.gtrI Try.underlying3 rfl)) ?_
  clear F ac
  intro ac F
  refine Y.pval F (X.w0 rfl) rfl (X.assign rfl (F.e 15 rfl)) ?_
  clear F ac
  intro ac F
  refine Y.nil ?_
  replace F : Fr ac 59 [(0, .agg #[Vi a1, .slice xa en xc]), (1, .agg #[Vi a2, .slice ya fn yc]), (2, Vp w.heap.size), (3, Vp w3.heap.size), (4, .bool (decide ((a2 : Int) < a1))), (10, .bool true)] := F.sub _
  refine X.thenN ?_
  refine Y.ret ?_
  refine X.thenR ?_
  exact Y.ret0 (v := .bool (decide ((a2 : Int) < a1))) F (Y.rs1 F rfl (by kernel_rfl)) ⟨_, rfl, fun _ => rfl, fun h => absurd h ha, fun h => absurd h ha, G⟩

theorem noi_ge {p : Nd} (h : NdOk p) : ∀ (m : Nat) (t x : Int), 0 ≤ t → p.T - t = m → ∀ d ∈ noiV p t x, t ≤ d := by
  intro m
  induction m using Nat.strongRecOn with
  | _ m ih =>
    intro t x h0 hm d hd
    match m, ih, hm with
    | 0, _, hm => rw [noi_done (by omega)] at hd; cases hd
    | m + 1, ih, hm =>
      have hwn := wkN_bd h h0 (by omega)
      by_cases ha : refV p t x = 0
      · rw [noi_none (by omega) ha] at hd
        have := ih m (by omega) _ _ (by omega) (by omega) d hd; omega
      · cases hk : takeB p t x with
        | false =>
          rw [noi_skip (by omega) ha hk] at hd
          have := ih m (by omega) _ _ (by omega) (by omega) d hd; omega
        | true =>
          rw [noi_take (by omega) ha hk] at hd
          rcases List.mem_cons.1 hd with rfl | hd
          · omega
          · have := ih (m - wkN p t) (by omega) _ _ (by omega) (by omega) d hd; omega
/-- better says what Noises would do -/
theorem better_use (a1 a2 : Int) (xa ya : Option Addr) (en xc fn yc : Nat) (X1 X2 : List Int) (p : Nd) (y x : Int) (w : World) (hx : Ints w xa en X1) (hy : Ints w ya fn X2) (h : NdOk p) (h0 : 0 ≤ y) (ht : y < p.T) (hr : ¬ refV p y x = 0) (hx0 : 0 ≤ x) (hx1 : x ≤ p.bu)
    (hw : wkO p y x = (a1, (en : Int))) (hX : X1[0]?.getD 0 = y) (he : 0 < en) (hs : a2 = (bestV p (y + 1) (refV p y x)).1) (hz : p.za = 0) (hX2 : X2 = noiV p (y + 1) (refV p y x)) :
    Calls Try.prog 88 #[.agg #[Vi a1, .slice xa en xc], .agg #[Vi a2, .slice ya fn yc]] w fun e w' => e = .returned (.bool (takeB p y x)) ∧ Gr w w' := by
  refine (betterW_any a1 a2 xa ya en xc fn yc X1 X2 w hx hy).mono ?_
  rintro e w' ⟨b, rfl, k1, k2, k3, g⟩
  have hrb := refV_bd h (t := y) hx0 hx1
  have hl := best_len h (p.T - (y + 1)).toNat (y + 1) (refV p y x) (by omega) (by omega) hrb.1 hrb.2
  have hst : stO p y x = (a2, (fn : Int)) := by
    unfold stO add2
    rw [hz, ← hs]
    have e2 : (bestV p (y + 1) (refV p y x)).2 = (fn : Int) := by rw [hl, ← hX2, hy.len]
    rw [e2]
    simp
  have hk := take_iff ht hr
  rw [hw, hst] at hk
  simp only at hk
  refine ⟨?_, g⟩
  suffices hh : b = takeB p y x by rw [hh]
  by_cases c1 : a1 = a2
  · by_cases c2 : en = fn
    · have hf : 0 < X2.length := by rw [hy.len]; omega
      have hge := noi_ge h (p.T - (y + 1)).toNat (y + 1) (refV p y x) (by omega) (by omega) (X2[0]?.getD 0) (by rw [← hX2, List.getElem?_eq_getElem hf]; exact List.getElem_mem hf)
      have := k3 c1 c2 he (by rw [hX]; omega)
      rw [this, hX, decide_eq_true (by omega)]
      exact (hk.2 (.inr ⟨c1, by omega⟩)).symm
    · rw [k2 c1 c2]
      by_cases c3 : (en : Int) < fn
      · rw [decide_eq_true c3]; exact (hk.2 (.inr ⟨c1, by omega⟩)).symm
      · rw [decide_eq_false c3]
        cases e : takeB p y x with
        | false => rfl
        | true => have := hk.1 e; omega
  · rw [k1 c1]
    by_cases c3 : a2 < a1
    · rw [decide_eq_true c3]; exact (hk.2 (.inl c3)).symm
    · rw [decide_eq_false c3]
      cases e : takeB p y x with
      | false => rfl
      | true => have := hk.1 e; omega
section
variable {p : Nd} {t x : Int} {v hN : Nat}
/-- what a noise brings, as the reference reckons it -/
theorem wk_far (h : NdOk p) (ha : p.aw = 1) (hz : p.za = 0) (h0 : 0 ≤ t) (hx0 : 0 ≤ x) (hx1 : x ≤ p.bu) (hh : p.hold = hN) (hr : refV p t x = v) (hv : ¬ v = 0) (hT : t + p.hold + 1 ≤ p.T) :
    wkO p t x = (min p.T (t + p.hold) - t + (bestV p (t + p.hold + 1) (gnV p ((v : Int) - 1) (t + 1) hN)).1, ((1 + (noiV p (t + p.hold + 1) (gnV p ((v : Int) - 1) (t + 1) hN)).length : Nat) : Int)) ∧
    t + 1 + (wkN p t : Int) = t + p.hold + 1 ∧ (wkV p t (refV p t x) (wkN p t)).1 = gnV p ((v : Int) - 1) (t + 1) hN := by
  have hh0 := h.h0
  have hn : wkN p t = hN := by unfold wkN; omega
  have hrb := refV_bd h (t := t) hx0 hx1
  have e1 : (wkV p t (refV p t x) (wkN p t)).1 = gnV p ((v : Int) - 1) (t + 1) hN := by rw [hn, gnV_wk, hr]
  have e2 : (wkV p t (refV p t x) (wkN p t)).2 = p.hold := by rw [hn, wk_count ha hz hh0 _ _ _ (by omega)]; omega
  have e3 : t + 1 + (wkN p t : Int) = t + p.hold + 1 := by omega
  have hwb := wkV_bd h (t := t) (a := refV p t x) (by omega) hrb.2 (wkN p t)
  rw [e1] at hwb
  have hl := best_len h (p.T - (t + p.hold + 1)).toNat (t + p.hold + 1) (gnV p ((v : Int) - 1) (t + 1) hN) (by omega) (by omega) hwb.1.1 hwb.1.2
  refine ⟨?_, e3, e1⟩
  unfold wkO add2
  rw [e1, e2, e3, hl]
  refine Prod.ext ?_ ?_ <;> simp only <;> omega
theorem wk_near (h : NdOk p) (ha : p.aw = 1) (hz : p.za = 0) (h0 : 0 ≤ t) (ht : t < p.T) (hT : ¬ t + p.hold + 1 ≤ p.T) : wkO p t x = (min p.T (t + p.hold) - t, ((1 : Nat) : Int)) ∧ t + 1 + (wkN p t : Int) = p.T := by
  have hh0 := h.h0
  have hn : (wkN p t : Int) = p.T - 1 - t := by unfold wkN; omega
  have e2 : (wkV p t (refV p t x) (wkN p t)).2 = p.T - t := by rw [wk_count ha hz hh0 _ _ _ (by omega)]; omega
  have e3 : t + 1 + (wkN p t : Int) = p.T := by omega
  refine ⟨?_, e3⟩
  unfold wkO add2
  rw [e2, e3, bestV_done _ (Int.le_refl _)]
  refine Prod.ext ?_ ?_ <;> simp only <;> omega
end
end
section
open Go.RowKit

set_option maxRecDepth 100000 in
set_option maxHeartbeats 400000 in
theorem gain_any (gq aw za : Int) (p : Nd) (x a b : Int) (K : Nat) (w : World) (hp : NdOk p) (hx : 0 ≤ x ∧ x ≤ p.bu) (ha : 0 ≤ a) (hb : b + 1 = a + K) (hb2 : b ≤ 10000) :
  Calls Try.prog 87 #[.agg #[Vi gq, Vi aw, Vi za, Vi p.bu, Vi p.re], Vi x, Vi a, Vi b] w fun e w' => e = .returned (Vi (gnV p x a K)) ∧ Gr w w' := by
 have G := Gr.refl w
 have hr0 := hp.r0
 have hr1 := hp.r1
 have hb0_ := hp.b0
 have hb1_ := hp.b1
 refine Y.calls 31 Try.func87 rfl rfl ?_
 intro ac F0
 have F : Fr ac 31 [(0, .agg #[Vi gq, Vi aw, Vi za, Vi p.bu, Vi p.re]), (1, Vi x), (2, Vi a), (3, Vi b)] := F0.sub _
 clear F0
 refine Y.seq ?_
 refine Y.lit (by kernel_rfl) ?_
 refine Y.pval F (X.w0 rfl) rfl (X.box rfl (F.e 0 rfl) X.bx) ?_
 clear F ac
 intro ac F
 have g := Gr.alloc w (.cells #[Vi gq, Vi aw, Vi za, Vi p.bu, Vi p.re] 31)
 have hb := heap_alloc_new w (.cells #[Vi gq, Vi aw, Vi za, Vi p.bu, Vi p.re] 31)
 have hbl : w.heap.size < (w.alloc (.cells #[Vi gq, Vi aw, Vi za, Vi p.bu, Vi p.re] 31)).heap.size := by simp
 have hC2 : RCells (w.alloc (.cells #[Vi gq, Vi aw, Vi za, Vi p.bu, Vi p.re] 31)) [(Ad w.heap.size 0, Vi gq), (Ad w.heap.size 1, Vi aw), (Ad w.heap.size 2, Vi za), (Ad w.heap.size 3, Vi p.bu), (Ad w.heap.size 4, Vi p.re)] := (RCells.nil w).box (b := w.heap.size) #[Vi gq, Vi aw, Vi za, Vi p.bu, Vi p.re] 31 rfl
 generalize w.alloc (.cells #[Vi gq, Vi aw, Vi za, Vi p.bu, Vi p.re] 31) = w3 at *
 replace G := G.trans g
 have hC := hC2
 clear hC2
 clear g hb hbl
 refine Y.pval F (X.w0 rfl) rfl (X.assign rfl (X.kc (Vi 0) rfl)) ?_
 clear F ac
 intro ac F
 refine Y.nil ?_
 replace F : Fr ac 31 [(0, .agg #[Vi gq, Vi aw, Vi za, Vi p.bu, Vi p.re]), (1, Vi x), (2, Vi a), (3, Vi b), (4, Vp w.heap.size), (8, Vi 0)] := F.sub _
 refine X.thenN ?_
 refine Y.seq ?_
 refine Y.seq ?_
 refine Y.lit (by kernel_rfl) ?_
 refine Y.pval F (X.w0 rfl) rfl (X.move rfl (F.e 2 rfl)) ?_
 clear F ac
 intro ac F
 refine Y.pval F (X.w0 rfl) rfl (X.assign rfl (F.e 10 rfl)) ?_
 clear F ac
 intro ac F
 refine Y.nil ?_
 replace F : Fr ac 31 [(0, .agg #[Vi gq, Vi aw, Vi za, Vi p.bu, Vi p.re]), (1, Vi x), (2, Vi a), (3, Vi b), (4, Vp w.heap.size), (8, Vi 0), (9, Vi a)] := F.sub _
 refine X.thenN ?_
 refine Y.block ?_
 have hCB := hC
 have GB := G
 refine Y.loop (fun me_ ac wr => ∃ (k : Nat), me_ = K - k ∧ Gr w3 wr ∧ k ≤ K ∧ Fr ac 31 [(0, .agg #[Vi gq, Vi aw, Vi za, Vi p.bu, Vi p.re]), (1, Vi (gnV p x a k)), (2, Vi a), (3, Vi b), (4, Vp w.heap.size), (8, Vi 0), (9, Vi ((a : Int) + k))]) _ ⟨0, rfl, Gr.refl _, Nat.zero_le _, (by rw [show (a : Int) + ((0 : Nat) : Int) = a by omega]; exact F.sub _)⟩ ?_
 clear F
 intro me_ ac w4 hI
 obtain ⟨k, rfl, gr, hk, F⟩ := hI
 replace G := GB.trans gr
 replace hC := hCB.gr gr
 have GB_ := gr
 clear gr
 refine Y.seq ?_
 refine Y.seq ?_
 refine Y.lit (by kernel_rfl) ?_
 refine Y.pval F (X.w0 rfl) rfl (X.move rfl (F.e 9 rfl)) ?_
 clear F ac
 intro ac F
 refine Y.pval F (X.w0 rfl) rfl (X.move rfl (F.e 3 rfl)) ?_
 clear F ac
 intro ac F
 refine Y.pval F (X.w0 rfl) rfl (X.binop rfl (F.e 11 rfl) (F.e 12 rfl) (X.leqI Try.underlying3 rfl)) ?_
 clear F ac
 intro ac F
 refine Y.nil ?_
 replace F : Fr ac 31 [(0, .agg #[Vi gq, Vi aw, Vi za, Vi p.bu, Vi p.re]), (1, Vi (gnV p x a k)), (2, Vi a), (3, Vi b), (4, Vp w.heap.size), (8, Vi 0), (9, Vi ((a : Int) + k)), (13, .bool (decide (((a : Int) + k : Int) ≤ b)))] := F.sub _
 refine X.thenN ?_
 cases h5 : decide (((a : Int) + k : Int) ≤ b) with
 | false =>
  try rw [h5] at F
  have h5p : ¬ (((a : Int) + k : Int) ≤ b) := of_decide_eq_false h5
  obtain rfl : K = k := by omega
  refine Y.condF (F.e 13 rfl) ?_
  refine Y.exit ?_
  refine X.thenX ?_
  refine X.thenX ?_
  refine X.blockX ?_
  refine X.thenN ?_
  refine Y.seq ?_
  refine Y.lit (by kernel_rfl) ?_
  refine Y.pval F (X.w0 rfl) rfl (X.move rfl (F.e 1 rfl)) ?_
  clear F ac
  intro ac F
  refine Y.pval F (X.w0 rfl) rfl (X.assign rfl (F.e 30 rfl)) ?_
  clear F ac
  intro ac F
  refine Y.nil ?_
  replace F : Fr ac 31 [(0, .agg #[Vi gq, Vi aw, Vi za, Vi p.bu, Vi p.re]), (1, Vi (gnV p x a K)), (2, Vi a), (3, Vi b), (4, Vp w.heap.size), (8, Vi (gnV p x a K)), (9, Vi ((a : Int) + K)), (13, .bool false)] := F.sub _
  refine X.thenN ?_
  refine Y.ret ?_
  exact Y.ret0 (v := Vi (gnV p x a K)) F (Y.rs1 F rfl (by kernel_rfl)) ⟨rfl, G⟩
 | true =>
  try rw [h5] at F
  have h5p : (((a : Int) + k : Int) ≤ b) := of_decide_eq_true h5
  have hgb := gnV_bd hp (x := x) (a := a) hx.1 hx.2 k
  refine Y.condT (F.e 13 rfl) ?_
  refine Y.skip ?_
  refine X.thenN ?_
  refine Y.seq ?_
  refine Y.block ?_
  refine Y.seq ?_
  refine Y.lit (by kernel_rfl) ?_
  refine Y.pval F (X.w0 rfl) rfl (X.move rfl (F.e 9 rfl)) ?_
  clear F ac
  intro ac F
  refine Y.pval F (X.w0 rfl) rfl (X.binop rfl (F.e 16 rfl) (X.kc (Vi 0) rfl) (X.gtrI Try.underlying3 rfl)) ?_
  clear F ac
  intro ac F
  refine Y.pval F (X.w0 rfl) rfl (X.move rfl (F.e 17 rfl)) ?_
  clear F ac
  intro ac F
  cases h6 : decide ((0 : Int) < ((a : Int) + k)) with
  | false =>
   try rw [h6] at F
   have h6p : ¬ ((0 : Int) < ((a : Int) + k)) := of_decide_eq_false h6
   refine Y.pskip F (X.w2 rfl (F.yl (j := 2) (d := 18) (b := false) rfl (by kernel_rfl)) rfl) rfl ?_
   clear F ac
   intro ac F
   refine Y.pskip F (X.w2 rfl (F.yl (j := 2) (d := 18) (b := false) rfl (by kernel_rfl)) rfl) rfl ?_
   clear F ac
   intro ac F
   refine Y.pskip F (X.w2 rfl (F.yl (j := 2) (d := 18) (b := false) rfl (by kernel_rfl)) rfl) rfl ?_
   clear F ac
   intro ac F
   refine Y.pskip F (X.w2 rfl (F.yl (j := 2) (d := 18) (b := false) rfl (by kernel_rfl)) rfl) rfl ?_
   clear F ac
   intro ac F
   refine Y.pskip F (X.w2 rfl (F.yl (j := 2) (d := 18) (b := false) rfl (by kernel_rfl)) rfl) rfl ?_
   clear F ac
   intro ac F
   refine Y.pval F (X.w0 rfl) rfl (X.pickF rfl (F.e 18 rfl) (X.kc (.bool false) rfl)) ?_
   clear F ac
   intro ac F
   refine Y.nil ?_
   replace F : Fr ac 31 [(0, .agg #[Vi gq, Vi aw, Vi za, Vi p.bu, Vi p.re]), (1, Vi (gnV p x a k)), (2, Vi a), (3, Vi b), (4, Vp w.heap.size), (8, Vi 0), (9, Vi ((a : Int) + k)), (13, .bool true), (24, .bool false)] := F.sub _
   refine X.thenN ?_
   refine Y.condF (F.e 24 rfl) ?_
   refine Y.skip ?_
   refine X.blockN ?_
   refine X.thenN ?_
   refine Y.lit (by kernel_rfl) ?_
   refine Y.pval F (X.w0 rfl) rfl (X.move rfl (F.e 9 rfl)) ?_
   clear F ac
   intro ac F
   refine Y.pval F (X.w0 rfl) rfl (X.binop rfl (F.e 14 rfl) (X.kc (Vi 1) rfl) (X.addI Try.underlying3 rfl (by omega) (by omega))) ?_
   clear F ac
   intro ac F
   refine Y.pval F (X.w0 rfl) rfl (X.assign rfl (F.e 15 rfl)) ?_
   clear F ac
   intro ac F
   refine Y.nil ?_
   replace F : Fr ac 31 [(0, .agg #[Vi gq, Vi aw, Vi za, Vi p.bu, Vi p.re]), (1, Vi (gnV p x a k)), (2, Vi a), (3, Vi b), (4, Vp w.heap.size), (8, Vi 0), (9, Vi (((a : Int) + k : Int) + 1)), (13, .bool true), (24, .bool false)] := F.sub _
   refine X.thenN ?_
   refine ⟨_, ?_, k + 1, rfl, GB_, by omega, (by rw [show gnV p x a (k + 1) = gnV p x a k from by simp only [gnV]; exact (if_neg (fun e => h6p e.1)), show (a : Int) + ((k + 1 : Nat) : Int) = ((a : Int) + k : Int) + 1 by omega]; exact F.sub _)⟩
   omega
  | true =>
   try rw [h6] at F
   have h6p : ((0 : Int) < ((a : Int) + k)) := of_decide_eq_true h6
   refine Y.pval F (X.w1 rfl (F.yl (j := 2) (d := 18) (b := true) rfl (by kernel_rfl))) rfl (X.move rfl (F.e 9 rfl)) ?_
   clear F ac
   intro ac F
   refine Y.pval F (X.w1 rfl (F.yl (j := 2) (d := 18) (b := true) rfl (by kernel_rfl))) rfl (X.field rfl (F.e 4 rfl) (X.fld Try.underlying31 rfl (Try.siz3 _) rfl rfl)) ?_
   clear F ac
   intro ac F
   refine Y.pval F (X.w1 rfl (F.yl (j := 2) (d := 18) (b := true) rfl (by kernel_rfl))) rfl (X.load rfl (F.e 20 rfl) (X.ld1 (Try.agg3 _) (hC.at 4 rfl))) ?_
   clear F ac
   intro ac F
   refine Y.pval F (X.w1 rfl (F.yl (j := 2) (d := 18) (b := true) rfl (by kernel_rfl))) rfl (X.binop rfl (F.e 19 rfl) (F.e 21 rfl) (X.remI Try.underlying3 rfl (by omega) (by omega))) ?_
   clear F ac
   intro ac F
   refine Y.pval F (X.w1 rfl (F.yl (j := 2) (d := 18) (b := true) rfl (by kernel_rfl))) rfl (X.binop rfl (F.e 22 rfl) (X.kc (Vi 0) rfl) (X.eqlI Try.underlying3 rfl)) ?_
   clear F ac
   intro ac F
   refine Y.pval F (X.w0 rfl) rfl (X.pickT rfl (F.e 18 rfl) (F.e 23 rfl)) ?_
   clear F ac
   intro ac F
   refine Y.nil ?_
   replace F : Fr ac 31 [(0, .agg #[Vi gq, Vi aw, Vi za, Vi p.bu, Vi p.re]), (1, Vi (gnV p x a k)), (2, Vi a), (3, Vi b), (4, Vp w.heap.size), (8, Vi 0), (9, Vi ((a : Int) + k)), (13, .bool true), (24, .bool ((((a : Int) + k : Int) % (p.re : Int) : Int) == 0))] := F.sub _
   refine X.thenN ?_
   cases h7 : ((((a : Int) + k : Int) % (p.re : Int) : Int) == 0) with
   | false =>
    try rw [h7] at F
    have h7p : ¬ (((a : Int) + k : Int) % (p.re : Int) : Int) = 0 := by simpa using h7
    refine Y.condF (F.e 24 rfl) ?_
    refine Y.skip ?_
    refine X.blockN ?_
    refine X.thenN ?_
    refine Y.lit (by kernel_rfl) ?_
    refine Y.pval F (X.w0 rfl) rfl (X.move rfl (F.e 9 rfl)) ?_
    clear F ac
    intro ac F
    refine Y.pval F (X.w0 rfl) rfl (X.binop rfl (F.e 14 rfl) (X.kc (Vi 1) rfl) (X.addI Try.underlying3 rfl (by omega) (by omega))) ?_
    clear F ac
    intro ac F
    refine Y.pval F (X.w0 rfl) rfl (X.assign rfl (F.e 15 rfl)) ?_
    clear F ac
    intro ac F
    refine Y.nil ?_
    replace F : Fr ac 31 [(0, .agg #[Vi gq, Vi aw, Vi za, Vi p.bu, Vi p.re]), (1, Vi (gnV p x a k)), (2, Vi a), (3, Vi b), (4, Vp w.heap.size), (8, Vi 0), (9, Vi (((a : Int) + k : Int) + 1)), (13, .bool true), (24, .bool false)] := F.sub _
    refine X.thenN ?_
    refine ⟨_, ?_, k + 1, rfl, GB_, by omega, (by rw [show gnV p x a (k + 1) = gnV p x a k from by simp only [gnV]; exact (if_neg (fun e => h7p e.2)), show (a : Int) + ((k + 1 : Nat) : Int) = ((a : Int) + k : Int) + 1 by omega]; exact F.sub _)⟩
    omega
   | true =>
    try rw [h7] at F
    have h7p : (((a : Int) + k : Int) % (p.re : Int) : Int) = 0 := by simpa using h7
    refine Y.condT (F.e 24 rfl) ?_
    refine Y.lit (by kernel_rfl) ?_
    refine Y.pval F (X.w0 rfl) rfl (X.move rfl (F.e 1 rfl)) ?_
    clear F ac
    intro ac F
    refine Y.pval F (X.w0 rfl) rfl (X.binop rfl (F.e 25 rfl) (X.kc (Vi 1) rfl) (X.addI Try.underlying3 rfl (by omega) (by omega))) ?_
    clear F ac
    intro ac F
    refine Y.pval F (X.w0 rfl) rfl (X.field rfl (F.e 4 rfl) (X.fld Try.underlying31 rfl (Try.siz3 _) rfl rfl)) ?_
    clear F ac
    intro ac F
    refine Y.pval F (X.w0 rfl) rfl (X.load rfl (F.e 27 rfl) (X.ld1 (Try.agg3 _) (hC.at 3 rfl))) ?_
    clear F ac
    intro ac F
    refine Y.pval F (X.w0 rfl) rfl (Y.min2 rfl (F.e 26 rfl) (F.e 28 rfl)) ?_
    clear F ac
    intro ac F
    refine Y.pval F (X.w0 rfl) rfl (X.assign rfl (F.e 29 rfl)) ?_
    clear F ac
    intro ac F
    refine Y.nil ?_
    replace F : Fr ac 31 [(0, .agg #[Vi gq, Vi aw, Vi za, Vi p.bu, Vi p.re]), (1, Vi (min ((gnV p x a k : Int) + 1 : Int) (p.bu : Int))), (2, Vi a), (3, Vi b), (4, Vp w.heap.size), (8, Vi 0), (9, Vi ((a : Int) + k)), (13, .bool true), (24, .bool true)] := F.sub _
    refine X.blockN ?_
    refine X.thenN ?_
    refine Y.lit (by kernel_rfl) ?_
    refine Y.pval F (X.w0 rfl) rfl (X.move rfl (F.e 9 rfl)) ?_
    clear F ac
    intro ac F
    refine Y.pval F (X.w0 rfl) rfl (X.binop rfl (F.e 14 rfl) (X.kc (Vi 1) rfl) (X.addI Try.underlying3 rfl (by omega) (by omega))) ?_
    clear F ac
    intro ac F
    refine Y.pval F (X.w0 rfl) rfl (X.assign rfl (F.e 15 rfl)) ?_
    clear F ac
    intro ac F
    refine Y.nil ?_
    replace F : Fr ac 31 [(0, .agg #[Vi gq, Vi aw, Vi za, Vi p.bu, Vi p.re]), (1, Vi (min ((gnV p x a k : Int) + 1 : Int) (p.bu : Int))), (2, Vi a), (3, Vi b), (4, Vp w.heap.size), (8, Vi 0), (9, Vi (((a : Int) + k : Int) + 1)), (13, .bool true), (24, .bool true)] := F.sub _
    refine X.thenN ?_
    refine ⟨_, ?_, k + 1, rfl, GB_, by omega, (by rw [show gnV p x a (k + 1) = min ((gnV p x a k : Int) + 1 : Int) (p.bu : Int) from by simp only [gnV]; exact (if_pos ⟨h6p, h7p⟩), show (a : Int) + ((k + 1 : Nat) : Int) = ((a : Int) + k : Int) + 1 by omega]; exact F.sub _)⟩
    omega
end
end Go.Proofs.Ytoalamakhjbedaa
