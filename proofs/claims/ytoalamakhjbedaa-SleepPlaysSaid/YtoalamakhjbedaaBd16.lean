/- Several texts of this claim in one file. (1) Contract: Asked. (2) The chapter's example, in plain words; rows of structures that are written out. Nothing of the program is walked here. (3) Contract: sameInts. (4) Contract: the look at the examples. (5) Contract: SleepPlays returns true. -/
import Derived.Test.YtoalamakhjbedaaBd14
import Derived.Test.YtoalamakhjbedaaBd12
import Derived.Test.YtoalamakhjbedaaBd3
import Derived.Test.YtoalamakhjbedaaBd9
import Derived.Test.YtoalamakhjbedaaBd15
namespace Go.Proofs.Ytoalamakhjbedaa
section
open Go.RowKit

set_option maxRecDepth 100000 in
set_option maxHeartbeats 1000000 in
theorem asked_any (na la : Option Addr) (n nc m lc : Nat) (gr hold t : Int) (nd l : List (List Int)) (w : World) (hnd : StAt w 5 na n nd) (hl : StAt w 4 la m l) :
  Calls Try.prog 19 #[.agg #[.int .i64 gr, .int .i64 hold, .slice na n nc], .int .i64 t, .slice la m lc] w fun e w' => ∃ ra rn rc, e = .returned (.tuple #[.slice ra rn rc, .int .i64 (playE gr hold nd t l)]) ∧ Ints w' ra rn (playAsk gr hold nd t l) ∧ Gr w w' := by
 have G := Gr.refl w
 have hnd0 := hnd
 have hl0 := hl
 have hlm := hl.lt
 have hlnn := hnd.lt
 refine Y.calls 29 Try.func19 rfl rfl ?_
 intro ac F0
 have F : Fr ac 29 [(0, .agg #[.int .i64 gr, .int .i64 hold, .slice na n nc]), (1, .int .i64 t), (2, .slice la m lc)] := F0.sub _
 clear F0
 refine Y.seq ?_
 refine Y.lit (by kernel_rfl) ?_
 refine Y.pv F (X.box rfl (F.ev 0 (.agg #[.int .i64 gr, .int .i64 hold, .slice na n nc])) X.bx) ?_;clear F ac;intro ac F
 have g := Gr.alloc w (.cells #[.int .i64 gr, .int .i64 hold, .slice na n nc] 24)
 have hb := heap_alloc_new w (.cells #[.int .i64 gr, .int .i64 hold, .slice na n nc] 24)
 have hbl : w.heap.size < (w.alloc (.cells #[.int .i64 gr, .int .i64 hold, .slice na n nc] 24)).heap.size := by simp
 have hC2 : RCells (w.alloc (.cells #[.int .i64 gr, .int .i64 hold, .slice na n nc] 24)) [(⟨w.heap.size, 0, none⟩, .int .i64 gr), (⟨w.heap.size, 1, none⟩, .int .i64 hold), (⟨w.heap.size, 2, none⟩, .slice na n nc)] := (RCells.nil w).box (b := w.heap.size) #[.int .i64 gr, .int .i64 hold, .slice na n nc] 24 rfl
 generalize w.alloc (.cells #[.int .i64 gr, .int .i64 hold, .slice na n nc] 24) = w3 at *
 replace G := G.trans g
 have hC := hC2
 clear hC2
 replace hnd := hnd.gr g
 replace hl := hl.gr g
 clear g hb hbl
 have hC0 := hC
 refine Y.pv F (X.assign rfl (X.kc (.slice none 0 0) rfl)) ?_;clear F ac;intro ac F
 refine Y.pv F (X.assign rfl (X.kc (.int .i64 0) rfl)) ?_;clear F ac;intro ac F
 refine Y.nil ?_
 replace F : Fr ac 29 [(0, .agg #[.int .i64 gr, .int .i64 hold, .slice na n nc]), (1, .int .i64 t), (2, .slice la m lc), (3, .pointer (some ⟨w.heap.size, 0, none⟩)), (6, .slice none 0 0), (7, .int .i64 0)] := F.sub _
 refine X.thenN ?_
 refine Y.seq ?_
 refine Y.lit (by kernel_rfl) ?_
 refine Y.pv F (X.load rfl (F.ev 3 (.pointer (some ⟨w.heap.size, 0, none⟩))) (X.ldN (Try.agg24 _) (Try.siz24 _) (Y.atz (⟨w.heap.size, 0, none⟩) (Y.AtFrom.cons (hC.at 0 rfl) (Y.AtFrom.cons (hC.at 1 rfl) (Y.AtFrom.cons (hC.at 2 rfl) (Y.AtFrom.nil _ _ _))))))) ?_;clear F ac;intro ac F
 refine Y.pv F (X.move rfl (F.ev 1 (.int .i64 t))) ?_;clear F ac;intro ac F
 refine Y.pv F (X.move rfl (F.ev 2 (.slice la m lc))) ?_;clear F ac;intro ac F
 by_cases hE : playE gr hold nd t l = 0
 ·have hE := hE
  refine Y.pcall F (X.w0 rfl) rfl (X.enter (F := 44) rfl (X.kc (.func (.func 44) #[] #[]) rfl) (X.a3 (F.ev 13 (.agg #[.int .i64 gr, .int .i64 hold, .slice na n nc])) (F.ev 14 (.int .i64 t)) (F.ev 15 (.slice la m lc))) (enters_of Try.func44 (by kernel_rfl) rfl _)) (begin_any na la n nc m lc gr hold t nd l w3 hnd hl) ?_
  clear F ac
  rintro e w5 ⟨-, g, h0⟩
  obtain ⟨bp, rfl, hBg⟩ := h0 hE
  clear h0
  refine ⟨_, rfl, ?_⟩
  intro ac F
  have hBsz : w3.heap.size = w3.heap.size := rfl
  replace G := G.trans g
  replace hC := hC.gr g
  replace hnd := hnd.gr g
  replace hl := hl.gr g
  clear g
  refine Y.pv F (X.move rfl (F.ev 16 (.tuple #[.pointer (some ⟨bp, 0, none⟩), .int .i64 0]))) ?_;clear F ac;intro ac F
  refine Y.pv F (X.extract rfl (F.ev 12 (.tuple #[.pointer (some ⟨bp, 0, none⟩), .int .i64 0])) rfl) ?_;clear F ac;intro ac F
  refine Y.pv F (X.extract rfl (F.ev 12 (.tuple #[.pointer (some ⟨bp, 0, none⟩), .int .i64 0])) rfl) ?_;clear F ac;intro ac F
  refine Y.pv F (X.assign rfl (F.ev 17 (.pointer (some ⟨bp, 0, none⟩)))) ?_;clear F ac;intro ac F
  refine Y.pv F (X.assign rfl (F.ev 18 (.int .i64 0))) ?_;clear F ac;intro ac F
  refine Y.nil ?_
  replace F : Fr ac 29 [(0, .agg #[.int .i64 gr, .int .i64 hold, .slice na n nc]), (1, .int .i64 t), (2, .slice la m lc), (3, .pointer (some ⟨w.heap.size, 0, none⟩)), (6, .slice none 0 0), (7, .int .i64 0), (8, .pointer (some ⟨bp, 0, none⟩)), (9, .int .i64 0)] := F.sub _
  refine X.thenN ?_
  refine Y.seq ?_
  refine Y.seq ?_
  refine Y.lit (by kernel_rfl) ?_
  refine Y.pv F (X.move rfl (F.ev 9 (.int .i64 0))) ?_;clear F ac;intro ac F
  refine Y.pv F (X.binop rfl (F.ev 19 (.int .i64 0)) (X.kc (.int .i64 0) rfl) (X.neqI Try.underlying26 (show ((0 : Int) != 0) = false by simp))) ?_;clear F ac;intro ac F
  refine Y.nil ?_
  replace F : Fr ac 29 [(0, .agg #[.int .i64 gr, .int .i64 hold, .slice na n nc]), (1, .int .i64 t), (2, .slice la m lc), (3, .pointer (some ⟨w.heap.size, 0, none⟩)), (6, .slice none 0 0), (7, .int .i64 0), (8, .pointer (some ⟨bp, 0, none⟩)), (9, .int .i64 0), (20, .bool false)] := F.sub _
  refine X.thenN ?_
  refine Y.condF (F.ev 20 (.bool false)) ?_
  refine Y.skip ?_
  refine X.thenN ?_
  refine Y.seq ?_
  refine Y.lit (by kernel_rfl) ?_
  refine Y.pv F (X.move rfl (F.ev 8 (.pointer (some ⟨bp, 0, none⟩)))) ?_;clear F ac;intro ac F
  refine Y.pv F (X.move rfl (F.ev 1 (.int .i64 t))) ?_;clear F ac;intro ac F
  have hok := playE_ok hE
  have hc := hok.c
  have ht0 := hok.t0
  have ht1 := hok.t1
  have hln := hnd.len
  have h16 : n ≤ 16 := by have := hc.n16; omega
  obtain ⟨bn, pa, cap, hP, hS⟩ := hBg
  have hpb := hP.pb
  have hnb := hP.nb
  have hg1 := hc.g1
  have hg8 := hc.g8
  have hSO : SOk n (startS nd) := by have := SOk.start hc; rwa [hln] at this
  have htt : t = ((t.toNat : Nat) : Int) := by omega
  have hgw := G.size
  have hnu : ∀ x ∈ l, NuOk gr nd t x := fun x hx => by obtain ⟨i, hi, rfl⟩ := List.getElem_of_mem hx; have := hok.nu i hi; rwa [List.getElem?_eq_getElem hi] at this
  refine Y.pcall F (X.w0 rfl) rfl (X.enter (F := 45) rfl (X.kc (.func (.func 45) #[] #[]) rfl) (X.a2 (F.ev 23 (.pointer (some ⟨bp, 0, none⟩))) (F.ev 24 (.int .i64 t))) (enters_of Try.func45 (by kernel_rfl) rfl _)) (by have h := run_any w3 w5 bp bn gr hold na la pa n nc m lc cap l (startS nd) t.toNat hP hS h16 ⟨nd, t, hln, hg8, hnu⟩ hSO hc.h1 hc.h100 (by omega) (by omega); rw [← htt] at h; exact h) ?_
  clear F ac
  rintro e w6 ⟨v1, v2, rfl, hon, -, hO1, hO2⟩
  refine ⟨_, rfl, ?_⟩
  intro ac F
  have hcb : w.heap.size < w3.heap.size := lt_cell (hC0.at 0 rfl)
  replace hC := (hC.kc hon 0 rfl (hC.kc hon 1 rfl (hC.kc hon 2 rfl (RCells.nil _))))
  replace G := Y.Only.up G hon (by omega)
  replace hnd := hnd0.gr G
  replace hl := hl0.gr G
  clear hon hS hP
  obtain ⟨aa, ac1, rfl, hIa, hIab⟩ := hO1.intsN (runFrom_len t.toNat).1 (by omega)
  obtain ⟨ra, rc, rfl, hIr, hIrb⟩ := hO2.intsN (runFrom_len t.toNat).2 (by omega)
  clear hO1 hO2
  refine Y.pv F (X.move rfl (F.ev 25 (.tuple #[.slice aa t.toNat ac1, .slice ra t.toNat rc]))) ?_;clear F ac;intro ac F
  refine Y.pv F (X.extract rfl (F.ev 22 (.tuple #[.slice aa t.toNat ac1, .slice ra t.toNat rc])) rfl) ?_;clear F ac;intro ac F
  refine Y.pv F (X.extract rfl (F.ev 22 (.tuple #[.slice aa t.toNat ac1, .slice ra t.toNat rc])) rfl) ?_;clear F ac;intro ac F
  refine Y.pv F (X.assign rfl (F.ev 26 (.slice aa t.toNat ac1))) ?_;clear F ac;intro ac F
  refine Y.pv F (X.assign rfl (F.ev 27 (.slice ra t.toNat rc))) ?_;clear F ac;intro ac F
  refine Y.nil ?_
  replace F : Fr ac 29 [(0, .agg #[.int .i64 gr, .int .i64 hold, .slice na n nc]), (1, .int .i64 t), (2, .slice la m lc), (3, .pointer (some ⟨w.heap.size, 0, none⟩)), (6, .slice none 0 0), (7, .int .i64 0), (8, .pointer (some ⟨bp, 0, none⟩)), (9, .int .i64 0), (10, .slice aa t.toNat ac1), (20, .bool false)] := F.sub _
  refine X.thenN ?_
  refine Y.seq ?_
  refine Y.lit (by kernel_rfl) ?_
  refine Y.pv F (X.move rfl (F.ev 10 (.slice aa t.toNat ac1))) ?_;clear F ac;intro ac F
  refine Y.pv F (X.assign rfl (F.ev 28 (.slice aa t.toNat ac1))) ?_;clear F ac;intro ac F
  refine Y.pv F (X.assign rfl (X.kc (.int .i64 0) rfl)) ?_;clear F ac;intro ac F
  refine Y.nil ?_
  replace F : Fr ac 29 [(0, .agg #[.int .i64 gr, .int .i64 hold, .slice na n nc]), (1, .int .i64 t), (2, .slice la m lc), (3, .pointer (some ⟨w.heap.size, 0, none⟩)), (6, .slice aa t.toNat ac1), (7, .int .i64 0), (8, .pointer (some ⟨bp, 0, none⟩)), (9, .int .i64 0), (10, .slice aa t.toNat ac1), (20, .bool false)] := F.sub _
  refine X.thenN ?_
  refine Y.ret ?_
  have e1 : playAsk gr hold nd t l = (runFrom hold gr.toNat n l (startS nd) t.toNat).asked := by unfold playAsk playR; rw [if_pos hE, hln]
  exact Y.ret0 (v := .tuple #[.slice aa t.toNat ac1, .int .i64 0]) F (Y.rs2 F rfl (by kernel_rfl) (by kernel_rfl)) ⟨_, _, _, by rw [hE], by rw [e1]; exact hIa, G⟩
 ·have hE := hE
  refine Y.pcall F (X.w0 rfl) rfl (X.enter (F := 44) rfl (X.kc (.func (.func 44) #[] #[]) rfl) (X.a3 (F.ev 13 (.agg #[.int .i64 gr, .int .i64 hold, .slice na n nc])) (F.ev 14 (.int .i64 t)) (F.ev 15 (.slice la m lc))) (enters_of Try.func44 (by kernel_rfl) rfl _)) (begin_any na la n nc m lc gr hold t nd l w3 hnd hl) ?_
  clear F ac
  rintro e w7 ⟨h1, g, -⟩
  obtain rfl := h1 hE
  refine ⟨_, rfl, ?_⟩
  intro ac F
  replace G := G.trans g
  replace hC := hC.gr g
  replace hnd := hnd.gr g
  replace hl := hl.gr g
  clear g
  refine Y.pv F (X.move rfl (F.ev 16 (.tuple #[.pointer none, .int .i64 (playE gr hold nd t l)]))) ?_;clear F ac;intro ac F
  refine Y.pv F (X.extract rfl (F.ev 12 (.tuple #[.pointer none, .int .i64 (playE gr hold nd t l)])) rfl) ?_;clear F ac;intro ac F
  refine Y.pv F (X.extract rfl (F.ev 12 (.tuple #[.pointer none, .int .i64 (playE gr hold nd t l)])) rfl) ?_;clear F ac;intro ac F
  refine Y.pv F (X.assign rfl (F.ev 17 (.pointer none))) ?_;clear F ac;intro ac F
  refine Y.pv F (X.assign rfl (F.ev 18 (.int .i64 (playE gr hold nd t l)))) ?_;clear F ac;intro ac F
  refine Y.nil ?_
  replace F : Fr ac 29 [(0, .agg #[.int .i64 gr, .int .i64 hold, .slice na n nc]), (1, .int .i64 t), (2, .slice la m lc), (3, .pointer (some ⟨w.heap.size, 0, none⟩)), (6, .slice none 0 0), (7, .int .i64 0), (8, .pointer none), (9, .int .i64 (playE gr hold nd t l))] := F.sub _
  refine X.thenN ?_
  refine Y.seq ?_
  refine Y.seq ?_
  refine Y.lit (by kernel_rfl) ?_
  refine Y.pv F (X.move rfl (F.ev 9 (.int .i64 (playE gr hold nd t l)))) ?_;clear F ac;intro ac F
  refine Y.pv F (X.binop rfl (F.ev 19 (.int .i64 (playE gr hold nd t l))) (X.kc (.int .i64 0) rfl) (X.neqI Try.underlying26 rfl)) ?_;clear F ac;intro ac F
  refine Y.nil ?_
  replace F : Fr ac 29 [(0, .agg #[.int .i64 gr, .int .i64 hold, .slice na n nc]), (1, .int .i64 t), (2, .slice la m lc), (3, .pointer (some ⟨w.heap.size, 0, none⟩)), (6, .slice none 0 0), (7, .int .i64 0), (8, .pointer none), (9, .int .i64 (playE gr hold nd t l)), (20, .bool ((playE gr hold nd t l : Int) != 0))] := F.sub _
  refine X.thenN ?_
  have h9 : ((playE gr hold nd t l : Int) != 0) = true := by simpa using hE
  try rw [h9] at F
  refine Y.condT (F.ev 20 (.bool true)) ?_
  refine Y.seq ?_
  refine Y.lit (by kernel_rfl) ?_
  refine Y.pv F (X.move rfl (F.ev 9 (.int .i64 (playE gr hold nd t l)))) ?_;clear F ac;intro ac F
  refine Y.pv F (X.assign rfl (X.kc (.slice none 0 0) rfl)) ?_;clear F ac;intro ac F
  refine Y.pv F (X.assign rfl (F.ev 21 (.int .i64 (playE gr hold nd t l)))) ?_;clear F ac;intro ac F
  refine Y.nil ?_
  replace F : Fr ac 29 [(0, .agg #[.int .i64 gr, .int .i64 hold, .slice na n nc]), (1, .int .i64 t), (2, .slice la m lc), (3, .pointer (some ⟨w.heap.size, 0, none⟩)), (6, .slice none 0 0), (7, .int .i64 (playE gr hold nd t l)), (8, .pointer none), (9, .int .i64 (playE gr hold nd t l)), (20, .bool true)] := F.sub _
  refine X.thenN ?_
  refine Y.ret ?_
  refine X.thenR ?_
  exact Y.ret0 (v := .tuple #[.slice none 0 0, .int .i64 (playE gr hold nd t l)]) F (Y.rs2 F rfl (by kernel_rfl) (by kernel_rfl)) ⟨none, 0, 0, rfl, by unfold playAsk; rw [if_neg hE]; exact Ints.nil _, G⟩
end
section
set_option linter.unusedVariables false
open Go.RowKit
theorem stc {P : Program} {b n : Nat} : ∀ (rest : List Value) (i : Nat) (W : World) (val : Nat → Value), OwnP W b n val → i + rest.length ≤ n → (rest.all fun v => v.oneCell') = true →
    ∃ W', (storeCells ⟨b, 0, none⟩ rest i).run P W = .ok () W' ∧ OwnP W' b n (fun k => if i ≤ k ∧ k < i + rest.length then rest.getD (k - i) undef else val k) ∧ Only (fun z => z = b) W W' := by
  intro rest
  induction rest with
  | nil => intro i W val h _ _; exact ⟨W, by simp [storeCells, go_sem], h.congr (fun k _ => by rw [if_neg (by simp only [List.length_nil]; omega)]), Only.refl _ _⟩
  | cons v rest ih =>
    intro i W val h hi h1
    simp only [List.all_cons, Bool.and_eq_true, List.length_cons] at h1 hi
    have hs := run_store P W ⟨b, i, none⟩ v .plain h1.1
    rw [h.cell (k := i) (by omega), h.fz] at hs
    simp only [Bool.false_eq_true, if_false] at hs
    obtain ⟨W', hr, hO, hon⟩ := ih (i + 1) _ _ (h.set (k := i) v) (by omega) h1.2
    refine ⟨W', ?_, hO.congr (fun k hk => ?_), (Y.set_only _ _ _ _).trans hon⟩
    · have e : (⟨b, 0, none⟩ : Addr).add i = ⟨b, i, none⟩ := addr_add0 _ _
      simp [storeCells, e, hs, go_sem]
      exact hr
    · simp only [List.length_cons]
      by_cases e : k = i
      · subst e; rw [if_neg (by omega), if_pos rfl, if_pos (by omega)]; simp
      · by_cases e2 : i + 1 ≤ k ∧ k < i + 1 + rest.length
        · rw [if_pos e2, if_pos (by omega), show k - i = (k - (i + 1)) + 1 by omega]; simp
        · rw [if_neg e2, if_neg e, if_neg (by omega)]
theorem OwnP.stL {P : Program} {W : World} {b n : Nat} {val : Nat → Value} {t : TypeId} (vs : List Value) (h : OwnP W b n val) (hn : vs.length = n) (hS : ∀ W, (sizeOf t).run P W = .ok vs.length W) (h1 : (vs.all fun v => v.oneCell') = true) :
    ∃ W', (Instr.storeAt t (.pointer (some ⟨b, 0, none⟩)) (.agg vs.toArray)).run P W = .ok () W' ∧ OwnP W' b n (VL vs) ∧ Only (fun z => z = b) W W' := by
  obtain ⟨W', hr, hO, hon⟩ := stc (P := P) vs 0 W val h (by omega) h1
  refine ⟨W', ?_, hO.congr (fun k hk => ?_), hon⟩
  · simp [Instr.storeAt, storeVar, Instr.sureAddr, hS, Value.cells, go_sem]
    exact hr
  · rw [if_pos (by omega)]; rfl
theorem stAt_own {W : World} {b n k : Nat} {L : List (List Int)} (h : OwnP W b (n * k) (fun j => .int .i64 (cv L (j / k) (j % k)))) (hl : L.length = n) (hk : ∀ j, j < n → (L[j]?.getD []).length = k) (hn : n * k * 8 ≤ 140737488351232) : StAt W k (some ⟨b, 0, none⟩) n L :=
  ⟨hl, hn, fun j hj => ⟨_, rfl, h.lt, hk j hj, fun r hr => by
    rw [addr_add0, Y.addr_add]
    have h1 : (j * k + r) / k = j := by
      rw [Nat.mul_comm, Nat.mul_add_div (by omega), Nat.div_eq_of_lt hr, Nat.add_zero]
    have h2 : (j * k + r) % k = r := by
      rw [Nat.mul_comm, Nat.mul_add_mod, Nat.mod_eq_of_lt hr]
    have h3 : j * k + r < n * k := by
      have := Nat.mul_le_mul_right k (show j + 1 ≤ n by omega)
      rw [Nat.add_mul, Nat.one_mul] at this
      omega
    rw [h.cell h3]
    show some (Value.int .i64 (cv L ((j * k + r) / k) ((j * k + r) % k))) = _
    rw [h1, h2]; rfl⟩⟩
def exN : List (List Int) := [[1, 10, 1, 1, 5], [3, 20, 2, 2, 10], [2, 30, 0, 0, 1]]
def exL : List (List Int) := [[1, 1, 1, 0], [2, 2, 1, 0]]
set_option maxRecDepth 100000 in
theorem ex_e : playE 2 3 exN 6 exL = 0 := by decide +kernel
set_option maxRecDepth 100000 in
theorem ex_t : ticksE 2 3 exN 8 = 0 := by decide +kernel
set_option maxRecDepth 100000 in
theorem ex_p : parkV 2 3 exN 8 = 186 := by decide +kernel
set_option maxRecDepth 100000 in
theorem ex_pr : playRows 2 3 exN 6 exL = [0, 3, 3, 3, 0, 0] := by decide +kernel
set_option maxRecDepth 100000 in
theorem ex_en : playEn 2 3 exN 6 exL = [33, 66, 0] := by decide +kernel
theorem exN_at {W : World} {b : Nat} {t : TypeId} (h : W.heap[b]? = some (.cells #[.int .i64 1, .int .i64 10, .int .i64 1, .int .i64 1, .int .i64 5, .int .i64 3, .int .i64 20, .int .i64 2, .int .i64 2, .int .i64 10, .int .i64 2, .int .i64 30, .int .i64 0, .int .i64 0, .int .i64 1] t)) : StAt W 5 (some ⟨b, 0, none⟩) 3 exN :=
  stAt_own ⟨_, _, h, by simp, fun k hk => by
    match k, hk with
    | 0, _ | 1, _ | 2, _ | 3, _ | 4, _ | 5, _ | 6, _ | 7, _ | 8, _ | 9, _ | 10, _ | 11, _ | 12, _ | 13, _ | 14, _ => rfl⟩ rfl (fun j hj => by
    match j, hj with
    | 0, _ | 1, _ | 2, _ => rfl) (by decide)
theorem exL_at {W : World} {b : Nat} {t : TypeId} (h : W.heap[b]? = some (.cells #[.int .i64 1, .int .i64 1, .int .i64 1, .int .i64 0, .int .i64 2, .int .i64 2, .int .i64 1, .int .i64 0] t)) : StAt W 4 (some ⟨b, 0, none⟩) 2 exL :=
  stAt_own ⟨_, _, h, by simp, fun k hk => by
    match k, hk with
    | 0, _ | 1, _ | 2, _ | 3, _ | 4, _ | 5, _ | 6, _ | 7, _ => rfl⟩ rfl (fun j hj => by
    match j, hj with
    | 0, _ | 1, _ => rfl) (by decide)
theorem Try.exb1 (W : World) : (Instr.build 31 #[(0, .int .i64 1), (1, .int .i64 10), (2, .int .i64 1), (3, .int .i64 1), (4, .int .i64 5)]).run Try.prog W = .ok (.agg #[.int .i64 1, .int .i64 10, .int .i64 1, .int .i64 1, .int .i64 5]) W := by kernel_rfl
theorem Try.exb2 (W : World) : (Instr.build 31 #[(0, .int .i64 3), (1, .int .i64 20), (2, .int .i64 2), (3, .int .i64 2), (4, .int .i64 10)]).run Try.prog W = .ok (.agg #[.int .i64 3, .int .i64 20, .int .i64 2, .int .i64 2, .int .i64 10]) W := by kernel_rfl
theorem Try.exb3 (W : World) : (Instr.build 31 #[(0, .int .i64 2), (1, .int .i64 30), (4, .int .i64 1)]).run Try.prog W = .ok (.agg #[.int .i64 2, .int .i64 30, .int .i64 0, .int .i64 0, .int .i64 1]) W := by kernel_rfl
theorem Try.exs (W : World) : (Instr.buildSlice 22 3 #[(0, .agg #[.int .i64 1, .int .i64 10, .int .i64 1, .int .i64 1, .int .i64 5]), (1, .agg #[.int .i64 3, .int .i64 20, .int .i64 2, .int .i64 2, .int .i64 10]), (2, .agg #[.int .i64 2, .int .i64 30, .int .i64 0, .int .i64 0, .int .i64 1])]).run Try.prog W = .ok (.slice (some ⟨W.heap.size, 0, none⟩) 3 3) (W.alloc (.cells #[.int .i64 1, .int .i64 10, .int .i64 1, .int .i64 1, .int .i64 5, .int .i64 3, .int .i64 20, .int .i64 2, .int .i64 2, .int .i64 10, .int .i64 2, .int .i64 30, .int .i64 0, .int .i64 0, .int .i64 1] 31)) := by kernel_rfl
theorem Try.exc (a : Option Addr) (n c : Nat) (g h : Int) (W : World) : (Instr.build 24 #[(0, .int .i64 g), (1, .int .i64 h), (2, .slice a n c)]).run Try.prog W = .ok (.agg #[.int .i64 g, .int .i64 h, .slice a n c]) W := by kernel_rfl
theorem Try.exn1 (W : World) : (Instr.build 33 #[(0, .int .i64 1), (1, .int .i64 1), (2, .int .i64 1)]).run Try.prog W = .ok (.agg #[.int .i64 1, .int .i64 1, .int .i64 1, .int .i64 0]) W := by kernel_rfl
theorem Try.exn2 (W : World) : (Instr.build 33 #[(0, .int .i64 2), (1, .int .i64 2), (2, .int .i64 1)]).run Try.prog W = .ok (.agg #[.int .i64 2, .int .i64 2, .int .i64 1, .int .i64 0]) W := by kernel_rfl
theorem Try.exm (W : World) : (Instr.buildSlice 25 2 #[(0, .agg #[.int .i64 1, .int .i64 1, .int .i64 1, .int .i64 0]), (1, .agg #[.int .i64 2, .int .i64 2, .int .i64 1, .int .i64 0])]).run Try.prog W = .ok (.slice (some ⟨W.heap.size, 0, none⟩) 2 2) (W.alloc (.cells #[.int .i64 1, .int .i64 1, .int .i64 1, .int .i64 0, .int .i64 2, .int .i64 2, .int .i64 1, .int .i64 0] 33)) := by kernel_rfl
theorem Try.exr (W : World) : (Instr.buildSlice 34 6 #[(0, .int .i64 0), (1, .int .i64 3), (2, .int .i64 3), (3, .int .i64 3), (4, .int .i64 0), (5, .int .i64 0)]).run Try.prog W = .ok (.slice (some ⟨W.heap.size, 0, none⟩) 6 6) (W.alloc (.cells #[.int .i64 0, .int .i64 3, .int .i64 3, .int .i64 3, .int .i64 0, .int .i64 0] 3)) := by kernel_rfl
theorem Try.exq (W : World) : (Instr.buildSlice 34 3 #[(0, .int .i64 33), (1, .int .i64 66), (2, .int .i64 0)]).run Try.prog W = .ok (.slice (some ⟨W.heap.size, 0, none⟩) 3 3) (W.alloc (.cells #[.int .i64 33, .int .i64 66, .int .i64 0] 3)) := by kernel_rfl
theorem exr_at {W : World} {b : Nat} {t : TypeId} (h : W.heap[b]? = some (.cells #[.int .i64 0, .int .i64 3, .int .i64 3, .int .i64 3, .int .i64 0, .int .i64 0] t)) : Ints W (some ⟨b, 0, none⟩) 6 [0, 3, 3, 3, 0, 0] :=
  ⟨rfl, by decide, fun j hj => ⟨_, rfl, (Array.getElem?_eq_some_iff.1 h).1, by
    rw [addr_add0]
    exact cell_at h (by
      match j, hj with
      | 0, _ | 1, _ | 2, _ | 3, _ | 4, _ | 5, _ => rfl)⟩⟩
theorem exq_at {W : World} {b : Nat} {t : TypeId} (h : W.heap[b]? = some (.cells #[.int .i64 33, .int .i64 66, .int .i64 0] t)) : Ints W (some ⟨b, 0, none⟩) 3 [33, 66, 0] :=
  ⟨rfl, by decide, fun j hj => ⟨_, rfl, (Array.getElem?_eq_some_iff.1 h).1, by
    rw [addr_add0]
    exact cell_at h (by
      match j, hj with
      | 0, _ | 1, _ | 2, _ => rfl)⟩⟩
theorem Y.rc13 {P : Program} {A : Act} {W : World} {n : Nat} {L : List (Nat × Value)} {D : List Deferred} {fn : Func} {s b : Nat} {t : TypeId} {x y z : Value} (F : Fr A n L D) (hr : fn.results = #[.cell s t]) (hA : (isAgg t).run P W = .ok true W) (hS : (sizeOf t).run P W = .ok 3 W) (hp : lookS L s = some (.pointer (some ⟨b, 0, none⟩))) (h : OwnP W b 3 (VL [x, y, z])) : (results fn A.tmps).run P W = .ok (.agg #[x, y, z]) W := by
  have e := F.look hp
  have hl : W.cell? ⟨b, 0, none⟩ = some x := h.cell (k := 0) (by decide)
  have hl1 : W.cell? ⟨b, 1, none⟩ = some y := h.cell (k := 1) (by decide)
  have hl2 : W.cell? ⟨b, 2, none⟩ = some z := h.cell (k := 2) (by decide)
  simp [results, hr, e, asAddr, hl, hl1, hl2, hA, hS, go_sem]
theorem same_no {xs ys : List Int} {j : Nat} (hj : j < xs.length) (hl : xs.length = ys.length) (h : ¬ xs[j]?.getD 0 = ys[j]?.getD 0) : decide (xs = ys) = false := by
  simp only [decide_eq_false_iff_not]
  intro e; subst e; exact h rfl
theorem same_yes {xs ys : List Int} (hl : xs.length = ys.length) (h : ∀ j, j < xs.length → xs[j]?.getD 0 = ys[j]?.getD 0) : decide (xs = ys) = true := by
  simp only [decide_eq_true_eq]
  apply List.ext_getElem hl
  intro i h1 h2
  have := h i h1
  rw [List.getElem?_eq_getElem h1, List.getElem?_eq_getElem h2] at this
  simpa using this
end
section
open Go.RowKit

set_option maxRecDepth 100000 in
set_option maxHeartbeats 400000 in
theorem same_any (a b : Option Addr) (n c m d : Nat) (xs ys : List Int) (w : World) (hx : Ints w a n xs) (hy : Ints w b m ys) :
  Calls Try.prog 27 #[.slice a n c, .slice b m d] w fun e w' => e = .returned (.bool (decide (xs = ys))) ∧ Gr w w' := by
 have G := Gr.refl w
 have hxl := hx.len
 have hyl := hy.len
 have hlt := hx.lt
 have hlt2 := hy.lt
 refine Y.calls 26 Try.func27 rfl rfl ?_
 intro ac F0
 have F : Fr ac 26 [(0, .slice a n c), (1, .slice b m d)] := F0.sub _
 clear F0
 refine Y.seq ?_
 refine Y.lit (by kernel_rfl) ?_
 refine Y.pval F (X.w0 rfl) rfl (X.assign rfl (X.kc (.bool false) rfl)) ?_
 clear F ac
 intro ac F
 refine Y.nil ?_
 replace F : Fr ac 26 [(0, .slice a n c), (1, .slice b m d), (4, .bool false)] := F.sub _
 refine X.thenN ?_
 refine Y.seq ?_
 refine Y.seq ?_
 refine Y.lit (by kernel_rfl) ?_
 refine Y.pval F (X.w0 rfl) rfl (X.move rfl (F.e 0 rfl)) ?_
 clear F ac
 intro ac F
 refine Y.pval F (X.w0 rfl) rfl (X.len1 Try.underlying34 rfl (F.e 6 rfl)) ?_
 clear F ac
 intro ac F
 refine Y.pval F (X.w0 rfl) rfl (X.move rfl (F.e 1 rfl)) ?_
 clear F ac
 intro ac F
 refine Y.pval F (X.w0 rfl) rfl (X.len1 Try.underlying34 rfl (F.e 8 rfl)) ?_
 clear F ac
 intro ac F
 refine Y.pval F (X.w0 rfl) rfl (X.binop rfl (F.e 7 rfl) (F.e 9 rfl) (X.neqI Try.underlying3 rfl)) ?_
 clear F ac
 intro ac F
 refine Y.nil ?_
 replace F : Fr ac 26 [(0, .slice a n c), (1, .slice b m d), (4, .bool false), (10, .bool ((n : Int) != m))] := F.sub _
 refine X.thenN ?_
 cases h3 : ((n : Int) != m) with
 | false =>
  try rw [h3] at F
  have h3p : (n : Int) = m := by simpa using h3
  have hnm : m = n := by omega
  have hl2 : xs.length = ys.length := by omega
  refine Y.condF (F.e 10 rfl) ?_
  refine Y.skip ?_
  refine X.thenN ?_
  refine Y.seq ?_
  refine Y.seq ?_
  refine Y.lit (by kernel_rfl) ?_
  refine Y.pval F (X.w0 rfl) rfl (X.assign rfl (X.kc (Vi 0) rfl)) ?_
  clear F ac
  intro ac F
  refine Y.nil ?_
  replace F : Fr ac 26 [(0, .slice a n c), (1, .slice b m d), (4, .bool false), (5, Vi 0), (10, .bool false)] := F.sub _
  refine X.thenN ?_
  refine Y.block ?_
  have hxB := hx
  have hyB := hy
  have GB := G
  refine Y.loop (fun me_ ac wr => ∃ (i : Nat), me_ = n - i ∧ Gr w wr ∧ i ≤ n ∧ (∀ j, j < i → xs[j]?.getD 0 = ys[j]?.getD 0) ∧ Fr ac 26 [(0, .slice a n c), (1, .slice b m d), (5, Vi i), (10, .bool false)]) _ ⟨0, rfl, Gr.refl _, Nat.zero_le _, fun j h => by omega, F.sub _⟩ ?_
  clear F
  intro me_ ac w4 hI
  obtain ⟨i, rfl, gr, hi, hsame, F⟩ := hI
  replace G := GB.trans gr
  replace hx := hxB.gr gr
  replace hy := hyB.gr gr
  have GB_ := gr
  clear gr
  refine Y.seq ?_
  refine Y.seq ?_
  refine Y.lit (by kernel_rfl) ?_
  refine Y.pval F (X.w0 rfl) rfl (X.move rfl (F.e 5 rfl)) ?_
  clear F ac
  intro ac F
  refine Y.pval F (X.w0 rfl) rfl (X.move rfl (F.e 0 rfl)) ?_
  clear F ac
  intro ac F
  refine Y.pval F (X.w0 rfl) rfl (X.len1 Try.underlying34 rfl (F.e 12 rfl)) ?_
  clear F ac
  intro ac F
  refine Y.pval F (X.w0 rfl) rfl (X.binop rfl (F.e 11 rfl) (F.e 13 rfl) (X.lssI Try.underlying3 rfl)) ?_
  clear F ac
  intro ac F
  refine Y.nil ?_
  replace F : Fr ac 26 [(0, .slice a n c), (1, .slice b m d), (5, Vi i), (10, .bool false), (14, .bool (decide ((i : Int) < n)))] := F.sub _
  refine X.thenN ?_
  cases h5 : decide ((i : Int) < n) with
  | false =>
   try rw [h5] at F
   have h5p : ¬ ((i : Int) < n) := of_decide_eq_false h5
   have hin : i = n := by omega
   refine Y.condF (F.e 14 rfl) ?_
   refine Y.exit ?_
   refine X.thenX ?_
   refine X.thenX ?_
   refine X.blockX ?_
   refine X.thenN ?_
   refine Y.seq ?_
   refine Y.lit (by kernel_rfl) ?_
   refine Y.pval F (X.w0 rfl) rfl (X.assign rfl (X.kc (.bool true) rfl)) ?_
   clear F ac
   intro ac F
   refine Y.nil ?_
   replace F : Fr ac 26 [(0, .slice a n c), (1, .slice b m d), (4, .bool true), (5, Vi i), (10, .bool false), (14, .bool false)] := F.sub _
   refine X.thenN ?_
   refine Y.ret ?_
   exact Y.ret0 (v := .bool true) F (Y.rs1 F rfl (by kernel_rfl)) ⟨by rw [same_yes hl2 (fun j hj => hsame j (by omega))], G⟩
  | true =>
   try rw [h5] at F
   have h5p : ((i : Int) < n) := of_decide_eq_true h5
   refine Y.condT (F.e 14 rfl) ?_
   refine Y.skip ?_
   refine X.thenN ?_
   refine Y.seq ?_
   refine Y.block ?_
   refine Y.seq ?_
   obtain ⟨pd6, pe6, -, pc6⟩ := hx.at (j := i) (by omega)
   subst pe6
   have hC : RCells w4 [(pd6.add i, Vi (xs[i]?.getD 0))] := (RCells.cons pc6 (RCells.nil _))
   clear pc6
   obtain ⟨pd7, pe7, -, pc7⟩ := hy.at (j := i) (by omega)
   subst pe7
   replace hC : RCells w4 [(pd6.add i, Vi (xs[i]?.getD 0)), (pd7.add i, Vi (ys[i]?.getD 0))] := hC.append ((RCells.cons pc7 (RCells.nil _)))
   clear pc7
   refine Y.region F [some (.slice (some pd6) n c), some (Vi i), some (.pointer (some (pd6.add i))), some (Vi (xs[i]?.getD 0)), some (.slice (some pd7) m d), some (Vi i), some (.pointer (some (pd7.add i))), some (Vi (ys[i]?.getD 0)), some (.bool ((xs[i]?.getD 0 : Int) != (ys[i]?.getD 0)))] [] rfl ⟨by kernel_rfl, of_decide_eq_true (by kernel_rfl), by kernel_rfl, by kernel_rfl, by kernel_rfl⟩ ⟨?_, ?_, ?_, ?_, ?_, ?_, ?_, ?_, ?_, trivial⟩ ?_
   ·intro ac done u W Sx hR
    exact X.val (X.w0 rfl) rfl (X.move rfl (Sx.ev 0 (.slice (some pd6) n c))) (hR.step (Gr.refl _) rfl)
   ·intro ac done u W Sx hR
    exact X.val (X.w0 rfl) rfl (X.move rfl (Sx.ev 5 (Vi i))) (hR.step (Gr.refl _) rfl)
   ·intro ac done u W Sx hR
    exact X.val (X.w0 rfl) rfl (X.index rfl (Sx.ev 17 (.slice (some pd6) n c)) (Sx.ev 18 (Vi i)) (X.idx (k := i) Try.underlying34 (Try.siz3 _) (by omega) (by omega) (by rw [Nat.mul_one]))) (hR.step (Gr.refl _) rfl)
   ·intro ac done u W Sx hR
    have g : Gr w4 W := hR.1
    exact X.val (X.w0 rfl) rfl (X.load rfl (Sx.ev 19 (.pointer (some (pd6.add i)))) (X.ld1 (Try.agg3 _) ((hC.gr g).at 0 rfl))) (hR.step (Gr.refl _) rfl)
   ·intro ac done u W Sx hR
    exact X.val (X.w0 rfl) rfl (X.move rfl (Sx.ev 1 (.slice (some pd7) m d))) (hR.step (Gr.refl _) rfl)
   ·intro ac done u W Sx hR
    exact X.val (X.w0 rfl) rfl (X.move rfl (Sx.ev 5 (Vi i))) (hR.step (Gr.refl _) rfl)
   ·intro ac done u W Sx hR
    exact X.val (X.w0 rfl) rfl (X.index rfl (Sx.ev 21 (.slice (some pd7) m d)) (Sx.ev 22 (Vi i)) (X.idx (k := i) Try.underlying34 (Try.siz3 _) (by omega) (by omega) (by rw [Nat.mul_one]))) (hR.step (Gr.refl _) rfl)
   ·intro ac done u W Sx hR
    have g : Gr w4 W := hR.1
    exact X.val (X.w0 rfl) rfl (X.load rfl (Sx.ev 23 (.pointer (some (pd7.add i)))) (X.ld1 (Try.agg3 _) ((hC.gr g).at 1 rfl))) (hR.step (Gr.refl _) rfl)
   ·intro ac done u W Sx hR
    exact X.val (X.w0 rfl) rfl (X.binop rfl (Sx.ev 20 (Vi (xs[i]?.getD 0))) (Sx.ev 24 (Vi (ys[i]?.getD 0))) (X.neqI Try.underlying3 rfl)) (hR.step (Gr.refl _) rfl)
   intro ac u w8 hs hd hl ho hR
   have g : Gr w4 w8 := hR.1
   replace F : Fr ac 26 [(0, .slice (some pd6) n c), (1, .slice (some pd7) m d), (5, Vi i), (10, .bool false), (14, .bool true), (25, .bool ((xs[i]?.getD 0 : Int) != (ys[i]?.getD 0)))] := X.fr hs hd hl _ (by kernel_rfl)
   clear hs hd hl ho hR
   replace G := G.trans g
   replace hC := hC.gr g
   replace GB_ := GB_.trans g
   replace hx := hx.gr g
   replace hy := hy.gr g
   clear g
   refine X.thenN ?_
   cases h9 : ((xs[i]?.getD 0 : Int) != (ys[i]?.getD 0)) with
   | false =>
    try rw [h9] at F
    have h9p : (xs[i]?.getD 0 : Int) = (ys[i]?.getD 0) := by simpa using h9
    refine Y.condF (F.e 25 rfl) ?_
    refine Y.skip ?_
    refine X.blockN ?_
    refine X.thenN ?_
    refine Y.lit (by kernel_rfl) ?_
    refine Y.pval F (X.w0 rfl) rfl (X.move rfl (F.e 5 rfl)) ?_
    clear F ac
    intro ac F
    refine Y.pval F (X.w0 rfl) rfl (X.binop rfl (F.e 15 rfl) (X.kc (Vi 1) rfl) (X.addI Try.underlying3 rfl (by omega) (by omega))) ?_
    clear F ac
    intro ac F
    refine Y.pval F (X.w0 rfl) rfl (X.assign rfl (F.e 16 rfl)) ?_
    clear F ac
    intro ac F
    refine Y.nil ?_
    replace F : Fr ac 26 [(0, .slice (some pd6) n c), (1, .slice (some pd7) m d), (5, Vi ((i : Int) + 1)), (10, .bool false), (14, .bool true), (25, .bool false)] := F.sub _
    refine X.thenN ?_
    refine ⟨_, ?_, i + 1, rfl, GB_, by omega, fun j hj => if e : j = i then by rw [e]; exact h9p else hsame j (by omega), F.sub _⟩
    omega
   | true =>
    try rw [h9] at F
    have h9p : ¬ (xs[i]?.getD 0 : Int) = (ys[i]?.getD 0) := by simpa using h9
    refine Y.condT (F.e 25 rfl) ?_
    refine Y.seq ?_
    refine Y.lit (by kernel_rfl) ?_
    refine Y.pval F (X.w0 rfl) rfl (X.assign rfl (X.kc (.bool false) rfl)) ?_
    clear F ac
    intro ac F
    refine Y.nil ?_
    replace F : Fr ac 26 [(0, .slice (some pd6) n c), (1, .slice (some pd7) m d), (4, .bool false), (5, Vi i), (10, .bool false), (14, .bool true), (25, .bool true)] := F.sub _
    refine X.thenN ?_
    refine Y.ret ?_
    refine X.blockR ?_
    refine X.thenR ?_
    refine X.thenR ?_
    refine X.blockR ?_
    refine X.thenR ?_
    exact Y.ret0 (v := .bool false) F (Y.rs1 F rfl (by kernel_rfl)) ⟨by rw [same_no (by omega) hl2 h9p], G⟩
 | true =>
  try rw [h3] at F
  have h3p : ¬ (n : Int) = m := by simpa using h3
  refine Y.condT (F.e 10 rfl) ?_
  refine Y.seq ?_
  refine Y.lit (by kernel_rfl) ?_
  refine Y.pval F (X.w0 rfl) rfl (X.assign rfl (X.kc (.bool false) rfl)) ?_
  clear F ac
  intro ac F
  refine Y.nil ?_
  replace F : Fr ac 26 [(0, .slice a n c), (1, .slice b m d), (4, .bool false), (10, .bool true)] := F.sub _
  refine X.thenN ?_
  refine Y.ret ?_
  refine X.thenR ?_
  exact Y.ret0 (v := .bool false) F (Y.rs1 F rfl (by kernel_rfl)) ⟨by rw [show decide (xs = ys) = false by simp only [decide_eq_false_iff_not]; intro e; subst e; omega], G⟩
end
section
open Go.RowKit

theorem st_only {S : Nat → Prop} {w w' : World} {k : Nat} {a : Option Addr} {n : Nat} {L : List (List Int)} (h : StAt w k a n L) (g : Only S w w') (hn : ∀ ad, a = some ad → ¬ S ad.block) : StAt w' k a n L :=
  ⟨h.1, h.2.1, fun j hj => by
    obtain ⟨ad, e, hb, hl, hc⟩ := h.2.2 j hj
    exact ⟨ad, e, Nat.lt_of_lt_of_le hb g.size, hl, fun r hr => g.cell (hc r hr) (by rw [add_block, add_block]; exact hn ad e)⟩⟩
set_option maxRecDepth 100000 in
set_option maxHeartbeats 400000 in
theorem example_any (w : World) :
  Calls Try.prog 43 #[] w fun e w' => ∃ a, e = .returned (.agg #[Vi 2, Vi 3, .slice a 3 3]) ∧ StAt w' 5 a 3 exN ∧ Gr w w' := by
 have G := Gr.refl w
 refine Y.calls 6 Try.func43 rfl rfl ?_
 intro ac F0
 have F : Fr ac 6 [] := F0.sub _
 clear F0
 refine Y.seq ?_
 refine Y.lit (by kernel_rfl) ?_
 refine Y.pval F (X.w0 rfl) rfl (Y.al rfl (Try.new24 _)) ?_
 clear F ac
 intro ac F
 have g := Gr.alloc w (.cells #[Vi 0, Vi 0, .slice none 0 0] 24)
 have hb := heap_alloc_new w (.cells #[Vi 0, Vi 0, .slice none 0 0] 24)
 have hbl : w.heap.size < (w.alloc (.cells #[Vi 0, Vi 0, .slice none 0 0] 24)).heap.size := by simp
 generalize w.alloc (.cells #[Vi 0, Vi 0, .slice none 0 0] 24) = w3 at *
 replace G := G.trans g
 have hV := ownP_box (vs := [Vi 0, Vi 0, .slice none 0 0]) hb
 clear g hb hbl
 have hVl : w.heap.size < w3.heap.size := hV.lt
 refine Y.nil ?_
 replace F : Fr ac 6 [(0, Vp w.heap.size)] := F.sub _
 refine X.thenN ?_
 refine Y.seq ?_
 refine Y.lit (by kernel_rfl) ?_
 refine Y.pval F (X.w0 rfl) rfl (Y.bd rfl rfl (Try.exb1 _)) ?_
 clear F ac
 intro ac F
 refine Y.pval F (X.w0 rfl) rfl (Y.bd rfl rfl (Try.exb2 _)) ?_
 clear F ac
 intro ac F
 refine Y.pval F (X.w0 rfl) rfl (Y.bd rfl rfl (Try.exb3 _)) ?_
 clear F ac
 intro ac F
 refine Y.pval F (X.w0 rfl) rfl (X.bs rfl (Y.b3 (F.ev 1 (.agg #[Vi 1, Vi 10, Vi 1, Vi 1, Vi 5])) (F.ev 2 (.agg #[Vi 3, Vi 20, Vi 2, Vi 2, Vi 10])) (F.ev 3 (.agg #[Vi 2, Vi 30, Vi 0, Vi 0, Vi 1]))) (Try.exs _)) ?_
 clear F ac
 intro ac F
 have g := Gr.alloc w3 (.cells #[Vi 1, Vi 10, Vi 1, Vi 1, Vi 5, Vi 3, Vi 20, Vi 2, Vi 2, Vi 10, Vi 2, Vi 30, Vi 0, Vi 0, Vi 1] 31)
 have hb := heap_alloc_new w3 (.cells #[Vi 1, Vi 10, Vi 1, Vi 1, Vi 5, Vi 3, Vi 20, Vi 2, Vi 2, Vi 10, Vi 2, Vi 30, Vi 0, Vi 0, Vi 1] 31)
 have hbl : w3.heap.size < (w3.alloc (.cells #[Vi 1, Vi 10, Vi 1, Vi 1, Vi 5, Vi 3, Vi 20, Vi 2, Vi 2, Vi 10, Vi 2, Vi 30, Vi 0, Vi 0, Vi 1] 31)).heap.size := by simp
 generalize w3.alloc (.cells #[Vi 1, Vi 10, Vi 1, Vi 1, Vi 5, Vi 3, Vi 20, Vi 2, Vi 2, Vi 10, Vi 2, Vi 30, Vi 0, Vi 0, Vi 1] 31) = w4 at *
 replace G := G.trans g
 replace hV := hV.gr g
 have hexN := exN_at hb
 clear g hb hbl
 refine Y.pval F (X.w0 rfl) rfl (Y.bd rfl (Y.b3 (X.kc (Vi 2) rfl) (X.kc (Vi 3) rfl) (F.ev 4 (.slice (some ⟨w3.heap.size, 0, none⟩) 3 3))) (Try.exc _ _ _ _ _ _)) ?_
 clear F ac
 intro ac F
 obtain ⟨w5, hrun, hS2, hon⟩ := hV.stL (P := Try.prog) (t := 24) [Vi 2, Vi 3, .slice (some ⟨w3.heap.size, 0, none⟩) 3 3] rfl (fun W => Try.siz24 W) rfl
 refine Y.punit F (X.w0 rfl) rfl (X.store rfl (F.ev 0 (Vp w.heap.size)) (F.ev 5 (.agg #[Vi 2, Vi 3, .slice (some ⟨w3.heap.size, 0, none⟩) 3 3])) hrun) ?_
 clear F ac hrun
 intro ac F
 have hexN : StAt w5 5 (some ⟨w3.heap.size, 0, none⟩) 3 exN := st_only hexN hon (fun ad e h => by cases e; exact absurd h (by show ¬ w3.heap.size = w.heap.size; have := hVl; omega))
 replace G := Y.Only.up G hon (Nat.le_refl _)
 replace hV := hS2
 refine Y.nil ?_
 replace F : Fr ac 6 [(0, Vp w.heap.size)] := F.sub _
 refine X.thenN ?_
 refine Y.ret ?_
 exact Y.ret0 (v := .agg #[Vi 2, Vi 3, .slice (some ⟨w3.heap.size, 0, none⟩) 3 3]) F (Y.rc13 F rfl (Try.agg24 _) (Try.siz24 _) (by kernel_rfl) hV) ⟨_, rfl, hexN, G⟩
set_option maxRecDepth 100000 in
set_option maxHeartbeats 1000000 in
theorem works_any (w : World) :
  Calls Try.prog 16 #[] w fun e w' => e = .returned (.bool true) ∧ Gr w w' := by
 have G := Gr.refl w
 refine Y.calls 40 Try.func16 rfl rfl ?_
 intro ac F0
 have F : Fr ac 40 [] := F0.sub _
 clear F0
 refine Y.seq ?_
 refine Y.lit (by kernel_rfl) ?_
 refine Y.pval F (X.w0 rfl) rfl (X.assign rfl (X.kc (.bool false) rfl)) ?_
 clear F ac
 intro ac F
 refine Y.nil ?_
 replace F : Fr ac 40 [(0, .bool false)] := F.sub _
 refine X.thenN ?_
 refine Y.seq ?_
 refine Y.lit (by kernel_rfl) ?_
 refine Y.pcall F (X.w0 rfl) rfl (X.enter (F := 43) rfl (X.kc (.func (.func 43) #[] #[]) rfl) rfl (enters_of Try.func43 (by kernel_rfl) rfl _)) (example_any w) ?_
 clear F ac
 rintro e w4 ⟨ea3, rfl, hN3, g⟩
 refine ⟨_, rfl, ?_⟩
 intro ac F
 replace G := G.trans g
 clear g
 refine Y.pval F (X.w0 rfl) rfl (Y.bd rfl rfl (Try.exn1 _)) ?_
 clear F ac
 intro ac F
 refine Y.pval F (X.w0 rfl) rfl (Y.bd rfl rfl (Try.exn2 _)) ?_
 clear F ac
 intro ac F
 refine Y.pval F (X.w0 rfl) rfl (X.bs rfl (X.b2 (F.ev 8 (.agg #[Vi 1, Vi 1, Vi 1, Vi 0])) (F.ev 9 (.agg #[Vi 2, Vi 2, Vi 1, Vi 0]))) (Try.exm _)) ?_
 clear F ac
 intro ac F
 have g := Gr.alloc w4 (.cells #[Vi 1, Vi 1, Vi 1, Vi 0, Vi 2, Vi 2, Vi 1, Vi 0] 33)
 have hb := heap_alloc_new w4 (.cells #[Vi 1, Vi 1, Vi 1, Vi 0, Vi 2, Vi 2, Vi 1, Vi 0] 33)
 have hbl : w4.heap.size < (w4.alloc (.cells #[Vi 1, Vi 1, Vi 1, Vi 0, Vi 2, Vi 2, Vi 1, Vi 0] 33)).heap.size := by simp
 generalize w4.alloc (.cells #[Vi 1, Vi 1, Vi 1, Vi 0, Vi 2, Vi 2, Vi 1, Vi 0] 33) = w5 at *
 replace G := G.trans g
 replace hN3 := hN3.gr g
 have hexL := exL_at hb
 clear g hb hbl
 refine Y.pcall F (X.w0 rfl) rfl (X.enter (F := 18) rfl (X.kc (.func (.func 18) #[] #[]) rfl) (X.a3 (F.ev 7 (.agg #[Vi 2, Vi 3, .slice ea3 3 3])) (X.kc (Vi 6) rfl) (F.ev 10 (.slice (some ⟨w4.heap.size, 0, none⟩) 2 2))) (enters_of Try.func18 (by kernel_rfl) rfl _)) (play_any ea3 (some ⟨w4.heap.size, 0, none⟩) 3 3 2 2 2 3 6 exN exL w5 hN3 hexL) ?_
 clear F ac
 rintro e w7 ⟨ra, rn, rc, za, zn, zc, rfl, hIr, hIe, g⟩
 rw [ex_pr] at hIr
 rw [ex_en] at hIe
 obtain rfl : 6 = rn := hIr.len
 obtain rfl : 3 = zn := hIe.len
 refine ⟨_, rfl, ?_⟩
 rw [ex_e]
 intro ac F
 replace G := G.trans g
 replace hN3 := hN3.gr g
 replace hexL := hexL.gr g
 clear g
 refine Y.pval F (X.w0 rfl) rfl (X.move rfl (F.ev 11 (.tuple #[.slice ra 6 rc, .slice za 3 zc, Vi 0]))) ?_
 clear F ac
 intro ac F
 refine Y.pval F (X.w0 rfl) rfl (X.extract rfl (F.ev 6 (.tuple #[.slice ra 6 rc, .slice za 3 zc, Vi 0])) rfl) ?_
 clear F ac
 intro ac F
 refine Y.pval F (X.w0 rfl) rfl (X.extract rfl (F.ev 6 (.tuple #[.slice ra 6 rc, .slice za 3 zc, Vi 0])) rfl) ?_
 clear F ac
 intro ac F
 refine Y.pval F (X.w0 rfl) rfl (X.extract rfl (F.ev 6 (.tuple #[.slice ra 6 rc, .slice za 3 zc, Vi 0])) rfl) ?_
 clear F ac
 intro ac F
 refine Y.pval F (X.w0 rfl) rfl (X.assign rfl (F.ev 12 (.slice ra 6 rc))) ?_
 clear F ac
 intro ac F
 refine Y.pval F (X.w0 rfl) rfl (X.assign rfl (F.ev 13 (.slice za 3 zc))) ?_
 clear F ac
 intro ac F
 refine Y.pval F (X.w0 rfl) rfl (X.assign rfl (F.ev 14 (Vi 0))) ?_
 clear F ac
 intro ac F
 refine Y.nil ?_
 replace F : Fr ac 40 [(0, .bool false), (1, .slice ra 6 rc), (2, .slice za 3 zc), (3, Vi 0)] := F.sub _
 refine X.thenN ?_
 refine Y.seq ?_
 refine Y.lit (by kernel_rfl) ?_
 refine Y.pcall F (X.w0 rfl) rfl (X.enter (F := 43) rfl (X.kc (.func (.func 43) #[] #[]) rfl) rfl (enters_of Try.func43 (by kernel_rfl) rfl _)) (example_any w7) ?_
 clear F ac
 rintro e w9 ⟨ea8, rfl, hN8, g⟩
 refine ⟨_, rfl, ?_⟩
 intro ac F
 replace G := G.trans g
 replace hN3 := hN3.gr g
 replace hexL := hexL.gr g
 replace hIr := hIr.gr g
 replace hIe := hIe.gr g
 clear g
 refine Y.pcall F (X.w0 rfl) rfl (X.enter (F := 21) rfl (X.kc (.func (.func 21) #[] #[]) rfl) (X.a2 (F.ev 16 (.agg #[Vi 2, Vi 3, .slice ea8 3 3])) (X.kc (Vi 8) rfl)) (enters_of Try.func21 (by kernel_rfl) rfl _)) (by have h := parked_any ea8 3 3 2 3 8 exN w9 hN8; rw [ex_p, ex_t] at h; exact h) ?_
 clear F ac
 rintro e w11 ⟨rfl, g⟩
 refine ⟨_, rfl, ?_⟩
 intro ac F
 replace G := G.trans g
 replace hN3 := hN3.gr g
 replace hexL := hexL.gr g
 replace hIr := hIr.gr g
 replace hIe := hIe.gr g
 replace hN8 := hN8.gr g
 clear g
 refine Y.pval F (X.w0 rfl) rfl (X.move rfl (F.ev 17 (.tuple #[Vi 186, Vi 0]))) ?_
 clear F ac
 intro ac F
 refine Y.pval F (X.w0 rfl) rfl (X.extract rfl (F.ev 15 (.tuple #[Vi 186, Vi 0])) rfl) ?_
 clear F ac
 intro ac F
 refine Y.pval F (X.w0 rfl) rfl (X.extract rfl (F.ev 15 (.tuple #[Vi 186, Vi 0])) rfl) ?_
 clear F ac
 intro ac F
 refine Y.pval F (X.w0 rfl) rfl (X.assign rfl (F.ev 18 (Vi 186))) ?_
 clear F ac
 intro ac F
 refine Y.pval F (X.w0 rfl) rfl (X.assign rfl (F.ev 19 (Vi 0))) ?_
 clear F ac
 intro ac F
 refine Y.nil ?_
 replace F : Fr ac 40 [(0, .bool false), (1, .slice ra 6 rc), (2, .slice za 3 zc), (3, Vi 0), (4, Vi 186), (5, Vi 0)] := F.sub _
 refine X.thenN ?_
 refine Y.seq ?_
 refine Y.lit (by kernel_rfl) ?_
 refine Y.pval F (X.w0 rfl) rfl (X.move rfl (F.ev 3 (Vi 0))) ?_
 clear F ac
 intro ac F
 refine Y.pval F (X.w0 rfl) rfl (X.binop rfl (F.ev 20 (Vi 0)) (X.kc (Vi 0) rfl) (X.eqlI Try.underlying26 (show ((0 : Int) == 0) = true by simp))) ?_
 clear F ac
 intro ac F
 refine Y.pval F (X.w0 rfl) rfl (X.move rfl (F.ev 21 (.bool true))) ?_
 clear F ac
 intro ac F
 refine Y.pval F (X.w1 rfl (F.yl (j := 2) (d := 22) (b := true) rfl (by kernel_rfl))) rfl (X.move rfl (F.ev 5 (Vi 0))) ?_
 clear F ac
 intro ac F
 refine Y.pval F (X.w1 rfl (F.yl (j := 2) (d := 22) (b := true) rfl (by kernel_rfl))) rfl (X.binop rfl (F.ev 23 (Vi 0)) (X.kc (Vi 0) rfl) (X.eqlI Try.underlying26 (show ((0 : Int) == 0) = true by simp))) ?_
 clear F ac
 intro ac F
 refine Y.pval F (X.w0 rfl) rfl (X.pickT rfl (F.ev 22 (.bool true)) (F.ev 24 (.bool true))) ?_
 clear F ac
 intro ac F
 refine Y.pval F (X.w0 rfl) rfl (X.move rfl (F.ev 25 (.bool true))) ?_
 clear F ac
 intro ac F
 refine Y.pval F (X.w1 rfl (F.yl (j := 6) (d := 26) (b := true) rfl (by kernel_rfl))) rfl (X.move rfl (F.ev 1 (.slice ra 6 rc))) ?_
 clear F ac
 intro ac F
 refine Y.pval F (X.w1 rfl (F.yl (j := 6) (d := 26) (b := true) rfl (by kernel_rfl))) rfl (X.bs rfl rfl (Try.exr _)) ?_
 clear F ac
 intro ac F
 have g := Gr.alloc w11 (.cells #[Vi 0, Vi 3, Vi 3, Vi 3, Vi 0, Vi 0] 3)
 have hb := heap_alloc_new w11 (.cells #[Vi 0, Vi 3, Vi 3, Vi 3, Vi 0, Vi 0] 3)
 have hbl : w11.heap.size < (w11.alloc (.cells #[Vi 0, Vi 3, Vi 3, Vi 3, Vi 0, Vi 0] 3)).heap.size := by simp
 generalize w11.alloc (.cells #[Vi 0, Vi 3, Vi 3, Vi 3, Vi 0, Vi 0] 3) = w12 at *
 replace G := G.trans g
 replace hN3 := hN3.gr g
 replace hexL := hexL.gr g
 replace hIr := hIr.gr g
 replace hIe := hIe.gr g
 replace hN8 := hN8.gr g
 have hxr := exr_at hb
 clear g hb hbl
 refine Y.pcall F (X.w1 rfl (F.yl (j := 6) (d := 26) (b := true) rfl (by kernel_rfl))) rfl (X.enter (F := 27) rfl (X.kc (.func (.func 27) #[] #[]) rfl) (X.a2 (F.ev 27 (.slice ra 6 rc)) (F.ev 28 (.slice (some ⟨w11.heap.size, 0, none⟩) 6 6))) (enters_of Try.func27 (by kernel_rfl) rfl _)) (by have hq := same_any ra (some ⟨w11.heap.size, 0, none⟩) 6 rc 6 6 ([0, 3, 3, 3, 0, 0]) ([0, 3, 3, 3, 0, 0]) w12 hIr hxr; rw [decide_eq_true rfl] at hq; exact hq) ?_
 clear F ac
 rintro e w14 ⟨rfl, g⟩
 refine ⟨_, rfl, ?_⟩
 intro ac F
 replace G := G.trans g
 replace hN3 := hN3.gr g
 replace hexL := hexL.gr g
 replace hIr := hIr.gr g
 replace hIe := hIe.gr g
 replace hN8 := hN8.gr g
 replace hxr := hxr.gr g
 clear g
 refine Y.pval F (X.w0 rfl) rfl (X.pickT rfl (F.ev 26 (.bool true)) (F.ev 29 (.bool true))) ?_
 clear F ac
 intro ac F
 refine Y.pval F (X.w0 rfl) rfl (X.move rfl (F.ev 30 (.bool true))) ?_
 clear F ac
 intro ac F
 refine Y.pval F (X.w1 rfl (F.yl (j := 11) (d := 31) (b := true) rfl (by kernel_rfl))) rfl (X.move rfl (F.ev 2 (.slice za 3 zc))) ?_
 clear F ac
 intro ac F
 refine Y.pval F (X.w1 rfl (F.yl (j := 11) (d := 31) (b := true) rfl (by kernel_rfl))) rfl (X.bs rfl rfl (Try.exq _)) ?_
 clear F ac
 intro ac F
 have g := Gr.alloc w14 (.cells #[Vi 33, Vi 66, Vi 0] 3)
 have hb := heap_alloc_new w14 (.cells #[Vi 33, Vi 66, Vi 0] 3)
 have hbl : w14.heap.size < (w14.alloc (.cells #[Vi 33, Vi 66, Vi 0] 3)).heap.size := by simp
 generalize w14.alloc (.cells #[Vi 33, Vi 66, Vi 0] 3) = w15 at *
 replace G := G.trans g
 replace hN3 := hN3.gr g
 replace hexL := hexL.gr g
 replace hIr := hIr.gr g
 replace hIe := hIe.gr g
 replace hN8 := hN8.gr g
 replace hxr := hxr.gr g
 have hxq := exq_at hb
 clear g hb hbl
 refine Y.pcall F (X.w1 rfl (F.yl (j := 11) (d := 31) (b := true) rfl (by kernel_rfl))) rfl (X.enter (F := 27) rfl (X.kc (.func (.func 27) #[] #[]) rfl) (X.a2 (F.ev 32 (.slice za 3 zc)) (F.ev 33 (.slice (some ⟨w14.heap.size, 0, none⟩) 3 3))) (enters_of Try.func27 (by kernel_rfl) rfl _)) (by have hq := same_any za (some ⟨w14.heap.size, 0, none⟩) 3 zc 3 3 ([33, 66, 0]) ([33, 66, 0]) w15 hIe hxq; rw [decide_eq_true rfl] at hq; exact hq) ?_
 clear F ac
 rintro e w17 ⟨rfl, g⟩
 refine ⟨_, rfl, ?_⟩
 intro ac F
 replace G := G.trans g
 replace hN3 := hN3.gr g
 replace hexL := hexL.gr g
 replace hIr := hIr.gr g
 replace hIe := hIe.gr g
 replace hN8 := hN8.gr g
 replace hxr := hxr.gr g
 replace hxq := hxq.gr g
 clear g
 refine Y.pval F (X.w0 rfl) rfl (X.pickT rfl (F.ev 31 (.bool true)) (F.ev 34 (.bool true))) ?_
 clear F ac
 intro ac F
 refine Y.pval F (X.w0 rfl) rfl (X.move rfl (F.ev 35 (.bool true))) ?_
 clear F ac
 intro ac F
 refine Y.pval F (X.w1 rfl (F.yl (j := 16) (d := 36) (b := true) rfl (by kernel_rfl))) rfl (X.move rfl (F.ev 4 (Vi 186))) ?_
 clear F ac
 intro ac F
 refine Y.pval F (X.w1 rfl (F.yl (j := 16) (d := 36) (b := true) rfl (by kernel_rfl))) rfl (X.binop rfl (F.ev 37 (Vi 186)) (X.kc (Vi 186) rfl) (X.eqlI Try.underlying3 (show ((186 : Int) == 186) = true by simp))) ?_
 clear F ac
 intro ac F
 refine Y.pval F (X.w0 rfl) rfl (X.pickT rfl (F.ev 36 (.bool true)) (F.ev 38 (.bool true))) ?_
 clear F ac
 intro ac F
 refine Y.pval F (X.w0 rfl) rfl (X.assign rfl (F.ev 39 (.bool true))) ?_
 clear F ac
 intro ac F
 refine Y.nil ?_
 replace F : Fr ac 40 [(0, .bool true), (1, .slice ra 6 rc), (2, .slice za 3 zc), (3, Vi 0), (4, Vi 186), (5, Vi 0)] := F.sub _
 refine X.thenN ?_
 refine Y.ret ?_
 exact Y.ret0 (v := .bool true) F (Y.rs1 F rfl (by kernel_rfl)) ⟨rfl, G⟩
end
section
open Go.RowKit

theorem and1 (x : Int) : andV x 1 = 0 ∨ andV x 1 = 1 := by
  unfold andV
  have h : (BitVec.ofInt 64 x &&& BitVec.ofInt 64 1).toNat = 0 ∨ (BitVec.ofInt 64 x &&& BitVec.ofInt 64 1).toNat = 1 := by
    rw [BitVec.toNat_and, show (BitVec.ofInt 64 1).toNat = 1 from rfl, Nat.and_one_is_mod]; omega
  rcases h with h | h <;> rw [h]
  · exact .inl rfl
  · exact .inr rfl
theorem fail_words (nd : List (List Int)) (asked rows : List Int) (k i : Nat) : failP nd asked rows k i = fail2P nd asked rows k i := by
  unfold failP fail2P bitB
  rw [andV_comm]
  rcases and1 (shrV (rows[k]?.getD 0) i) with h | h <;> rw [h] <;> rfl
theorem failIs_same {p : Nat → Nat → Bool} {T n : Nat} {a b c d : Int} (h : FailIs p T n a b) (k : FailIs p T n c d) : a = c ∧ b = d := by
  rcases h with ⟨rfl, rfl, h⟩ | ⟨k1, i1, rfl, rfl, h1, h2, h3, h4, h5⟩ <;> rcases k with ⟨rfl, rfl, k⟩ | ⟨k2, i2, rfl, rfl, g1, g2, g3, g4, g5⟩
  · exact ⟨rfl, rfl⟩
  · rw [h k2 g1 i2 g2] at g3; cases g3
  · rw [k k1 h1 i1 h2] at h3; cases h3
  · have e : k1 = k2 := by
      rcases Nat.lt_trichotomy k1 k2 with e | e | e
      · rw [g5 k1 e i1 h2] at h3; cases h3
      · exact e
      · rw [h5 k2 e i2 g2] at g3; cases g3
    subst e
    have e2 : i1 = i2 := by
      rcases Nat.lt_trichotomy i1 i2 with e | e | e
      · rw [g4 i1 e] at h3; cases h3
      · exact e
      · rw [h4 i2 e] at g3; cases g3
    exact ⟨rfl, by rw [e2]⟩
theorem fail_same {E : Int} {nd : List (List Int)} {asked rows : List Int} {T n : Nat} {a b c d : Int} (h1 : ¬ E = 0 → a = 0 ∧ b = 0) (h2 : E = 0 → FailIs (failP nd asked rows) T n a b) (k1 : ¬ E = 0 → c = 0 ∧ d = 0) (k2 : E = 0 → FailIs (fail2P nd asked rows) T n c d) : a = c ∧ b = d := by
  by_cases e : E = 0
  · have h := h2 e
    rw [show failP nd asked rows = fail2P nd asked rows from funext fun k => funext fun i => fail_words nd asked rows k i] at h
    exact failIs_same h (k2 e)
  · obtain ⟨rfl, rfl⟩ := h1 e
    obtain ⟨rfl, rfl⟩ := k1 e
    exact ⟨rfl, rfl⟩
set_option maxRecDepth 100000 in
set_option maxHeartbeats 1000000 in
theorem plays_any (na la : Option Addr) (n nc m lc : Nat) (gr hold t : Int) (nd l : List (List Int)) (w : World) (hnd : StAt w 5 na n nd) (hl : StAt w 4 la m l) :
  Calls Try.prog 7 #[.agg #[Vi gr, Vi hold, .slice na n nc], Vi t, .slice la m lc] w fun e w' => e = .returned (.bool true) ∧ Gr w w' := by
 have G := Gr.refl w
 have hlen := hnd.len
 have hlt := hnd.lt
 refine Y.calls 117 Try.func7 rfl rfl ?_
 intro ac F0
 have F : Fr ac 117 [(0, .agg #[Vi gr, Vi hold, .slice na n nc]), (1, Vi t), (2, .slice la m lc)] := F0.sub _
 clear F0
 refine Y.seq ?_
 refine Y.lit (by kernel_rfl) ?_
 refine Y.pv F (X.box rfl (F.e 0 rfl) X.bx) ?_;clear F ac;intro ac F
 have g := Gr.alloc w (.cells #[Vi gr, Vi hold, .slice na n nc] 24)
 have hb := heap_alloc_new w (.cells #[Vi gr, Vi hold, .slice na n nc] 24)
 have hbl : w.heap.size < (w.alloc (.cells #[Vi gr, Vi hold, .slice na n nc] 24)).heap.size := by simp
 have hC2 : RCells (w.alloc (.cells #[Vi gr, Vi hold, .slice na n nc] 24)) [(Ad w.heap.size 0, Vi gr), (Ad w.heap.size 1, Vi hold), (Ad w.heap.size 2, .slice na n nc)] := (RCells.nil w).box (b := w.heap.size) #[Vi gr, Vi hold, .slice na n nc] 24 rfl
 generalize w.alloc (.cells #[Vi gr, Vi hold, .slice na n nc] 24) = w3 at *
 replace G := G.trans g
 have hC := hC2
 clear hC2
 replace hnd := hnd.gr g
 replace hl := hl.gr g
 clear g hb hbl
 refine Y.pv F (X.assign rfl (X.kc (.bool false) rfl)) ?_;clear F ac;intro ac F
 refine Y.nil ?_
 replace F : Fr ac 117 [(1, Vi t), (2, .slice la m lc), (3, Vp w.heap.size)] := F.sub _
 refine X.thenN ?_
 refine Y.seq ?_
 refine Y.seq ?_
 refine Y.lit (by kernel_rfl) ?_
 refine Y.pv F (X.move rfl (F.e 1 rfl)) ?_;clear F ac;intro ac F
 refine Y.pv F (X.binop rfl (F.e 19 rfl) (X.kc (Vi 100) rfl) (X.gtrI Try.underlying3 rfl)) ?_;clear F ac;intro ac F
 refine Y.pv F (X.move rfl (F.e 20 rfl)) ?_;clear F ac;intro ac F
 cases h4 : decide ((100 : Int) < t) with
 | false =>
  try rw [h4] at F
  have h4p : ¬ ((100 : Int) < t) := of_decide_eq_false h4
  refine Y.pskip F (X.w2 rfl (F.yl (j := 2) (d := 21) (b := false) rfl (by kernel_rfl)) rfl) rfl ?_;clear F ac;intro ac F
  refine Y.pskip F (X.w2 rfl (F.yl (j := 2) (d := 21) (b := false) rfl (by kernel_rfl)) rfl) rfl ?_;clear F ac;intro ac F
  refine Y.pv F (X.pickF rfl (F.e 21 rfl) (X.kc (.bool false) rfl)) ?_;clear F ac;intro ac F
  refine Y.nil ?_
  replace F : Fr ac 117 [(1, Vi t), (2, .slice la m lc), (3, Vp w.heap.size), (24, .bool false)] := F.sub _
  refine X.thenN ?_
  refine Y.condF (F.e 24 rfl) ?_
  refine Y.skip ?_
  refine X.thenN ?_
  refine Y.seq ?_
  refine Y.seq ?_
  refine Y.region F [some (.agg #[Vi gr, Vi hold, .slice na n nc]), some (Vi (cluE gr hold nd)), some (.agg #[Vi gr, Vi hold, .slice na n nc]), some (Vi (cluE gr hold nd)), some (.bool false)] [] rfl ⟨by kernel_rfl, of_decide_eq_true (by kernel_rfl), by kernel_rfl, by kernel_rfl, by kernel_rfl⟩ ⟨?_, ?_, ?_, ?_, ?_, trivial⟩ ?_
  ·intro ac done u W Sx hR
   have g : Gr w3 W := hR.1
   exact X.vl (X.load rfl (Sx.ev 3 (Vp w.heap.size)) (X.ldN (Try.agg24 _) (Try.siz24 _) (Y.atz (⟨w.heap.size, 0, none⟩) (Y.AtFrom.cons ((hC.gr g).at 0 rfl) (Y.AtFrom.cons ((hC.gr g).at 1 rfl) (Y.AtFrom.cons ((hC.gr g).at 2 rfl) (Y.AtFrom.nil _ _ _))))))) hR.st0
  ·intro ac done u W Sx hR
   have g : Gr w3 W := hR.1
   refine X.call (X.w0 rfl) (X.enter (F := 25) rfl (X.kc (.func (.func 25) #[] #[]) rfl) (X.a1 (Sx.ev 26 (.agg #[Vi gr, Vi hold, .slice na n nc]))) (enters_of Try.func25 (by kernel_rfl) rfl _)) (check_any na n nc gr hold nd W (hnd.gr g)) ?_
   rintro e W2 ⟨rfl, g2⟩
   exact ⟨_, rfl, X.kn rfl, hR.step g2 rfl⟩
  ·intro ac done u W Sx hR
   have g : Gr w3 W := hR.1
   exact X.vl (X.load rfl (Sx.ev 3 (Vp w.heap.size)) (X.ldN (Try.agg24 _) (Try.siz24 _) (Y.atz (⟨w.heap.size, 0, none⟩) (Y.AtFrom.cons ((hC.gr g).at 0 rfl) (Y.AtFrom.cons ((hC.gr g).at 1 rfl) (Y.AtFrom.cons ((hC.gr g).at 2 rfl) (Y.AtFrom.nil _ _ _))))))) hR.st0
  ·intro ac done u W Sx hR
   have g : Gr w3 W := hR.1
   refine X.call (X.w0 rfl) (X.enter (F := 15) rfl (X.kc (.func (.func 15) #[] #[]) rfl) (X.a1 (Sx.ev 28 (.agg #[Vi gr, Vi hold, .slice na n nc]))) (enters_of Try.func15 (by kernel_rfl) rfl _)) (check2_any na n nc gr hold nd W (hnd.gr g)) ?_
   rintro e W2 ⟨rfl, g2⟩
   exact ⟨_, rfl, X.kn rfl, hR.step g2 rfl⟩
  ·intro ac done u W Sx hR
   exact X.vl (X.binop rfl (Sx.ev 27 (Vi (cluE gr hold nd))) (Sx.ev 29 (Vi (cluE gr hold nd))) (X.neqI Try.underlying26 (show ((cluE gr hold nd : Int) != (cluE gr hold nd)) = false by simp))) hR.st0
  intro ac u w5 hs hd hl ho hR
  have g : Gr w3 w5 := hR.1
  replace F : Fr ac 117 [(1, Vi t), (2, .slice la m lc), (3, Vp w.heap.size), (30, .bool false)] := X.fr hs hd hl _ (by kernel_rfl)
  clear hs hd hl ho hR
  replace G := G.trans g
  replace hC := hC.gr g
  replace hnd := hnd.gr g
  replace hl := hl.gr g
  clear g
  refine X.thenN ?_
  refine Y.condF (F.e 30 rfl) ?_
  refine Y.skip ?_
  refine X.thenN ?_
  refine Y.seq ?_
  refine Y.lit (by kernel_rfl) ?_
  refine Y.pv F (X.load rfl (F.e 3 rfl) (X.ldN (Try.agg24 _) (Try.siz24 _) (Y.atz (⟨w.heap.size, 0, none⟩) (Y.AtFrom.cons (hC.at 0 rfl) (Y.AtFrom.cons (hC.at 1 rfl) (Y.AtFrom.cons (hC.at 2 rfl) (Y.AtFrom.nil _ _ _))))))) ?_;clear F ac;intro ac F
  refine Y.pv F (X.move rfl (F.e 1 rfl)) ?_;clear F ac;intro ac F
  refine Y.pv F (X.move rfl (F.e 2 rfl)) ?_;clear F ac;intro ac F
  refine Y.pcall F (X.w0 rfl) rfl (X.enter (F := 18) rfl (X.kc (.func (.func 18) #[] #[]) rfl) (X.a3 (F.e 32 rfl) (F.e 33 rfl) (F.e 34 rfl)) (enters_of Try.func18 (by kernel_rfl) rfl _)) (play_any na la n nc m lc gr hold t nd l w5 hnd hl) ?_
  clear F ac
  rintro e w7 ⟨ra6, rn6, rc6, ea6, en6, ec6, rfl, hr6, he6, g⟩
  refine ⟨_, rfl, ?_⟩
  intro ac F
  replace G := G.trans g
  replace hC := hC.gr g
  replace hnd := hnd.gr g
  replace hl := hl.gr g
  clear g
  refine Y.pv F (X.move rfl (F.e 35 rfl)) ?_;clear F ac;intro ac F
  refine Y.pv F (X.extract rfl (F.e 31 rfl) rfl) ?_;clear F ac;intro ac F
  refine Y.pv F (X.extract rfl (F.e 31 rfl) rfl) ?_;clear F ac;intro ac F
  refine Y.pv F (X.extract rfl (F.e 31 rfl) rfl) ?_;clear F ac;intro ac F
  refine Y.pv F (X.assign rfl (F.e 36 rfl)) ?_;clear F ac;intro ac F
  refine Y.pv F (X.assign rfl (F.e 37 rfl)) ?_;clear F ac;intro ac F
  refine Y.pv F (X.assign rfl (F.e 38 rfl)) ?_;clear F ac;intro ac F
  refine Y.nil ?_
  replace F : Fr ac 117 [(1, Vi t), (2, .slice la m lc), (3, Vp w.heap.size), (7, .slice ra6 rn6 rc6), (8, .slice ea6 en6 ec6), (9, Vi (playE gr hold nd t l))] := F.sub _
  refine X.thenN ?_
  refine Y.seq ?_
  refine Y.lit (by kernel_rfl) ?_
  refine Y.pv F (X.load rfl (F.e 3 rfl) (X.ldN (Try.agg24 _) (Try.siz24 _) (Y.atz (⟨w.heap.size, 0, none⟩) (Y.AtFrom.cons (hC.at 0 rfl) (Y.AtFrom.cons (hC.at 1 rfl) (Y.AtFrom.cons (hC.at 2 rfl) (Y.AtFrom.nil _ _ _))))))) ?_;clear F ac;intro ac F
  refine Y.pv F (X.move rfl (F.e 1 rfl)) ?_;clear F ac;intro ac F
  refine Y.pv F (X.move rfl (F.e 2 rfl)) ?_;clear F ac;intro ac F
  refine Y.pcall F (X.w0 rfl) rfl (X.enter (F := 26) rfl (X.kc (.func (.func 26) #[] #[]) rfl) (X.a3 (F.e 40 rfl) (F.e 41 rfl) (F.e 42 rfl)) (enters_of Try.func26 (by kernel_rfl) rfl _)) (playR_any na la n nc m lc gr hold t nd l w7 hnd hl) ?_
  clear F ac
  rintro e w9 ⟨ra8, rn8, rc8, ea8, en8, ec8, rfl, hr8, he8, g⟩
  refine ⟨_, rfl, ?_⟩
  intro ac F
  replace G := G.trans g
  replace hC := hC.gr g
  replace hnd := hnd.gr g
  replace hl := hl.gr g
  replace hr6 := hr6.gr g
  replace he6 := he6.gr g
  clear g
  refine Y.pv F (X.move rfl (F.e 43 rfl)) ?_;clear F ac;intro ac F
  refine Y.pv F (X.extract rfl (F.e 39 rfl) rfl) ?_;clear F ac;intro ac F
  refine Y.pv F (X.extract rfl (F.e 39 rfl) rfl) ?_;clear F ac;intro ac F
  refine Y.pv F (X.extract rfl (F.e 39 rfl) rfl) ?_;clear F ac;intro ac F
  refine Y.pv F (X.assign rfl (F.e 44 rfl)) ?_;clear F ac;intro ac F
  refine Y.pv F (X.assign rfl (F.e 45 rfl)) ?_;clear F ac;intro ac F
  refine Y.pv F (X.assign rfl (F.e 46 rfl)) ?_;clear F ac;intro ac F
  refine Y.nil ?_
  replace F : Fr ac 117 [(1, Vi t), (2, .slice la m lc), (3, Vp w.heap.size), (7, .slice ra6 rn6 rc6), (8, .slice ea6 en6 ec6), (9, Vi (playE gr hold nd t l)), (10, .slice ra8 rn8 rc8), (11, .slice ea8 en8 ec8), (12, Vi (playE gr hold nd t l))] := F.sub _
  refine X.thenN ?_
  refine Y.seq ?_
  refine Y.seq ?_
  refine Y.lit (by kernel_rfl) ?_
  refine Y.pv F (X.move rfl (F.e 9 rfl)) ?_;clear F ac;intro ac F
  refine Y.pv F (X.move rfl (F.e 12 rfl)) ?_;clear F ac;intro ac F
  refine Y.pv F (X.binop rfl (F.e 47 rfl) (F.e 48 rfl) (X.neqI Try.underlying26 (show ((playE gr hold nd t l : Int) != (playE gr hold nd t l)) = false by simp))) ?_;clear F ac;intro ac F
  refine Y.pv F (X.move rfl (F.e 49 rfl)) ?_;clear F ac;intro ac F
  refine Y.pval F (X.w1 rfl (F.yl (j := 3) (d := 50) (b := false) rfl (by kernel_rfl))) rfl (X.move rfl (F.e 7 rfl)) ?_;clear F ac;intro ac F
  refine Y.pval F (X.w1 rfl (F.yl (j := 3) (d := 50) (b := false) rfl (by kernel_rfl))) rfl (X.move rfl (F.e 10 rfl)) ?_;clear F ac;intro ac F
  refine Y.pcall F (X.w1 rfl (F.yl (j := 3) (d := 50) (b := false) rfl (by kernel_rfl))) rfl (X.enter (F := 27) rfl (X.kc (.func (.func 27) #[] #[]) rfl) (X.a2 (F.e 51 rfl) (F.e 52 rfl)) (enters_of Try.func27 (by kernel_rfl) rfl _)) (by have hq := same_any ra6 ra8 rn6 rc6 rn8 rc8 (playRows gr hold nd t l) (playRows gr hold nd t l) w9 hr6 hr8; rw [decide_eq_true rfl] at hq; exact hq) ?_
  clear F ac
  rintro e w11 ⟨rfl, g⟩
  refine ⟨_, rfl, ?_⟩
  intro ac F
  replace G := G.trans g
  replace hC := hC.gr g
  replace hnd := hnd.gr g
  replace hl := hl.gr g
  replace hr6 := hr6.gr g
  replace he6 := he6.gr g
  replace hr8 := hr8.gr g
  replace he8 := he8.gr g
  clear g
  refine Y.pval F (X.w1 rfl (F.yl (j := 3) (d := 50) (b := false) rfl (by kernel_rfl))) rfl (X.notB rfl (F.e 53 rfl) rfl) ?_;clear F ac;intro ac F
  refine Y.pv F (X.pickF rfl (F.e 50 rfl) (F.e 54 rfl)) ?_;clear F ac;intro ac F
  refine Y.pv F (X.move rfl (F.e 55 rfl)) ?_;clear F ac;intro ac F
  refine Y.pval F (X.w1 rfl (F.yl (j := 9) (d := 56) (b := false) rfl (by kernel_rfl))) rfl (X.move rfl (F.e 8 rfl)) ?_;clear F ac;intro ac F
  refine Y.pval F (X.w1 rfl (F.yl (j := 9) (d := 56) (b := false) rfl (by kernel_rfl))) rfl (X.move rfl (F.e 11 rfl)) ?_;clear F ac;intro ac F
  refine Y.pcall F (X.w1 rfl (F.yl (j := 9) (d := 56) (b := false) rfl (by kernel_rfl))) rfl (X.enter (F := 27) rfl (X.kc (.func (.func 27) #[] #[]) rfl) (X.a2 (F.e 57 rfl) (F.e 58 rfl)) (enters_of Try.func27 (by kernel_rfl) rfl _)) (by have hq := same_any ea6 ea8 en6 ec6 en8 ec8 (playEn gr hold nd t l) (playEn gr hold nd t l) w11 he6 he8; rw [decide_eq_true rfl] at hq; exact hq) ?_
  clear F ac
  rintro e w13 ⟨rfl, g⟩
  refine ⟨_, rfl, ?_⟩
  intro ac F
  replace G := G.trans g
  replace hC := hC.gr g
  replace hnd := hnd.gr g
  replace hl := hl.gr g
  replace hr6 := hr6.gr g
  replace he6 := he6.gr g
  replace hr8 := hr8.gr g
  replace he8 := he8.gr g
  clear g
  refine Y.pval F (X.w1 rfl (F.yl (j := 9) (d := 56) (b := false) rfl (by kernel_rfl))) rfl (X.notB rfl (F.e 59 rfl) rfl) ?_;clear F ac;intro ac F
  refine Y.pv F (X.pickF rfl (F.e 56 rfl) (F.e 60 rfl)) ?_;clear F ac;intro ac F
  refine Y.nil ?_
  replace F : Fr ac 117 [(1, Vi t), (2, .slice la m lc), (3, Vp w.heap.size), (61, .bool false)] := F.sub _
  refine X.thenN ?_
  refine Y.condF (F.e 61 rfl) ?_
  refine Y.skip ?_
  refine X.thenN ?_
  refine Y.seq ?_
  refine Y.lit (by kernel_rfl) ?_
  refine Y.pv F (X.load rfl (F.e 3 rfl) (X.ldN (Try.agg24 _) (Try.siz24 _) (Y.atz (⟨w.heap.size, 0, none⟩) (Y.AtFrom.cons (hC.at 0 rfl) (Y.AtFrom.cons (hC.at 1 rfl) (Y.AtFrom.cons (hC.at 2 rfl) (Y.AtFrom.nil _ _ _))))))) ?_;clear F ac;intro ac F
  refine Y.pv F (X.move rfl (F.e 1 rfl)) ?_;clear F ac;intro ac F
  refine Y.pv F (X.move rfl (F.e 2 rfl)) ?_;clear F ac;intro ac F
  refine Y.pcall F (X.w0 rfl) rfl (X.enter (F := 19) rfl (X.kc (.func (.func 19) #[] #[]) rfl) (X.a3 (F.e 63 rfl) (F.e 64 rfl) (F.e 65 rfl)) (enters_of Try.func19 (by kernel_rfl) rfl _)) (asked_any na la n nc m lc gr hold t nd l w13 hnd hl) ?_
  clear F ac
  rintro e w15 ⟨ka14, kn14, kc14, rfl, hk14, g⟩
  refine ⟨_, rfl, ?_⟩
  intro ac F
  replace G := G.trans g
  replace hC := hC.gr g
  replace hnd := hnd.gr g
  replace hl := hl.gr g
  replace hr6 := hr6.gr g
  replace he6 := he6.gr g
  replace hr8 := hr8.gr g
  replace he8 := he8.gr g
  clear g
  refine Y.pv F (X.move rfl (F.e 66 rfl)) ?_;clear F ac;intro ac F
  refine Y.pv F (X.extract rfl (F.e 62 rfl) rfl) ?_;clear F ac;intro ac F
  refine Y.pv F (X.extract rfl (F.e 62 rfl) rfl) ?_;clear F ac;intro ac F
  refine Y.pv F (X.assign rfl (F.e 67 rfl)) ?_;clear F ac;intro ac F
  refine Y.pv F (X.assign rfl (F.e 68 rfl)) ?_;clear F ac;intro ac F
  refine Y.nil ?_
  replace F : Fr ac 117 [(1, Vi t), (2, .slice la m lc), (3, Vp w.heap.size), (9, Vi (playE gr hold nd t l)), (13, .slice ka14 kn14 kc14)] := F.sub _
  refine X.thenN ?_
  refine Y.seq ?_
  refine Y.lit (by kernel_rfl) ?_
  refine Y.pv F (X.load rfl (F.e 3 rfl) (X.ldN (Try.agg24 _) (Try.siz24 _) (Y.atz (⟨w.heap.size, 0, none⟩) (Y.AtFrom.cons (hC.at 0 rfl) (Y.AtFrom.cons (hC.at 1 rfl) (Y.AtFrom.cons (hC.at 2 rfl) (Y.AtFrom.nil _ _ _))))))) ?_;clear F ac;intro ac F
  refine Y.pv F (X.move rfl (F.e 1 rfl)) ?_;clear F ac;intro ac F
  refine Y.pv F (X.move rfl (F.e 2 rfl)) ?_;clear F ac;intro ac F
  refine Y.pcall F (X.w0 rfl) rfl (X.enter (F := 28) rfl (X.kc (.func (.func 28) #[] #[]) rfl) (X.a3 (F.e 70 rfl) (F.e 71 rfl) (F.e 72 rfl)) (enters_of Try.func28 (by kernel_rfl) rfl _)) (askedR_any na la n nc m lc gr hold t nd l w15 hnd hl) ?_
  clear F ac
  rintro e w17 ⟨ka16, kn16, kc16, rfl, hk16, g⟩
  refine ⟨_, rfl, ?_⟩
  intro ac F
  replace G := G.trans g
  replace hC := hC.gr g
  replace hnd := hnd.gr g
  replace hl := hl.gr g
  replace hr6 := hr6.gr g
  replace he6 := he6.gr g
  replace hr8 := hr8.gr g
  replace he8 := he8.gr g
  replace hk14 := hk14.gr g
  clear g
  refine Y.pv F (X.move rfl (F.e 73 rfl)) ?_;clear F ac;intro ac F
  refine Y.pv F (X.extract rfl (F.e 69 rfl) rfl) ?_;clear F ac;intro ac F
  refine Y.pv F (X.extract rfl (F.e 69 rfl) rfl) ?_;clear F ac;intro ac F
  refine Y.pv F (X.assign rfl (F.e 74 rfl)) ?_;clear F ac;intro ac F
  refine Y.pv F (X.assign rfl (F.e 75 rfl)) ?_;clear F ac;intro ac F
  refine Y.nil ?_
  replace F : Fr ac 117 [(1, Vi t), (2, .slice la m lc), (3, Vp w.heap.size), (9, Vi (playE gr hold nd t l)), (12, Vi (playE gr hold nd t l)), (13, .slice ka14 kn14 kc14), (14, .slice ka16 kn16 kc16)] := F.sub _
  refine X.thenN ?_
  refine Y.seq ?_
  refine Y.seq ?_
  refine Y.lit (by kernel_rfl) ?_
  refine Y.pv F (X.move rfl (F.e 9 rfl)) ?_;clear F ac;intro ac F
  refine Y.pv F (X.move rfl (F.e 12 rfl)) ?_;clear F ac;intro ac F
  refine Y.pv F (X.binop rfl (F.e 76 rfl) (F.e 77 rfl) (X.neqI Try.underlying26 (show ((playE gr hold nd t l : Int) != (playE gr hold nd t l)) = false by simp))) ?_;clear F ac;intro ac F
  refine Y.pv F (X.move rfl (F.e 78 rfl)) ?_;clear F ac;intro ac F
  refine Y.pval F (X.w1 rfl (F.yl (j := 3) (d := 79) (b := false) rfl (by kernel_rfl))) rfl (X.move rfl (F.e 13 rfl)) ?_;clear F ac;intro ac F
  refine Y.pval F (X.w1 rfl (F.yl (j := 3) (d := 79) (b := false) rfl (by kernel_rfl))) rfl (X.move rfl (F.e 14 rfl)) ?_;clear F ac;intro ac F
  refine Y.pcall F (X.w1 rfl (F.yl (j := 3) (d := 79) (b := false) rfl (by kernel_rfl))) rfl (X.enter (F := 27) rfl (X.kc (.func (.func 27) #[] #[]) rfl) (X.a2 (F.e 80 rfl) (F.e 81 rfl)) (enters_of Try.func27 (by kernel_rfl) rfl _)) (by have hq := same_any ka14 ka16 kn14 kc14 kn16 kc16 (playAsk gr hold nd t l) (playAsk gr hold nd t l) w17 hk14 hk16; rw [decide_eq_true rfl] at hq; exact hq) ?_
  clear F ac
  rintro e w19 ⟨rfl, g⟩
  refine ⟨_, rfl, ?_⟩
  intro ac F
  replace G := G.trans g
  replace hC := hC.gr g
  replace hnd := hnd.gr g
  replace hl := hl.gr g
  replace hr6 := hr6.gr g
  replace he6 := he6.gr g
  replace hr8 := hr8.gr g
  replace he8 := he8.gr g
  replace hk14 := hk14.gr g
  replace hk16 := hk16.gr g
  clear g
  refine Y.pval F (X.w1 rfl (F.yl (j := 3) (d := 79) (b := false) rfl (by kernel_rfl))) rfl (X.notB rfl (F.e 82 rfl) rfl) ?_;clear F ac;intro ac F
  refine Y.pv F (X.pickF rfl (F.e 79 rfl) (F.e 83 rfl)) ?_;clear F ac;intro ac F
  refine Y.nil ?_
  replace F : Fr ac 117 [(1, Vi t), (2, .slice la m lc), (3, Vp w.heap.size), (84, .bool false)] := F.sub _
  refine X.thenN ?_
  refine Y.condF (F.e 84 rfl) ?_
  refine Y.skip ?_
  refine X.thenN ?_
  refine Y.seq ?_
  refine Y.lit (by kernel_rfl) ?_
  refine Y.pv F (X.load rfl (F.e 3 rfl) (X.ldN (Try.agg24 _) (Try.siz24 _) (Y.atz (⟨w.heap.size, 0, none⟩) (Y.AtFrom.cons (hC.at 0 rfl) (Y.AtFrom.cons (hC.at 1 rfl) (Y.AtFrom.cons (hC.at 2 rfl) (Y.AtFrom.nil _ _ _))))))) ?_;clear F ac;intro ac F
  refine Y.pv F (X.move rfl (F.e 1 rfl)) ?_;clear F ac;intro ac F
  refine Y.pv F (X.move rfl (F.e 2 rfl)) ?_;clear F ac;intro ac F
  refine Y.pcall F (X.w0 rfl) rfl (X.enter (F := 29) rfl (X.kc (.func (.func 29) #[] #[]) rfl) (X.a3 (F.e 86 rfl) (F.e 87 rfl) (F.e 88 rfl)) (enters_of Try.func29 (by kernel_rfl) rfl _)) (fail_any na la n nc m lc gr hold t nd l w19 hnd hl) ?_
  clear F ac
  rintro e w21 ⟨fa20, fb20, rfl, hfe20, hf20, g⟩
  refine ⟨_, rfl, ?_⟩
  intro ac F
  replace G := G.trans g
  replace hC := hC.gr g
  replace hnd := hnd.gr g
  replace hl := hl.gr g
  replace hr6 := hr6.gr g
  replace he6 := he6.gr g
  replace hr8 := hr8.gr g
  replace he8 := he8.gr g
  replace hk14 := hk14.gr g
  replace hk16 := hk16.gr g
  clear g
  refine Y.pv F (X.move rfl (F.e 89 rfl)) ?_;clear F ac;intro ac F
  refine Y.pv F (X.extract rfl (F.e 85 rfl) rfl) ?_;clear F ac;intro ac F
  refine Y.pv F (X.extract rfl (F.e 85 rfl) rfl) ?_;clear F ac;intro ac F
  refine Y.pv F (X.extract rfl (F.e 85 rfl) rfl) ?_;clear F ac;intro ac F
  refine Y.pv F (X.assign rfl (F.e 90 rfl)) ?_;clear F ac;intro ac F
  refine Y.pv F (X.assign rfl (F.e 91 rfl)) ?_;clear F ac;intro ac F
  refine Y.pv F (X.assign rfl (F.e 92 rfl)) ?_;clear F ac;intro ac F
  refine Y.nil ?_
  replace F : Fr ac 117 [(1, Vi t), (2, .slice la m lc), (3, Vp w.heap.size), (9, Vi (playE gr hold nd t l)), (15, Vi fa20), (16, Vi fb20)] := F.sub _
  refine X.thenN ?_
  refine Y.seq ?_
  refine Y.lit (by kernel_rfl) ?_
  refine Y.pv F (X.load rfl (F.e 3 rfl) (X.ldN (Try.agg24 _) (Try.siz24 _) (Y.atz (⟨w.heap.size, 0, none⟩) (Y.AtFrom.cons (hC.at 0 rfl) (Y.AtFrom.cons (hC.at 1 rfl) (Y.AtFrom.cons (hC.at 2 rfl) (Y.AtFrom.nil _ _ _))))))) ?_;clear F ac;intro ac F
  refine Y.pv F (X.move rfl (F.e 1 rfl)) ?_;clear F ac;intro ac F
  refine Y.pv F (X.move rfl (F.e 2 rfl)) ?_;clear F ac;intro ac F
  refine Y.pcall F (X.w0 rfl) rfl (X.enter (F := 30) rfl (X.kc (.func (.func 30) #[] #[]) rfl) (X.a3 (F.e 94 rfl) (F.e 95 rfl) (F.e 96 rfl)) (enters_of Try.func30 (by kernel_rfl) rfl _)) (failR_any na la n nc m lc gr hold t nd l w21 hnd hl) ?_
  clear F ac
  rintro e w23 ⟨fa22, fb22, rfl, hfe22, hf22, g⟩
  refine ⟨_, rfl, ?_⟩
  intro ac F
  replace G := G.trans g
  replace hC := hC.gr g
  replace hnd := hnd.gr g
  replace hl := hl.gr g
  replace hr6 := hr6.gr g
  replace he6 := he6.gr g
  replace hr8 := hr8.gr g
  replace he8 := he8.gr g
  replace hk14 := hk14.gr g
  replace hk16 := hk16.gr g
  clear g
  have hfs := fail_same hfe20 hf20 hfe22 hf22
  refine Y.pv F (X.move rfl (F.e 97 rfl)) ?_;clear F ac;intro ac F
  refine Y.pv F (X.extract rfl (F.e 93 rfl) rfl) ?_;clear F ac;intro ac F
  refine Y.pv F (X.extract rfl (F.e 93 rfl) rfl) ?_;clear F ac;intro ac F
  refine Y.pv F (X.extract rfl (F.e 93 rfl) rfl) ?_;clear F ac;intro ac F
  refine Y.pv F (X.assign rfl (F.e 98 rfl)) ?_;clear F ac;intro ac F
  refine Y.pv F (X.assign rfl (F.e 99 rfl)) ?_;clear F ac;intro ac F
  refine Y.pv F (X.assign rfl (F.e 100 rfl)) ?_;clear F ac;intro ac F
  refine Y.nil ?_
  replace F : Fr ac 117 [(9, Vi (playE gr hold nd t l)), (12, Vi (playE gr hold nd t l)), (15, Vi fa20), (16, Vi fb20), (17, Vi fa22), (18, Vi fb22)] := F.sub _
  refine X.thenN ?_
  refine Y.seq ?_
  refine Y.lit (by kernel_rfl) ?_
  refine Y.pv F (X.move rfl (F.e 15 rfl)) ?_;clear F ac;intro ac F
  refine Y.pv F (X.move rfl (F.e 17 rfl)) ?_;clear F ac;intro ac F
  refine Y.pv F (X.binop rfl (F.e 101 rfl) (F.e 102 rfl) (X.eqlI Try.underlying3 rfl)) ?_;clear F ac;intro ac F
  refine Y.pv F (X.move rfl (F.e 103 rfl)) ?_;clear F ac;intro ac F
  have h25 : ((fa20 : Int) == fa22) = true := beq_iff_eq.2 hfs.1
  try rw [h25] at F
  refine Y.pval F (X.w1 rfl (F.yl (j := 3) (d := 104) (b := true) rfl (by kernel_rfl))) rfl (X.move rfl (F.e 16 rfl)) ?_;clear F ac;intro ac F
  refine Y.pval F (X.w1 rfl (F.yl (j := 3) (d := 104) (b := true) rfl (by kernel_rfl))) rfl (X.move rfl (F.e 18 rfl)) ?_;clear F ac;intro ac F
  refine Y.pval F (X.w1 rfl (F.yl (j := 3) (d := 104) (b := true) rfl (by kernel_rfl))) rfl (X.binop rfl (F.e 105 rfl) (F.e 106 rfl) (X.eqlI Try.underlying3 rfl)) ?_;clear F ac;intro ac F
  refine Y.pv F (X.pickT rfl (F.e 104 rfl) (F.e 107 rfl)) ?_;clear F ac;intro ac F
  refine Y.pv F (X.move rfl (F.e 108 rfl)) ?_;clear F ac;intro ac F
  have h27 : ((fb20 : Int) == fb22) = true := beq_iff_eq.2 hfs.2
  try rw [h27] at F
  refine Y.pval F (X.w1 rfl (F.yl (j := 8) (d := 109) (b := true) rfl (by kernel_rfl))) rfl (X.move rfl (F.e 9 rfl)) ?_;clear F ac;intro ac F
  refine Y.pval F (X.w1 rfl (F.yl (j := 8) (d := 109) (b := true) rfl (by kernel_rfl))) rfl (X.move rfl (F.e 12 rfl)) ?_;clear F ac;intro ac F
  refine Y.pval F (X.w1 rfl (F.yl (j := 8) (d := 109) (b := true) rfl (by kernel_rfl))) rfl (X.binop rfl (F.e 110 rfl) (F.e 111 rfl) (X.eqlI Try.underlying26 (show ((playE gr hold nd t l : Int) == (playE gr hold nd t l)) = true by simp))) ?_;clear F ac;intro ac F
  refine Y.pv F (X.pickT rfl (F.e 109 rfl) (F.e 112 rfl)) ?_;clear F ac;intro ac F
  refine Y.pv F (X.move rfl (F.e 113 rfl)) ?_;clear F ac;intro ac F
  refine Y.pcall F (X.w1 rfl (F.yl (j := 13) (d := 114) (b := true) rfl (by kernel_rfl))) rfl (X.enter (F := 16) rfl (X.kc (.func (.func 16) #[] #[]) rfl) rfl (enters_of Try.func16 (by kernel_rfl) rfl _)) (works_any w23) ?_
  clear F ac
  rintro e w29 ⟨rfl, g⟩
  refine ⟨_, rfl, ?_⟩
  intro ac F
  replace G := G.trans g
  replace hC := hC.gr g
  replace hnd := hnd.gr g
  replace hl := hl.gr g
  replace hr6 := hr6.gr g
  replace he6 := he6.gr g
  replace hr8 := hr8.gr g
  replace he8 := he8.gr g
  replace hk14 := hk14.gr g
  replace hk16 := hk16.gr g
  clear g
  refine Y.pv F (X.pickT rfl (F.e 114 rfl) (F.e 115 rfl)) ?_;clear F ac;intro ac F
  refine Y.pv F (X.assign rfl (F.e 116 rfl)) ?_;clear F ac;intro ac F
  refine Y.nil ?_
  replace F : Fr ac 117 [(6, .bool true)] := F.sub _
  refine X.thenN ?_
  refine Y.ret ?_
  exact Y.ret0 (v := .bool true) F (Y.rs1 F rfl (by kernel_rfl)) ⟨rfl, G⟩
 | true =>
  try rw [h4] at F
  have h4p : ((100 : Int) < t) := of_decide_eq_true h4
  refine Y.pval F (X.w1 rfl (F.yl (j := 2) (d := 21) (b := true) rfl (by kernel_rfl))) rfl (X.move rfl (F.e 1 rfl)) ?_;clear F ac;intro ac F
  refine Y.pval F (X.w1 rfl (F.yl (j := 2) (d := 21) (b := true) rfl (by kernel_rfl))) rfl (X.binop rfl (F.e 22 rfl) (X.kc (Vi 1000) rfl) (X.leqI Try.underlying3 rfl)) ?_;clear F ac;intro ac F
  refine Y.pv F (X.pickT rfl (F.e 21 rfl) (F.e 23 rfl)) ?_;clear F ac;intro ac F
  refine Y.nil ?_
  replace F : Fr ac 117 [(1, Vi t), (2, .slice la m lc), (3, Vp w.heap.size), (24, .bool (decide ((t : Int) ≤ 1000)))] := F.sub _
  refine X.thenN ?_
  cases h30 : decide ((t : Int) ≤ 1000) with
  | false =>
   try rw [h30] at F
   have h30p : ¬ ((t : Int) ≤ 1000) := of_decide_eq_false h30
   refine Y.condF (F.e 24 rfl) ?_
   refine Y.skip ?_
   refine X.thenN ?_
   refine Y.seq ?_
   refine Y.seq ?_
   refine Y.region F [some (.agg #[Vi gr, Vi hold, .slice na n nc]), some (Vi (cluE gr hold nd)), some (.agg #[Vi gr, Vi hold, .slice na n nc]), some (Vi (cluE gr hold nd)), some (.bool false)] [] rfl ⟨by kernel_rfl, of_decide_eq_true (by kernel_rfl), by kernel_rfl, by kernel_rfl, by kernel_rfl⟩ ⟨?_, ?_, ?_, ?_, ?_, trivial⟩ ?_
   ·intro ac done u W Sx hR
    have g : Gr w3 W := hR.1
    exact X.vl (X.load rfl (Sx.ev 3 (Vp w.heap.size)) (X.ldN (Try.agg24 _) (Try.siz24 _) (Y.atz (⟨w.heap.size, 0, none⟩) (Y.AtFrom.cons ((hC.gr g).at 0 rfl) (Y.AtFrom.cons ((hC.gr g).at 1 rfl) (Y.AtFrom.cons ((hC.gr g).at 2 rfl) (Y.AtFrom.nil _ _ _))))))) hR.st0
   ·intro ac done u W Sx hR
    have g : Gr w3 W := hR.1
    refine X.call (X.w0 rfl) (X.enter (F := 25) rfl (X.kc (.func (.func 25) #[] #[]) rfl) (X.a1 (Sx.ev 26 (.agg #[Vi gr, Vi hold, .slice na n nc]))) (enters_of Try.func25 (by kernel_rfl) rfl _)) (check_any na n nc gr hold nd W (hnd.gr g)) ?_
    rintro e W2 ⟨rfl, g2⟩
    exact ⟨_, rfl, X.kn rfl, hR.step g2 rfl⟩
   ·intro ac done u W Sx hR
    have g : Gr w3 W := hR.1
    exact X.vl (X.load rfl (Sx.ev 3 (Vp w.heap.size)) (X.ldN (Try.agg24 _) (Try.siz24 _) (Y.atz (⟨w.heap.size, 0, none⟩) (Y.AtFrom.cons ((hC.gr g).at 0 rfl) (Y.AtFrom.cons ((hC.gr g).at 1 rfl) (Y.AtFrom.cons ((hC.gr g).at 2 rfl) (Y.AtFrom.nil _ _ _))))))) hR.st0
   ·intro ac done u W Sx hR
    have g : Gr w3 W := hR.1
    refine X.call (X.w0 rfl) (X.enter (F := 15) rfl (X.kc (.func (.func 15) #[] #[]) rfl) (X.a1 (Sx.ev 28 (.agg #[Vi gr, Vi hold, .slice na n nc]))) (enters_of Try.func15 (by kernel_rfl) rfl _)) (check2_any na n nc gr hold nd W (hnd.gr g)) ?_
    rintro e W2 ⟨rfl, g2⟩
    exact ⟨_, rfl, X.kn rfl, hR.step g2 rfl⟩
   ·intro ac done u W Sx hR
    exact X.vl (X.binop rfl (Sx.ev 27 (Vi (cluE gr hold nd))) (Sx.ev 29 (Vi (cluE gr hold nd))) (X.neqI Try.underlying26 (show ((cluE gr hold nd : Int) != (cluE gr hold nd)) = false by simp))) hR.st0
   intro ac u w31 hs hd hl ho hR
   have g : Gr w3 w31 := hR.1
   replace F : Fr ac 117 [(1, Vi t), (2, .slice la m lc), (3, Vp w.heap.size), (30, .bool false)] := X.fr hs hd hl _ (by kernel_rfl)
   clear hs hd hl ho hR
   replace G := G.trans g
   replace hC := hC.gr g
   replace hnd := hnd.gr g
   replace hl := hl.gr g
   clear g
   refine X.thenN ?_
   refine Y.condF (F.e 30 rfl) ?_
   refine Y.skip ?_
   refine X.thenN ?_
   refine Y.seq ?_
   refine Y.lit (by kernel_rfl) ?_
   refine Y.pv F (X.load rfl (F.e 3 rfl) (X.ldN (Try.agg24 _) (Try.siz24 _) (Y.atz (⟨w.heap.size, 0, none⟩) (Y.AtFrom.cons (hC.at 0 rfl) (Y.AtFrom.cons (hC.at 1 rfl) (Y.AtFrom.cons (hC.at 2 rfl) (Y.AtFrom.nil _ _ _))))))) ?_;clear F ac;intro ac F
   refine Y.pv F (X.move rfl (F.e 1 rfl)) ?_;clear F ac;intro ac F
   refine Y.pv F (X.move rfl (F.e 2 rfl)) ?_;clear F ac;intro ac F
   refine Y.pcall F (X.w0 rfl) rfl (X.enter (F := 18) rfl (X.kc (.func (.func 18) #[] #[]) rfl) (X.a3 (F.e 32 rfl) (F.e 33 rfl) (F.e 34 rfl)) (enters_of Try.func18 (by kernel_rfl) rfl _)) (play_any na la n nc m lc gr hold t nd l w31 hnd hl) ?_
   clear F ac
   rintro e w33 ⟨ra32, rn32, rc32, ea32, en32, ec32, rfl, hr32, he32, g⟩
   refine ⟨_, rfl, ?_⟩
   intro ac F
   replace G := G.trans g
   replace hC := hC.gr g
   replace hnd := hnd.gr g
   replace hl := hl.gr g
   clear g
   refine Y.pv F (X.move rfl (F.e 35 rfl)) ?_;clear F ac;intro ac F
   refine Y.pv F (X.extract rfl (F.e 31 rfl) rfl) ?_;clear F ac;intro ac F
   refine Y.pv F (X.extract rfl (F.e 31 rfl) rfl) ?_;clear F ac;intro ac F
   refine Y.pv F (X.extract rfl (F.e 31 rfl) rfl) ?_;clear F ac;intro ac F
   refine Y.pv F (X.assign rfl (F.e 36 rfl)) ?_;clear F ac;intro ac F
   refine Y.pv F (X.assign rfl (F.e 37 rfl)) ?_;clear F ac;intro ac F
   refine Y.pv F (X.assign rfl (F.e 38 rfl)) ?_;clear F ac;intro ac F
   refine Y.nil ?_
   replace F : Fr ac 117 [(1, Vi t), (2, .slice la m lc), (3, Vp w.heap.size), (7, .slice ra32 rn32 rc32), (8, .slice ea32 en32 ec32), (9, Vi (playE gr hold nd t l))] := F.sub _
   refine X.thenN ?_
   refine Y.seq ?_
   refine Y.lit (by kernel_rfl) ?_
   refine Y.pv F (X.load rfl (F.e 3 rfl) (X.ldN (Try.agg24 _) (Try.siz24 _) (Y.atz (⟨w.heap.size, 0, none⟩) (Y.AtFrom.cons (hC.at 0 rfl) (Y.AtFrom.cons (hC.at 1 rfl) (Y.AtFrom.cons (hC.at 2 rfl) (Y.AtFrom.nil _ _ _))))))) ?_;clear F ac;intro ac F
   refine Y.pv F (X.move rfl (F.e 1 rfl)) ?_;clear F ac;intro ac F
   refine Y.pv F (X.move rfl (F.e 2 rfl)) ?_;clear F ac;intro ac F
   refine Y.pcall F (X.w0 rfl) rfl (X.enter (F := 26) rfl (X.kc (.func (.func 26) #[] #[]) rfl) (X.a3 (F.e 40 rfl) (F.e 41 rfl) (F.e 42 rfl)) (enters_of Try.func26 (by kernel_rfl) rfl _)) (playR_any na la n nc m lc gr hold t nd l w33 hnd hl) ?_
   clear F ac
   rintro e w35 ⟨ra34, rn34, rc34, ea34, en34, ec34, rfl, hr34, he34, g⟩
   refine ⟨_, rfl, ?_⟩
   intro ac F
   replace G := G.trans g
   replace hC := hC.gr g
   replace hnd := hnd.gr g
   replace hl := hl.gr g
   replace hr32 := hr32.gr g
   replace he32 := he32.gr g
   clear g
   refine Y.pv F (X.move rfl (F.e 43 rfl)) ?_;clear F ac;intro ac F
   refine Y.pv F (X.extract rfl (F.e 39 rfl) rfl) ?_;clear F ac;intro ac F
   refine Y.pv F (X.extract rfl (F.e 39 rfl) rfl) ?_;clear F ac;intro ac F
   refine Y.pv F (X.extract rfl (F.e 39 rfl) rfl) ?_;clear F ac;intro ac F
   refine Y.pv F (X.assign rfl (F.e 44 rfl)) ?_;clear F ac;intro ac F
   refine Y.pv F (X.assign rfl (F.e 45 rfl)) ?_;clear F ac;intro ac F
   refine Y.pv F (X.assign rfl (F.e 46 rfl)) ?_;clear F ac;intro ac F
   refine Y.nil ?_
   replace F : Fr ac 117 [(1, Vi t), (2, .slice la m lc), (3, Vp w.heap.size), (7, .slice ra32 rn32 rc32), (8, .slice ea32 en32 ec32), (9, Vi (playE gr hold nd t l)), (10, .slice ra34 rn34 rc34), (11, .slice ea34 en34 ec34), (12, Vi (playE gr hold nd t l))] := F.sub _
   refine X.thenN ?_
   refine Y.seq ?_
   refine Y.seq ?_
   refine Y.lit (by kernel_rfl) ?_
   refine Y.pv F (X.move rfl (F.e 9 rfl)) ?_;clear F ac;intro ac F
   refine Y.pv F (X.move rfl (F.e 12 rfl)) ?_;clear F ac;intro ac F
   refine Y.pv F (X.binop rfl (F.e 47 rfl) (F.e 48 rfl) (X.neqI Try.underlying26 (show ((playE gr hold nd t l : Int) != (playE gr hold nd t l)) = false by simp))) ?_;clear F ac;intro ac F
   refine Y.pv F (X.move rfl (F.e 49 rfl)) ?_;clear F ac;intro ac F
   refine Y.pval F (X.w1 rfl (F.yl (j := 3) (d := 50) (b := false) rfl (by kernel_rfl))) rfl (X.move rfl (F.e 7 rfl)) ?_;clear F ac;intro ac F
   refine Y.pval F (X.w1 rfl (F.yl (j := 3) (d := 50) (b := false) rfl (by kernel_rfl))) rfl (X.move rfl (F.e 10 rfl)) ?_;clear F ac;intro ac F
   refine Y.pcall F (X.w1 rfl (F.yl (j := 3) (d := 50) (b := false) rfl (by kernel_rfl))) rfl (X.enter (F := 27) rfl (X.kc (.func (.func 27) #[] #[]) rfl) (X.a2 (F.e 51 rfl) (F.e 52 rfl)) (enters_of Try.func27 (by kernel_rfl) rfl _)) (by have hq := same_any ra32 ra34 rn32 rc32 rn34 rc34 (playRows gr hold nd t l) (playRows gr hold nd t l) w35 hr32 hr34; rw [decide_eq_true rfl] at hq; exact hq) ?_
   clear F ac
   rintro e w37 ⟨rfl, g⟩
   refine ⟨_, rfl, ?_⟩
   intro ac F
   replace G := G.trans g
   replace hC := hC.gr g
   replace hnd := hnd.gr g
   replace hl := hl.gr g
   replace hr32 := hr32.gr g
   replace he32 := he32.gr g
   replace hr34 := hr34.gr g
   replace he34 := he34.gr g
   clear g
   refine Y.pval F (X.w1 rfl (F.yl (j := 3) (d := 50) (b := false) rfl (by kernel_rfl))) rfl (X.notB rfl (F.e 53 rfl) rfl) ?_;clear F ac;intro ac F
   refine Y.pv F (X.pickF rfl (F.e 50 rfl) (F.e 54 rfl)) ?_;clear F ac;intro ac F
   refine Y.pv F (X.move rfl (F.e 55 rfl)) ?_;clear F ac;intro ac F
   refine Y.pval F (X.w1 rfl (F.yl (j := 9) (d := 56) (b := false) rfl (by kernel_rfl))) rfl (X.move rfl (F.e 8 rfl)) ?_;clear F ac;intro ac F
   refine Y.pval F (X.w1 rfl (F.yl (j := 9) (d := 56) (b := false) rfl (by kernel_rfl))) rfl (X.move rfl (F.e 11 rfl)) ?_;clear F ac;intro ac F
   refine Y.pcall F (X.w1 rfl (F.yl (j := 9) (d := 56) (b := false) rfl (by kernel_rfl))) rfl (X.enter (F := 27) rfl (X.kc (.func (.func 27) #[] #[]) rfl) (X.a2 (F.e 57 rfl) (F.e 58 rfl)) (enters_of Try.func27 (by kernel_rfl) rfl _)) (by have hq := same_any ea32 ea34 en32 ec32 en34 ec34 (playEn gr hold nd t l) (playEn gr hold nd t l) w37 he32 he34; rw [decide_eq_true rfl] at hq; exact hq) ?_
   clear F ac
   rintro e w39 ⟨rfl, g⟩
   refine ⟨_, rfl, ?_⟩
   intro ac F
   replace G := G.trans g
   replace hC := hC.gr g
   replace hnd := hnd.gr g
   replace hl := hl.gr g
   replace hr32 := hr32.gr g
   replace he32 := he32.gr g
   replace hr34 := hr34.gr g
   replace he34 := he34.gr g
   clear g
   refine Y.pval F (X.w1 rfl (F.yl (j := 9) (d := 56) (b := false) rfl (by kernel_rfl))) rfl (X.notB rfl (F.e 59 rfl) rfl) ?_;clear F ac;intro ac F
   refine Y.pv F (X.pickF rfl (F.e 56 rfl) (F.e 60 rfl)) ?_;clear F ac;intro ac F
   refine Y.nil ?_
   replace F : Fr ac 117 [(1, Vi t), (2, .slice la m lc), (3, Vp w.heap.size), (61, .bool false)] := F.sub _
   refine X.thenN ?_
   refine Y.condF (F.e 61 rfl) ?_
   refine Y.skip ?_
   refine X.thenN ?_
   refine Y.seq ?_
   refine Y.lit (by kernel_rfl) ?_
   refine Y.pv F (X.load rfl (F.e 3 rfl) (X.ldN (Try.agg24 _) (Try.siz24 _) (Y.atz (⟨w.heap.size, 0, none⟩) (Y.AtFrom.cons (hC.at 0 rfl) (Y.AtFrom.cons (hC.at 1 rfl) (Y.AtFrom.cons (hC.at 2 rfl) (Y.AtFrom.nil _ _ _))))))) ?_;clear F ac;intro ac F
   refine Y.pv F (X.move rfl (F.e 1 rfl)) ?_;clear F ac;intro ac F
   refine Y.pv F (X.move rfl (F.e 2 rfl)) ?_;clear F ac;intro ac F
   refine Y.pcall F (X.w0 rfl) rfl (X.enter (F := 19) rfl (X.kc (.func (.func 19) #[] #[]) rfl) (X.a3 (F.e 63 rfl) (F.e 64 rfl) (F.e 65 rfl)) (enters_of Try.func19 (by kernel_rfl) rfl _)) (asked_any na la n nc m lc gr hold t nd l w39 hnd hl) ?_
   clear F ac
   rintro e w41 ⟨ka40, kn40, kc40, rfl, hk40, g⟩
   refine ⟨_, rfl, ?_⟩
   intro ac F
   replace G := G.trans g
   replace hC := hC.gr g
   replace hnd := hnd.gr g
   replace hl := hl.gr g
   replace hr32 := hr32.gr g
   replace he32 := he32.gr g
   replace hr34 := hr34.gr g
   replace he34 := he34.gr g
   clear g
   refine Y.pv F (X.move rfl (F.e 66 rfl)) ?_;clear F ac;intro ac F
   refine Y.pv F (X.extract rfl (F.e 62 rfl) rfl) ?_;clear F ac;intro ac F
   refine Y.pv F (X.extract rfl (F.e 62 rfl) rfl) ?_;clear F ac;intro ac F
   refine Y.pv F (X.assign rfl (F.e 67 rfl)) ?_;clear F ac;intro ac F
   refine Y.pv F (X.assign rfl (F.e 68 rfl)) ?_;clear F ac;intro ac F
   refine Y.nil ?_
   replace F : Fr ac 117 [(1, Vi t), (2, .slice la m lc), (3, Vp w.heap.size), (9, Vi (playE gr hold nd t l)), (13, .slice ka40 kn40 kc40)] := F.sub _
   refine X.thenN ?_
   refine Y.seq ?_
   refine Y.lit (by kernel_rfl) ?_
   refine Y.pv F (X.load rfl (F.e 3 rfl) (X.ldN (Try.agg24 _) (Try.siz24 _) (Y.atz (⟨w.heap.size, 0, none⟩) (Y.AtFrom.cons (hC.at 0 rfl) (Y.AtFrom.cons (hC.at 1 rfl) (Y.AtFrom.cons (hC.at 2 rfl) (Y.AtFrom.nil _ _ _))))))) ?_;clear F ac;intro ac F
   refine Y.pv F (X.move rfl (F.e 1 rfl)) ?_;clear F ac;intro ac F
   refine Y.pv F (X.move rfl (F.e 2 rfl)) ?_;clear F ac;intro ac F
   refine Y.pcall F (X.w0 rfl) rfl (X.enter (F := 28) rfl (X.kc (.func (.func 28) #[] #[]) rfl) (X.a3 (F.e 70 rfl) (F.e 71 rfl) (F.e 72 rfl)) (enters_of Try.func28 (by kernel_rfl) rfl _)) (askedR_any na la n nc m lc gr hold t nd l w41 hnd hl) ?_
   clear F ac
   rintro e w43 ⟨ka42, kn42, kc42, rfl, hk42, g⟩
   refine ⟨_, rfl, ?_⟩
   intro ac F
   replace G := G.trans g
   replace hC := hC.gr g
   replace hnd := hnd.gr g
   replace hl := hl.gr g
   replace hr32 := hr32.gr g
   replace he32 := he32.gr g
   replace hr34 := hr34.gr g
   replace he34 := he34.gr g
   replace hk40 := hk40.gr g
   clear g
   refine Y.pv F (X.move rfl (F.e 73 rfl)) ?_;clear F ac;intro ac F
   refine Y.pv F (X.extract rfl (F.e 69 rfl) rfl) ?_;clear F ac;intro ac F
   refine Y.pv F (X.extract rfl (F.e 69 rfl) rfl) ?_;clear F ac;intro ac F
   refine Y.pv F (X.assign rfl (F.e 74 rfl)) ?_;clear F ac;intro ac F
   refine Y.pv F (X.assign rfl (F.e 75 rfl)) ?_;clear F ac;intro ac F
   refine Y.nil ?_
   replace F : Fr ac 117 [(1, Vi t), (2, .slice la m lc), (3, Vp w.heap.size), (9, Vi (playE gr hold nd t l)), (12, Vi (playE gr hold nd t l)), (13, .slice ka40 kn40 kc40), (14, .slice ka42 kn42 kc42)] := F.sub _
   refine X.thenN ?_
   refine Y.seq ?_
   refine Y.seq ?_
   refine Y.lit (by kernel_rfl) ?_
   refine Y.pv F (X.move rfl (F.e 9 rfl)) ?_;clear F ac;intro ac F
   refine Y.pv F (X.move rfl (F.e 12 rfl)) ?_;clear F ac;intro ac F
   refine Y.pv F (X.binop rfl (F.e 76 rfl) (F.e 77 rfl) (X.neqI Try.underlying26 (show ((playE gr hold nd t l : Int) != (playE gr hold nd t l)) = false by simp))) ?_;clear F ac;intro ac F
   refine Y.pv F (X.move rfl (F.e 78 rfl)) ?_;clear F ac;intro ac F
   refine Y.pval F (X.w1 rfl (F.yl (j := 3) (d := 79) (b := false) rfl (by kernel_rfl))) rfl (X.move rfl (F.e 13 rfl)) ?_;clear F ac;intro ac F
   refine Y.pval F (X.w1 rfl (F.yl (j := 3) (d := 79) (b := false) rfl (by kernel_rfl))) rfl (X.move rfl (F.e 14 rfl)) ?_;clear F ac;intro ac F
   refine Y.pcall F (X.w1 rfl (F.yl (j := 3) (d := 79) (b := false) rfl (by kernel_rfl))) rfl (X.enter (F := 27) rfl (X.kc (.func (.func 27) #[] #[]) rfl) (X.a2 (F.e 80 rfl) (F.e 81 rfl)) (enters_of Try.func27 (by kernel_rfl) rfl _)) (by have hq := same_any ka40 ka42 kn40 kc40 kn42 kc42 (playAsk gr hold nd t l) (playAsk gr hold nd t l) w43 hk40 hk42; rw [decide_eq_true rfl] at hq; exact hq) ?_
   clear F ac
   rintro e w45 ⟨rfl, g⟩
   refine ⟨_, rfl, ?_⟩
   intro ac F
   replace G := G.trans g
   replace hC := hC.gr g
   replace hnd := hnd.gr g
   replace hl := hl.gr g
   replace hr32 := hr32.gr g
   replace he32 := he32.gr g
   replace hr34 := hr34.gr g
   replace he34 := he34.gr g
   replace hk40 := hk40.gr g
   replace hk42 := hk42.gr g
   clear g
   refine Y.pval F (X.w1 rfl (F.yl (j := 3) (d := 79) (b := false) rfl (by kernel_rfl))) rfl (X.notB rfl (F.e 82 rfl) rfl) ?_;clear F ac;intro ac F
   refine Y.pv F (X.pickF rfl (F.e 79 rfl) (F.e 83 rfl)) ?_;clear F ac;intro ac F
   refine Y.nil ?_
   replace F : Fr ac 117 [(1, Vi t), (2, .slice la m lc), (3, Vp w.heap.size), (84, .bool false)] := F.sub _
   refine X.thenN ?_
   refine Y.condF (F.e 84 rfl) ?_
   refine Y.skip ?_
   refine X.thenN ?_
   refine Y.seq ?_
   refine Y.lit (by kernel_rfl) ?_
   refine Y.pv F (X.load rfl (F.e 3 rfl) (X.ldN (Try.agg24 _) (Try.siz24 _) (Y.atz (⟨w.heap.size, 0, none⟩) (Y.AtFrom.cons (hC.at 0 rfl) (Y.AtFrom.cons (hC.at 1 rfl) (Y.AtFrom.cons (hC.at 2 rfl) (Y.AtFrom.nil _ _ _))))))) ?_;clear F ac;intro ac F
   refine Y.pv F (X.move rfl (F.e 1 rfl)) ?_;clear F ac;intro ac F
   refine Y.pv F (X.move rfl (F.e 2 rfl)) ?_;clear F ac;intro ac F
   refine Y.pcall F (X.w0 rfl) rfl (X.enter (F := 29) rfl (X.kc (.func (.func 29) #[] #[]) rfl) (X.a3 (F.e 86 rfl) (F.e 87 rfl) (F.e 88 rfl)) (enters_of Try.func29 (by kernel_rfl) rfl _)) (fail_any na la n nc m lc gr hold t nd l w45 hnd hl) ?_
   clear F ac
   rintro e w47 ⟨fa46, fb46, rfl, hfe46, hf46, g⟩
   refine ⟨_, rfl, ?_⟩
   intro ac F
   replace G := G.trans g
   replace hC := hC.gr g
   replace hnd := hnd.gr g
   replace hl := hl.gr g
   replace hr32 := hr32.gr g
   replace he32 := he32.gr g
   replace hr34 := hr34.gr g
   replace he34 := he34.gr g
   replace hk40 := hk40.gr g
   replace hk42 := hk42.gr g
   clear g
   refine Y.pv F (X.move rfl (F.e 89 rfl)) ?_;clear F ac;intro ac F
   refine Y.pv F (X.extract rfl (F.e 85 rfl) rfl) ?_;clear F ac;intro ac F
   refine Y.pv F (X.extract rfl (F.e 85 rfl) rfl) ?_;clear F ac;intro ac F
   refine Y.pv F (X.extract rfl (F.e 85 rfl) rfl) ?_;clear F ac;intro ac F
   refine Y.pv F (X.assign rfl (F.e 90 rfl)) ?_;clear F ac;intro ac F
   refine Y.pv F (X.assign rfl (F.e 91 rfl)) ?_;clear F ac;intro ac F
   refine Y.pv F (X.assign rfl (F.e 92 rfl)) ?_;clear F ac;intro ac F
   refine Y.nil ?_
   replace F : Fr ac 117 [(1, Vi t), (2, .slice la m lc), (3, Vp w.heap.size), (9, Vi (playE gr hold nd t l)), (15, Vi fa46), (16, Vi fb46)] := F.sub _
   refine X.thenN ?_
   refine Y.seq ?_
   refine Y.lit (by kernel_rfl) ?_
   refine Y.pv F (X.load rfl (F.e 3 rfl) (X.ldN (Try.agg24 _) (Try.siz24 _) (Y.atz (⟨w.heap.size, 0, none⟩) (Y.AtFrom.cons (hC.at 0 rfl) (Y.AtFrom.cons (hC.at 1 rfl) (Y.AtFrom.cons (hC.at 2 rfl) (Y.AtFrom.nil _ _ _))))))) ?_;clear F ac;intro ac F
   refine Y.pv F (X.move rfl (F.e 1 rfl)) ?_;clear F ac;intro ac F
   refine Y.pv F (X.move rfl (F.e 2 rfl)) ?_;clear F ac;intro ac F
   refine Y.pcall F (X.w0 rfl) rfl (X.enter (F := 30) rfl (X.kc (.func (.func 30) #[] #[]) rfl) (X.a3 (F.e 94 rfl) (F.e 95 rfl) (F.e 96 rfl)) (enters_of Try.func30 (by kernel_rfl) rfl _)) (failR_any na la n nc m lc gr hold t nd l w47 hnd hl) ?_
   clear F ac
   rintro e w49 ⟨fa48, fb48, rfl, hfe48, hf48, g⟩
   refine ⟨_, rfl, ?_⟩
   intro ac F
   replace G := G.trans g
   replace hC := hC.gr g
   replace hnd := hnd.gr g
   replace hl := hl.gr g
   replace hr32 := hr32.gr g
   replace he32 := he32.gr g
   replace hr34 := hr34.gr g
   replace he34 := he34.gr g
   replace hk40 := hk40.gr g
   replace hk42 := hk42.gr g
   clear g
   have hfs := fail_same hfe46 hf46 hfe48 hf48
   refine Y.pv F (X.move rfl (F.e 97 rfl)) ?_;clear F ac;intro ac F
   refine Y.pv F (X.extract rfl (F.e 93 rfl) rfl) ?_;clear F ac;intro ac F
   refine Y.pv F (X.extract rfl (F.e 93 rfl) rfl) ?_;clear F ac;intro ac F
   refine Y.pv F (X.extract rfl (F.e 93 rfl) rfl) ?_;clear F ac;intro ac F
   refine Y.pv F (X.assign rfl (F.e 98 rfl)) ?_;clear F ac;intro ac F
   refine Y.pv F (X.assign rfl (F.e 99 rfl)) ?_;clear F ac;intro ac F
   refine Y.pv F (X.assign rfl (F.e 100 rfl)) ?_;clear F ac;intro ac F
   refine Y.nil ?_
   replace F : Fr ac 117 [(9, Vi (playE gr hold nd t l)), (12, Vi (playE gr hold nd t l)), (15, Vi fa46), (16, Vi fb46), (17, Vi fa48), (18, Vi fb48)] := F.sub _
   refine X.thenN ?_
   refine Y.seq ?_
   refine Y.lit (by kernel_rfl) ?_
   refine Y.pv F (X.move rfl (F.e 15 rfl)) ?_;clear F ac;intro ac F
   refine Y.pv F (X.move rfl (F.e 17 rfl)) ?_;clear F ac;intro ac F
   refine Y.pv F (X.binop rfl (F.e 101 rfl) (F.e 102 rfl) (X.eqlI Try.underlying3 rfl)) ?_;clear F ac;intro ac F
   refine Y.pv F (X.move rfl (F.e 103 rfl)) ?_;clear F ac;intro ac F
   have h51 : ((fa46 : Int) == fa48) = true := beq_iff_eq.2 hfs.1
   try rw [h51] at F
   refine Y.pval F (X.w1 rfl (F.yl (j := 3) (d := 104) (b := true) rfl (by kernel_rfl))) rfl (X.move rfl (F.e 16 rfl)) ?_;clear F ac;intro ac F
   refine Y.pval F (X.w1 rfl (F.yl (j := 3) (d := 104) (b := true) rfl (by kernel_rfl))) rfl (X.move rfl (F.e 18 rfl)) ?_;clear F ac;intro ac F
   refine Y.pval F (X.w1 rfl (F.yl (j := 3) (d := 104) (b := true) rfl (by kernel_rfl))) rfl (X.binop rfl (F.e 105 rfl) (F.e 106 rfl) (X.eqlI Try.underlying3 rfl)) ?_;clear F ac;intro ac F
   refine Y.pv F (X.pickT rfl (F.e 104 rfl) (F.e 107 rfl)) ?_;clear F ac;intro ac F
   refine Y.pv F (X.move rfl (F.e 108 rfl)) ?_;clear F ac;intro ac F
   have h53 : ((fb46 : Int) == fb48) = true := beq_iff_eq.2 hfs.2
   try rw [h53] at F
   refine Y.pval F (X.w1 rfl (F.yl (j := 8) (d := 109) (b := true) rfl (by kernel_rfl))) rfl (X.move rfl (F.e 9 rfl)) ?_;clear F ac;intro ac F
   refine Y.pval F (X.w1 rfl (F.yl (j := 8) (d := 109) (b := true) rfl (by kernel_rfl))) rfl (X.move rfl (F.e 12 rfl)) ?_;clear F ac;intro ac F
   refine Y.pval F (X.w1 rfl (F.yl (j := 8) (d := 109) (b := true) rfl (by kernel_rfl))) rfl (X.binop rfl (F.e 110 rfl) (F.e 111 rfl) (X.eqlI Try.underlying26 (show ((playE gr hold nd t l : Int) == (playE gr hold nd t l)) = true by simp))) ?_;clear F ac;intro ac F
   refine Y.pv F (X.pickT rfl (F.e 109 rfl) (F.e 112 rfl)) ?_;clear F ac;intro ac F
   refine Y.pv F (X.move rfl (F.e 113 rfl)) ?_;clear F ac;intro ac F
   refine Y.pcall F (X.w1 rfl (F.yl (j := 13) (d := 114) (b := true) rfl (by kernel_rfl))) rfl (X.enter (F := 16) rfl (X.kc (.func (.func 16) #[] #[]) rfl) rfl (enters_of Try.func16 (by kernel_rfl) rfl _)) (works_any w49) ?_
   clear F ac
   rintro e w55 ⟨rfl, g⟩
   refine ⟨_, rfl, ?_⟩
   intro ac F
   replace G := G.trans g
   replace hC := hC.gr g
   replace hnd := hnd.gr g
   replace hl := hl.gr g
   replace hr32 := hr32.gr g
   replace he32 := he32.gr g
   replace hr34 := hr34.gr g
   replace he34 := he34.gr g
   replace hk40 := hk40.gr g
   replace hk42 := hk42.gr g
   clear g
   refine Y.pv F (X.pickT rfl (F.e 114 rfl) (F.e 115 rfl)) ?_;clear F ac;intro ac F
   refine Y.pv F (X.assign rfl (F.e 116 rfl)) ?_;clear F ac;intro ac F
   refine Y.nil ?_
   replace F : Fr ac 117 [(6, .bool true)] := F.sub _
   refine X.thenN ?_
   refine Y.ret ?_
   exact Y.ret0 (v := .bool true) F (Y.rs1 F rfl (by kernel_rfl)) ⟨rfl, G⟩
  | true =>
   try rw [h30] at F
   have h30p : ((t : Int) ≤ 1000) := of_decide_eq_true h30
   refine Y.condT (F.e 24 rfl) ?_
   refine Y.seq ?_
   refine Y.lit (by kernel_rfl) ?_
   refine Y.pcall F (X.w0 rfl) rfl (X.enter (F := 16) rfl (X.kc (.func (.func 16) #[] #[]) rfl) rfl (enters_of Try.func16 (by kernel_rfl) rfl _)) (works_any w3) ?_
   clear F ac
   rintro e w57 ⟨rfl, g⟩
   refine ⟨_, rfl, ?_⟩
   intro ac F
   replace G := G.trans g
   replace hC := hC.gr g
   replace hnd := hnd.gr g
   replace hl := hl.gr g
   clear g
   refine Y.pv F (X.assign rfl (F.e 25 rfl)) ?_;clear F ac;intro ac F
   refine Y.nil ?_
   replace F : Fr ac 117 [(6, .bool true)] := F.sub _
   refine X.thenN ?_
   refine Y.ret ?_
   refine X.thenR ?_
   exact Y.ret0 (v := .bool true) F (Y.rs1 F rfl (by kernel_rfl)) ⟨rfl, G⟩
end
end Go.Proofs.Ytoalamakhjbedaa
