/- Several texts of this claim in one file. (1) Contract: Fail. (2) Contract: sameInts. (3) Contract: the look at the examples. -/
import Derived.Test.YtoalamakhjbedaaBd11
import Derived.Test.YtoalamakhjbedaaBd14
import Derived.Test.YtoalamakhjbedaaBd4
import Derived.Test.YtoalamakhjbedaaBd15
namespace Go.Proofs.Ytoalamakhjbedaa
section
open Go.RowKit

/-- a node is asleep though it is asked for -/
def failP (nd : List (List Int)) (asked rows : List Int) (k i : Nat) : Bool := andV (cv nd i 0) (asked[k]?.getD 0) != 0 && andV (shrV (rows[k]?.getD 0) i) 1 == 0
/-- the first such tick and node -/
def FailIs (p : Nat → Nat → Bool) (T n : Nat) (a b : Int) : Prop :=
  (a = -1 ∧ b = -1 ∧ ∀ k, k < T → ∀ i, i < n → p k i = false) ∨ ∃ k i : Nat, a = k ∧ b = i ∧ k < T ∧ i < n ∧ p k i = true ∧ (∀ i2, i2 < i → p k i2 = false) ∧ ∀ k2, k2 < k → ∀ i2, i2 < n → p k2 i2 = false

set_option maxRecDepth 100000 in
set_option maxHeartbeats 1000000 in
theorem fail_any (na la : Option Addr) (n nc m lc : Nat) (gr hold t : Int) (nd l : List (List Int)) (w : World) (hnd : StAt w 5 na n nd) (hl : StAt w 4 la m l) :
  Calls Try.prog 29 #[.agg #[.int .i64 gr, .int .i64 hold, .slice na n nc], .int .i64 t, .slice la m lc] w fun e w' => ∃ a b : Int, e = .returned (.tuple #[.int .i64 a, .int .i64 b, .int .i64 (playE gr hold nd t l)]) ∧ (¬ playE gr hold nd t l = 0 → a = 0 ∧ b = 0) ∧ (playE gr hold nd t l = 0 → FailIs (failP nd (playAsk gr hold nd t l) (playRows gr hold nd t l)) t.toNat n a b) ∧ Gr w w' := by
 have G := Gr.refl w
 have hnd0 := hnd
 have hl0 := hl
 have hlm := hl.lt
 have hlnn := hnd.lt
 refine Y.calls 66 Try.func29 rfl rfl ?_
 intro ac F0
 have F : Fr ac 66 [(0, .agg #[.int .i64 gr, .int .i64 hold, .slice na n nc]), (1, .int .i64 t), (2, .slice la m lc)] := F0.sub _
 clear F0
 refine Y.seq ?_
 refine Y.lit (by kernel_rfl) ?_
 refine Y.pval F (X.w0 rfl) rfl (X.box rfl (F.ev 0 (.agg #[.int .i64 gr, .int .i64 hold, .slice na n nc])) X.bx) ?_
 clear F ac
 intro ac F
 have g := Gr.alloc w (.cells #[.int .i64 gr, .int .i64 hold, .slice na n nc] 24)
 have hb := heap_alloc_new w (.cells #[.int .i64 gr, .int .i64 hold, .slice na n nc] 24)
 have hbl : w.heap.size < (w.alloc (.cells #[.int .i64 gr, .int .i64 hold, .slice na n nc] 24)).heap.size := by simp
 have hC2 : RCells (w.alloc (.cells #[.int .i64 gr, .int .i64 hold, .slice na n nc] 24)) [(⟨w.heap.size, 0, none⟩, .int .i64 gr), (⟨w.heap.size, 1, none⟩, .int .i64 hold), (⟨w.heap.size, 2, none⟩, .slice na n nc)] := (RCells.nil w).box (b := w.heap.size) #[.int .i64 gr, .int .i64 hold, .slice na n nc] 24 rfl
 generalize w.alloc (.cells #[.int .i64 gr, .int .i64 hold, .slice na n nc] 24) = w3 at *
 replace G := G.trans g
 have hC := hC2
 clear hC2
 replace hnd := hnd.gr g
 replace hl := hl.gr g
 clear g hb hbl
 have hC0 := hC
 refine Y.pval F (X.w0 rfl) rfl (X.assign rfl (X.kc (.int .i64 0) rfl)) ?_
 clear F ac
 intro ac F
 refine Y.pval F (X.w0 rfl) rfl (X.assign rfl (X.kc (.int .i64 0) rfl)) ?_
 clear F ac
 intro ac F
 refine Y.pval F (X.w0 rfl) rfl (X.assign rfl (X.kc (.int .i64 0) rfl)) ?_
 clear F ac
 intro ac F
 refine Y.nil ?_
 replace F : Fr ac 66 [(0, .agg #[.int .i64 gr, .int .i64 hold, .slice na n nc]), (1, .int .i64 t), (2, .slice la m lc), (3, .pointer (some ⟨w.heap.size, 0, none⟩)), (6, .int .i64 0), (7, .int .i64 0), (8, .int .i64 0)] := F.sub _
 refine X.thenN ?_
 refine Y.seq ?_
 refine Y.lit (by kernel_rfl) ?_
 refine Y.pval F (X.w0 rfl) rfl (X.load rfl (F.ev 3 (.pointer (some ⟨w.heap.size, 0, none⟩))) (X.ldN (Try.agg24 _) (Try.siz24 _) (Y.atz (⟨w.heap.size, 0, none⟩) (Y.AtFrom.cons (hC.at 0 rfl) (Y.AtFrom.cons (hC.at 1 rfl) (Y.AtFrom.cons (hC.at 2 rfl) (Y.AtFrom.nil _ _ _))))))) ?_
 clear F ac
 intro ac F
 refine Y.pval F (X.w0 rfl) rfl (X.move rfl (F.ev 1 (.int .i64 t))) ?_
 clear F ac
 intro ac F
 refine Y.pval F (X.w0 rfl) rfl (X.move rfl (F.ev 2 (.slice la m lc))) ?_
 clear F ac
 intro ac F
 by_cases hE : playE gr hold nd t l = 0
 ·have hE := hE
  refine Y.pcall F (X.w0 rfl) rfl (X.enter (F := 44) rfl (X.kc (.func (.func 44) #[] #[]) rfl) (X.a3 (F.ev 17 (.agg #[.int .i64 gr, .int .i64 hold, .slice na n nc])) (F.ev 18 (.int .i64 t)) (F.ev 19 (.slice la m lc))) (enters_of Try.func44 (by kernel_rfl) rfl _)) (begin_any na la n nc m lc gr hold t nd l w3 hnd hl) ?_
  clear F ac
  rintro e w5 ⟨-, g, h0⟩
  obtain ⟨bp, rfl, hBg⟩ := h0 hE
  clear h0
  refine ⟨_, rfl, ?_⟩
  intro ac F
  have hBsz : w3.heap.size = w3.heap.size := rfl
  replace G := G.trans g
  replace hC := hC.gr g
  replace hnd := hnd.gr g
  replace hl := hl.gr g
  clear g
  refine Y.pval F (X.w0 rfl) rfl (X.move rfl (F.ev 20 (.tuple #[.pointer (some ⟨bp, 0, none⟩), .int .i64 0]))) ?_
  clear F ac
  intro ac F
  refine Y.pval F (X.w0 rfl) rfl (X.extract rfl (F.ev 16 (.tuple #[.pointer (some ⟨bp, 0, none⟩), .int .i64 0])) rfl) ?_
  clear F ac
  intro ac F
  refine Y.pval F (X.w0 rfl) rfl (X.extract rfl (F.ev 16 (.tuple #[.pointer (some ⟨bp, 0, none⟩), .int .i64 0])) rfl) ?_
  clear F ac
  intro ac F
  refine Y.pval F (X.w0 rfl) rfl (X.assign rfl (F.ev 21 (.pointer (some ⟨bp, 0, none⟩)))) ?_
  clear F ac
  intro ac F
  refine Y.pval F (X.w0 rfl) rfl (X.assign rfl (F.ev 22 (.int .i64 0))) ?_
  clear F ac
  intro ac F
  refine Y.nil ?_
  replace F : Fr ac 66 [(0, .agg #[.int .i64 gr, .int .i64 hold, .slice na n nc]), (1, .int .i64 t), (2, .slice la m lc), (3, .pointer (some ⟨w.heap.size, 0, none⟩)), (6, .int .i64 0), (7, .int .i64 0), (8, .int .i64 0), (9, .pointer (some ⟨bp, 0, none⟩))] := F.sub _
  refine X.thenN ?_
  refine Y.seq ?_
  refine Y.seq ?_
  refine Y.lit (by kernel_rfl) ?_
  refine Y.pval F (X.w0 rfl) rfl (X.move rfl (F.ev 8 (.int .i64 0))) ?_
  clear F ac
  intro ac F
  refine Y.pval F (X.w0 rfl) rfl (X.binop rfl (F.ev 23 (.int .i64 0)) (X.kc (.int .i64 0) rfl) (X.neqI Try.underlying26 (show ((0 : Int) != 0) = false by simp))) ?_
  clear F ac
  intro ac F
  refine Y.nil ?_
  replace F : Fr ac 66 [(0, .agg #[.int .i64 gr, .int .i64 hold, .slice na n nc]), (1, .int .i64 t), (2, .slice la m lc), (3, .pointer (some ⟨w.heap.size, 0, none⟩)), (6, .int .i64 0), (7, .int .i64 0), (8, .int .i64 0), (9, .pointer (some ⟨bp, 0, none⟩)), (24, .bool false)] := F.sub _
  refine X.thenN ?_
  refine Y.condF (F.ev 24 (.bool false)) ?_
  refine Y.skip ?_
  refine X.thenN ?_
  refine Y.seq ?_
  refine Y.lit (by kernel_rfl) ?_
  refine Y.pval F (X.w0 rfl) rfl (X.move rfl (F.ev 9 (.pointer (some ⟨bp, 0, none⟩)))) ?_
  clear F ac
  intro ac F
  refine Y.pval F (X.w0 rfl) rfl (X.move rfl (F.ev 1 (.int .i64 t))) ?_
  clear F ac
  intro ac F
  have hok := playE_ok hE
  have hc := hok.c
  have ht0 := hok.t0
  have ht1 := hok.t1
  have hln := hnd.len
  have h16 : n ≤ 16 := by have := hc.n16; omega
  obtain ⟨bn, pa, cap, hP, hS⟩ := hBg
  have hpb := hP.pb
  have hnb := hP.nb
  have hg1 := hc.g1
  have hg8 := hc.g8
  have hSO : SOk n (startS nd) := by have := SOk.start hc; rwa [hln] at this
  have htt : t = ((t.toNat : Nat) : Int) := by omega
  have hgw := G.size
  have hnu : ∀ x ∈ l, NuOk gr nd t x := fun x hx => by obtain ⟨i, hi, rfl⟩ := List.getElem_of_mem hx; have := hok.nu i hi; rwa [List.getElem?_eq_getElem hi] at this
  refine Y.pcall F (X.w0 rfl) rfl (X.enter (F := 45) rfl (X.kc (.func (.func 45) #[] #[]) rfl) (X.a2 (F.ev 27 (.pointer (some ⟨bp, 0, none⟩))) (F.ev 28 (.int .i64 t))) (enters_of Try.func45 (by kernel_rfl) rfl _)) (by have h := run_any w3 w5 bp bn gr hold na la pa n nc m lc cap l (startS nd) t.toNat hP hS h16 ⟨nd, t, hln, hg8, hnu⟩ hSO hc.h1 hc.h100 (by omega) (by omega); rw [← htt] at h; exact h) ?_
  clear F ac
  rintro e w6 ⟨v1, v2, rfl, hon, -, hO1, hO2⟩
  refine ⟨_, rfl, ?_⟩
  intro ac F
  have hcb : w.heap.size < w3.heap.size := lt_cell (hC0.at 0 rfl)
  replace hC : RCells w6 [(⟨w.heap.size, 0, none⟩, .int .i64 gr), (⟨w.heap.size, 1, none⟩, .int .i64 hold), (⟨w.heap.size, 2, none⟩, .slice na n nc)] := (RCells.cons (hon.cell (hC.at 0 rfl) (by show ¬ w.heap.size = bn; omega)) (RCells.cons (hon.cell (hC.at 1 rfl) (by show ¬ w.heap.size = bn; omega)) (RCells.cons (hon.cell (hC.at 2 rfl) (by show ¬ w.heap.size = bn; omega)) (RCells.nil _))))
  replace G := Y.Only.up G hon (by omega)
  replace hnd := hnd0.gr G
  replace hl := hl0.gr G
  clear hon hS hP
  obtain ⟨aa, ac1, rfl, hIa, hIab⟩ := hO1.intsN (runFrom_len t.toNat).1 (by omega)
  obtain ⟨ra, rc, rfl, hIr, hIrb⟩ := hO2.intsN (runFrom_len t.toNat).2 (by omega)
  clear hO1 hO2
  refine Y.pval F (X.w0 rfl) rfl (X.move rfl (F.ev 29 (.tuple #[.slice aa t.toNat ac1, .slice ra t.toNat rc]))) ?_
  clear F ac
  intro ac F
  refine Y.pval F (X.w0 rfl) rfl (X.extract rfl (F.ev 26 (.tuple #[.slice aa t.toNat ac1, .slice ra t.toNat rc])) rfl) ?_
  clear F ac
  intro ac F
  refine Y.pval F (X.w0 rfl) rfl (X.extract rfl (F.ev 26 (.tuple #[.slice aa t.toNat ac1, .slice ra t.toNat rc])) rfl) ?_
  clear F ac
  intro ac F
  refine Y.pval F (X.w0 rfl) rfl (X.assign rfl (F.ev 30 (.slice aa t.toNat ac1))) ?_
  clear F ac
  intro ac F
  refine Y.pval F (X.w0 rfl) rfl (X.assign rfl (F.ev 31 (.slice ra t.toNat rc))) ?_
  clear F ac
  intro ac F
  refine Y.nil ?_
  replace F : Fr ac 66 [(0, .agg #[.int .i64 gr, .int .i64 hold, .slice na n nc]), (1, .int .i64 t), (2, .slice la m lc), (3, .pointer (some ⟨w.heap.size, 0, none⟩)), (6, .int .i64 0), (7, .int .i64 0), (8, .int .i64 0), (9, .pointer (some ⟨bp, 0, none⟩)), (10, .slice aa t.toNat ac1), (11, .slice ra t.toNat rc), (24, .bool false)] := F.sub _
  refine X.thenN ?_
  refine Y.seq ?_
  refine Y.seq ?_
  refine Y.lit (by kernel_rfl) ?_
  refine Y.pval F (X.w0 rfl) rfl (X.move rfl (F.ev 11 (.slice ra t.toNat rc))) ?_
  clear F ac
  intro ac F
  refine Y.pval F (X.w0 rfl) rfl (X.len1 Try.underlying34 rfl (F.ev 32 (.slice ra t.toNat rc))) ?_
  clear F ac
  intro ac F
  refine Y.pval F (X.w0 rfl) rfl (X.move rfl (X.kc (.int .i64 0) rfl)) ?_
  clear F ac
  intro ac F
  refine Y.nil ?_
  replace F : Fr ac 66 [(0, .agg #[.int .i64 gr, .int .i64 hold, .slice na n nc]), (1, .int .i64 t), (2, .slice la m lc), (3, .pointer (some ⟨w.heap.size, 0, none⟩)), (6, .int .i64 0), (7, .int .i64 0), (8, .int .i64 0), (9, .pointer (some ⟨bp, 0, none⟩)), (10, .slice aa t.toNat ac1), (11, .slice ra t.toNat rc), (24, .bool false), (32, .slice ra t.toNat rc), (33, .int .i64 t.toNat), (34, .int .i64 0)] := F.sub _
  refine X.thenN ?_
  refine Y.block ?_
  have hndB := hnd
  have hlB := hl
  have hIaB := hIa
  have hIrB := hIr
  have hCB := hC
  have GB := G
  refine Y.loop (fun me_ ac wr => ∃ (k : Nat), me_ = t.toNat - k ∧ Gr w6 wr ∧ k ≤ t.toNat ∧ (∀ k2, k2 < k → ∀ i, i < n → failP nd (runFrom hold gr.toNat n l (startS nd) t.toNat).asked (runFrom hold gr.toNat n l (startS nd) t.toNat).rows k2 i = false) ∧ Fr ac 66 [(0, .agg #[.int .i64 gr, .int .i64 hold, .slice na n nc]), (1, .int .i64 t), (2, .slice la m lc), (3, .pointer (some ⟨w.heap.size, 0, none⟩)), (9, .pointer (some ⟨bp, 0, none⟩)), (10, .slice aa t.toNat ac1), (11, .slice ra t.toNat rc), (24, .bool false), (32, .slice ra t.toNat rc), (33, .int .i64 t.toNat), (34, .int .i64 k)]) _ ⟨0, rfl, Gr.refl _, Nat.zero_le _, fun k2 h => absurd h (Nat.not_lt_zero _), F.sub _⟩ ?_
  clear F
  intro me_ ac w7 hI
  obtain ⟨k, rfl, gr, hk, hno, F⟩ := hI
  replace G := GB.trans gr
  replace hC := hCB.gr gr
  replace hnd := hndB.gr gr
  replace hl := hlB.gr gr
  replace hIa := hIaB.gr gr
  replace hIr := hIrB.gr gr
  have GB_ := gr
  clear gr
  refine Y.seq ?_
  refine Y.lit (by kernel_rfl) ?_
  refine Y.pval F (X.w0 rfl) rfl (X.binop rfl (F.ev 34 (.int .i64 k)) (F.ev 33 (.int .i64 t.toNat)) (X.lssI Try.underlying3 rfl)) ?_
  clear F ac
  intro ac F
  refine Y.nil ?_
  replace F : Fr ac 66 [(0, .agg #[.int .i64 gr, .int .i64 hold, .slice na n nc]), (1, .int .i64 t), (2, .slice la m lc), (3, .pointer (some ⟨w.heap.size, 0, none⟩)), (9, .pointer (some ⟨bp, 0, none⟩)), (10, .slice aa t.toNat ac1), (11, .slice ra t.toNat rc), (24, .bool false), (32, .slice ra t.toNat rc), (33, .int .i64 t.toNat), (34, .int .i64 k), (35, .bool (decide ((k : Int) < t.toNat)))] := F.sub _
  refine X.thenN ?_
  refine Y.seq ?_
  cases h8 : decide ((k : Int) < t.toNat) with
  | false =>
   try rw [h8] at F
   have h8p : ¬ ((k : Int) < t.toNat) := of_decide_eq_false h8
   have hrl := (runFrom_len (n := n) (gr := gr.toNat) (s := startS nd) (hold := hold) (l := l) t.toNat)
   have hkt : k = t.toNat := by omega
   subst hkt
   refine Y.condF (F.ev 35 (.bool false)) ?_
   refine Y.exit ?_
   refine X.thenX ?_
   refine X.thenX ?_
   refine X.blockX ?_
   refine X.thenN ?_
   refine Y.seq ?_
   refine Y.lit (by kernel_rfl) ?_
   refine Y.pval F (X.w0 rfl) rfl (X.assign rfl (X.kc (.int .i64 (-1)) rfl)) ?_
   clear F ac
   intro ac F
   refine Y.pval F (X.w0 rfl) rfl (X.assign rfl (X.kc (.int .i64 (-1)) rfl)) ?_
   clear F ac
   intro ac F
   refine Y.pval F (X.w0 rfl) rfl (X.assign rfl (X.kc (.int .i64 0) rfl)) ?_
   clear F ac
   intro ac F
   refine Y.nil ?_
   replace F : Fr ac 66 [(0, .agg #[.int .i64 gr, .int .i64 hold, .slice na n nc]), (1, .int .i64 t), (2, .slice la m lc), (3, .pointer (some ⟨w.heap.size, 0, none⟩)), (6, .int .i64 (-1)), (7, .int .i64 (-1)), (8, .int .i64 0), (9, .pointer (some ⟨bp, 0, none⟩)), (10, .slice aa t.toNat ac1), (11, .slice ra t.toNat rc), (24, .bool false), (32, .slice ra t.toNat rc), (33, .int .i64 t.toNat), (34, .int .i64 t.toNat), (35, .bool false)] := F.sub _
   refine X.thenN ?_
   refine Y.ret ?_
   have e1 : playAsk gr hold nd t l = (runFrom hold gr.toNat n l (startS nd) t.toNat).asked := by unfold playAsk playR; rw [if_pos hE, hln]
   have e2 : playRows gr hold nd t l = (runFrom hold gr.toNat n l (startS nd) t.toNat).rows := by unfold playRows playR; rw [if_pos hE, hln]
   exact Y.ret0 (v := .tuple #[.int .i64 (-1), .int .i64 (-1), .int .i64 0]) F (Y.rs3 F rfl (by kernel_rfl) (by kernel_rfl) (by kernel_rfl)) ⟨_, _, by rw [hE], fun h => absurd hE h, fun _ => .inl ⟨rfl, rfl, by rw [e1, e2]; exact hno⟩, G⟩
  | true =>
   try rw [h8] at F
   have h8p : ((k : Int) < t.toNat) := of_decide_eq_true h8
   have hrl := (runFrom_len (n := n) (gr := gr.toNat) (s := startS nd) (hold := hold) (l := l) t.toNat)
   have hk2 : k < t.toNat := by omega
   refine Y.condT (F.ev 35 (.bool true)) ?_
   refine Y.skip ?_
   refine X.thenN ?_
   refine Y.seq ?_
   refine Y.block ?_
   refine Y.seq ?_
   refine Y.lit (by kernel_rfl) ?_
   refine Y.pval F (X.w0 rfl) rfl (X.move rfl (F.ev 34 (.int .i64 k))) ?_
   clear F ac
   intro ac F
   obtain ⟨pd9, pe9, -, pc9⟩ := hIr.at (j := k) (by omega)
   subst pe9
   replace hC : RCells w7 [(⟨w.heap.size, 0, none⟩, .int .i64 gr), (⟨w.heap.size, 1, none⟩, .int .i64 hold), (⟨w.heap.size, 2, none⟩, .slice na n nc), (pd9.add k, .int .i64 (((runFrom hold gr.toNat n l (startS nd) t.toNat).rows)[k]?.getD 0))] := hC.append ((RCells.cons pc9 (RCells.nil _)))
   clear pc9
   refine Y.pval F (X.w0 rfl) rfl (X.index rfl (F.ev 32 (.slice (some pd9) t.toNat rc)) (F.ev 34 (.int .i64 k)) (X.idx (k := k) Try.underlying34 (Try.siz3 _) (by omega) (by omega) (by rw [Nat.mul_one]))) ?_
   clear F ac
   intro ac F
   refine Y.pval F (X.w0 rfl) rfl (X.load rfl (F.ev 37 (.pointer (some (pd9.add k)))) (X.ld1 (Try.agg3 _) (hC.at 3 rfl))) ?_
   clear F ac
   intro ac F
   refine Y.pval F (X.w0 rfl) rfl (X.assign rfl (F.ev 36 (.int .i64 k))) ?_
   clear F ac
   intro ac F
   refine Y.pval F (X.w0 rfl) rfl (X.assign rfl (F.ev 38 (.int .i64 (((runFrom hold gr.toNat n l (startS nd) t.toNat).rows)[k]?.getD 0)))) ?_
   clear F ac
   intro ac F
   refine Y.nil ?_
   replace F : Fr ac 66 [(0, .agg #[.int .i64 gr, .int .i64 hold, .slice na n nc]), (1, .int .i64 t), (2, .slice la m lc), (3, .pointer (some ⟨w.heap.size, 0, none⟩)), (9, .pointer (some ⟨bp, 0, none⟩)), (10, .slice aa t.toNat ac1), (11, .slice (some pd9) t.toNat rc), (12, .int .i64 k), (13, .int .i64 (((runFrom hold gr.toNat n l (startS nd) t.toNat).rows)[k]?.getD 0)), (24, .bool false), (32, .slice (some pd9) t.toNat rc), (33, .int .i64 t.toNat), (34, .int .i64 k), (35, .bool true)] := F.sub _
   refine X.thenN ?_
   refine Y.seq ?_
   refine Y.lit (by kernel_rfl) ?_
   refine Y.pval F (X.w0 rfl) rfl (X.field rfl (F.ev 3 (.pointer (some ⟨w.heap.size, 0, none⟩))) (X.fld Try.underlying24 rfl (Try.siz22 _) rfl rfl)) ?_
   clear F ac
   intro ac F
   refine Y.pval F (X.w0 rfl) rfl (X.load rfl (F.ev 39 (.pointer (some ⟨w.heap.size, 2, none⟩))) (X.ld1 (Try.agg22 _) (hC.at 2 rfl))) ?_
   clear F ac
   intro ac F
   refine Y.pval F (X.w0 rfl) rfl (X.len1 Try.underlying22 rfl (F.ev 40 (.slice na n nc))) ?_
   clear F ac
   intro ac F
   refine Y.pval F (X.w0 rfl) rfl (X.move rfl (X.kc (.int .i64 0) rfl)) ?_
   clear F ac
   intro ac F
   refine Y.nil ?_
   replace F : Fr ac 66 [(0, .agg #[.int .i64 gr, .int .i64 hold, .slice na n nc]), (1, .int .i64 t), (2, .slice la m lc), (3, .pointer (some ⟨w.heap.size, 0, none⟩)), (9, .pointer (some ⟨bp, 0, none⟩)), (10, .slice aa t.toNat ac1), (11, .slice (some pd9) t.toNat rc), (12, .int .i64 k), (13, .int .i64 (((runFrom hold gr.toNat n l (startS nd) t.toNat).rows)[k]?.getD 0)), (24, .bool false), (32, .slice (some pd9) t.toNat rc), (33, .int .i64 t.toNat), (34, .int .i64 k), (35, .bool true), (40, .slice na n nc), (41, .int .i64 n), (42, .int .i64 0)] := F.sub _
   refine X.thenN ?_
   refine Y.block ?_
   have hndBB := hnd
   have hlBB := hl
   have hIaBB := hIa
   have hIrBB := hIr
   have hCBB := hC
   have GBB := G
   refine Y.loop (fun me_ ac wr => ∃ (i : Nat), me_ = n - i ∧ Gr w7 wr ∧ i ≤ n ∧ (∀ i2, i2 < i → failP nd (runFrom hold gr.toNat n l (startS nd) t.toNat).asked (runFrom hold gr.toNat n l (startS nd) t.toNat).rows k i2 = false) ∧ Fr ac 66 [(0, .agg #[.int .i64 gr, .int .i64 hold, .slice na n nc]), (1, .int .i64 t), (2, .slice la m lc), (3, .pointer (some ⟨w.heap.size, 0, none⟩)), (9, .pointer (some ⟨bp, 0, none⟩)), (10, .slice aa t.toNat ac1), (11, .slice (some pd9) t.toNat rc), (12, .int .i64 k), (13, .int .i64 (((runFrom hold gr.toNat n l (startS nd) t.toNat).rows)[k]?.getD 0)), (24, .bool false), (32, .slice (some pd9) t.toNat rc), (33, .int .i64 t.toNat), (34, .int .i64 k), (35, .bool true), (40, .slice na n nc), (41, .int .i64 n), (42, .int .i64 i)]) _ ⟨0, rfl, Gr.refl _, Nat.zero_le _, fun i2 h => absurd h (Nat.not_lt_zero _), F.sub _⟩ ?_
   clear F
   intro me_ ac w10 hI
   obtain ⟨i, rfl, gr, hi, hni, F⟩ := hI
   replace G := GBB.trans gr
   replace hC := hCBB.gr gr
   replace hnd := hndBB.gr gr
   replace hl := hlBB.gr gr
   replace hIa := hIaBB.gr gr
   replace hIr := hIrBB.gr gr
   replace GB_ := GB_.trans gr
   have GBB_ := gr
   clear gr
   refine Y.seq ?_
   refine Y.lit (by kernel_rfl) ?_
   refine Y.pval F (X.w0 rfl) rfl (X.binop rfl (F.ev 42 (.int .i64 i)) (F.ev 41 (.int .i64 n)) (X.lssI Try.underlying3 rfl)) ?_
   clear F ac
   intro ac F
   refine Y.nil ?_
   replace F : Fr ac 66 [(0, .agg #[.int .i64 gr, .int .i64 hold, .slice na n nc]), (1, .int .i64 t), (2, .slice la m lc), (3, .pointer (some ⟨w.heap.size, 0, none⟩)), (9, .pointer (some ⟨bp, 0, none⟩)), (10, .slice aa t.toNat ac1), (11, .slice (some pd9) t.toNat rc), (12, .int .i64 k), (13, .int .i64 (((runFrom hold gr.toNat n l (startS nd) t.toNat).rows)[k]?.getD 0)), (24, .bool false), (32, .slice (some pd9) t.toNat rc), (33, .int .i64 t.toNat), (34, .int .i64 k), (35, .bool true), (40, .slice na n nc), (41, .int .i64 n), (42, .int .i64 i), (43, .bool (decide ((i : Int) < n)))] := F.sub _
   refine X.thenN ?_
   refine Y.seq ?_
   cases h11 : decide ((i : Int) < n) with
   | false =>
    try rw [h11] at F
    have h11p : ¬ ((i : Int) < n) := of_decide_eq_false h11
    obtain rfl : n = i := by omega
    refine Y.condF (F.ev 43 (.bool false)) ?_
    refine Y.exit ?_
    refine X.thenX ?_
    refine X.thenX ?_
    refine X.blockX ?_
    refine X.blockN ?_
    refine X.thenN ?_
    refine Y.lit (by kernel_rfl) ?_
    refine Y.pval F (X.w0 rfl) rfl (X.binop rfl (F.ev 34 (.int .i64 k)) (X.kc (.int .i64 1) rfl) (X.addI Try.underlying3 rfl (by omega) (by omega))) ?_
    clear F ac
    intro ac F
    refine Y.pval F (X.w0 rfl) rfl (X.move rfl (F.ev 65 (.int .i64 ((k : Int) + 1)))) ?_
    clear F ac
    intro ac F
    refine Y.nil ?_
    replace F : Fr ac 66 [(0, .agg #[.int .i64 gr, .int .i64 hold, .slice na n nc]), (1, .int .i64 t), (2, .slice la m lc), (3, .pointer (some ⟨w.heap.size, 0, none⟩)), (9, .pointer (some ⟨bp, 0, none⟩)), (10, .slice aa t.toNat ac1), (11, .slice (some pd9) t.toNat rc), (12, .int .i64 k), (13, .int .i64 (((runFrom hold gr.toNat n l (startS nd) t.toNat).rows)[k]?.getD 0)), (24, .bool false), (32, .slice (some pd9) t.toNat rc), (33, .int .i64 t.toNat), (34, .int .i64 ((k : Int) + 1)), (35, .bool true), (40, .slice na n nc), (41, .int .i64 n), (42, .int .i64 n), (43, .bool false)] := F.sub _
    refine X.thenN ?_
    refine ⟨_, ?_, k + 1, rfl, GB_, by omega, (fun k2 h i hi => by
     rcases Nat.lt_succ_iff_lt_or_eq.1 h with h | rfl
     ·exact hno k2 h i hi
     ·exact hni i hi), F.sub _⟩
    omega
   | true =>
    try rw [h11] at F
    have h11p : ((i : Int) < n) := of_decide_eq_true h11
    have hi2 : i < n := by omega
    refine Y.condT (F.ev 43 (.bool true)) ?_
    refine Y.skip ?_
    refine X.thenN ?_
    refine Y.seq ?_
    refine Y.block ?_
    refine Y.seq ?_
    refine Y.lit (by kernel_rfl) ?_
    refine Y.pval F (X.w0 rfl) rfl (X.move rfl (F.ev 42 (.int .i64 i))) ?_
    clear F ac
    intro ac F
    obtain ⟨pd12, pe12, -, -, pc12⟩ := hnd.at (j := i) (by omega)
    subst pe12
    replace hC : RCells w10 [(⟨w.heap.size, 0, none⟩, .int .i64 gr), (⟨w.heap.size, 1, none⟩, .int .i64 hold), (⟨w.heap.size, 2, none⟩, .slice (some pd12) n nc), (pd9.add k, .int .i64 (((runFrom hold gr.toNat n l (startS nd) t.toNat).rows)[k]?.getD 0)), (pd12.add (i * 5), .int .i64 (cv nd i 0)), (⟨(pd12.add (i * 5)).block, (pd12.add (i * 5)).off + 1, none⟩, .int .i64 (cv nd i 1)), (⟨(pd12.add (i * 5)).block, (pd12.add (i * 5)).off + 2, none⟩, .int .i64 (cv nd i 2)), (⟨(pd12.add (i * 5)).block, (pd12.add (i * 5)).off + 3, none⟩, .int .i64 (cv nd i 3)), (⟨(pd12.add (i * 5)).block, (pd12.add (i * 5)).off + 4, none⟩, .int .i64 (cv nd i 4))] := hC.append ((RCells.cons (pc12 0 (by decide)) (RCells.cons (pc12 1 (by decide)) (RCells.cons (pc12 2 (by decide)) (RCells.cons (pc12 3 (by decide)) (RCells.cons (pc12 4 (by decide)) (RCells.nil _)))))))
    clear pc12
    refine Y.pval F (X.w0 rfl) rfl (X.index rfl (F.ev 40 (.slice (some pd12) n nc)) (F.ev 42 (.int .i64 i)) (X.idx (k := i) Try.underlying22 (Try.siz31 _) (by omega) (by omega) rfl)) ?_
    clear F ac
    intro ac F
    refine Y.pval F (X.w0 rfl) rfl (X.load rfl (F.ev 45 (.pointer (some (pd12.add (i * 5))))) (X.ldN (Try.agg31 _) (Try.siz31 _) (Y.atz (pd12.add (i * 5)) (Y.AtFrom.cons (hC.at 4 rfl) (Y.AtFrom.cons (hC.at 5 rfl) (Y.AtFrom.cons (hC.at 6 rfl) (Y.AtFrom.cons (hC.at 7 rfl) (Y.AtFrom.cons (hC.at 8 rfl) (Y.AtFrom.nil _ _ _))))))))) ?_
    clear F ac
    intro ac F
    refine Y.pval F (X.w0 rfl) rfl (Y.al rfl (Try.new31 _)) ?_
    clear F ac
    intro ac F
    refine Y.pval F (X.w0 rfl) rfl (X.assign rfl (F.ev 44 (.int .i64 i))) ?_
    clear F ac
    intro ac F
    refine Y.punit F (X.w0 rfl) rfl (X.store rfl (F.ev 15 (.pointer (some ⟨w10.heap.size, 0, none⟩))) (F.ev 46 (.agg #[.int .i64 (cv nd i 0), .int .i64 (cv nd i 1), .int .i64 (cv nd i 2), .int .i64 (cv nd i 3), .int .i64 (cv nd i 4)])) (Y.stNew [.int .i64 (cv nd i 0), .int .i64 (cv nd i 1), .int .i64 (cv nd i 2), .int .i64 (cv nd i 3), .int .i64 (cv nd i 4)] [.int .i64 0, .int .i64 0, .int .i64 0, .int .i64 0, .int .i64 0] (Try.siz31 _) rfl rfl)) ?_
    clear F ac
    intro ac F
    have hq13 : w.heap.size < w10.heap.size := lt_cell (hC.at 0 rfl)
    have g := Gr.alloc w10 (.cells #[.int .i64 (cv nd i 0), .int .i64 (cv nd i 1), .int .i64 (cv nd i 2), .int .i64 (cv nd i 3), .int .i64 (cv nd i 4)] 31)
    have hb := heap_alloc_new w10 (.cells #[.int .i64 (cv nd i 0), .int .i64 (cv nd i 1), .int .i64 (cv nd i 2), .int .i64 (cv nd i 3), .int .i64 (cv nd i 4)] 31)
    have hbl : w10.heap.size < (w10.alloc (.cells #[.int .i64 (cv nd i 0), .int .i64 (cv nd i 1), .int .i64 (cv nd i 2), .int .i64 (cv nd i 3), .int .i64 (cv nd i 4)] 31)).heap.size := by simp
    have hC2 : RCells (w10.alloc (.cells #[.int .i64 (cv nd i 0), .int .i64 (cv nd i 1), .int .i64 (cv nd i 2), .int .i64 (cv nd i 3), .int .i64 (cv nd i 4)] 31)) [(⟨w.heap.size, 0, none⟩, .int .i64 gr), (⟨w.heap.size, 1, none⟩, .int .i64 hold), (⟨w.heap.size, 2, none⟩, .slice (some pd12) n nc), (pd9.add k, .int .i64 (((runFrom hold gr.toNat n l (startS nd) t.toNat).rows)[k]?.getD 0)), (pd12.add (i * 5), .int .i64 (cv nd i 0)), (⟨(pd12.add (i * 5)).block, (pd12.add (i * 5)).off + 1, none⟩, .int .i64 (cv nd i 1)), (⟨(pd12.add (i * 5)).block, (pd12.add (i * 5)).off + 2, none⟩, .int .i64 (cv nd i 2)), (⟨(pd12.add (i * 5)).block, (pd12.add (i * 5)).off + 3, none⟩, .int .i64 (cv nd i 3)), (⟨(pd12.add (i * 5)).block, (pd12.add (i * 5)).off + 4, none⟩, .int .i64 (cv nd i 4)), (⟨w10.heap.size, 0, none⟩, .int .i64 (cv nd i 0)), (⟨w10.heap.size, 1, none⟩, .int .i64 (cv nd i 1)), (⟨w10.heap.size, 2, none⟩, .int .i64 (cv nd i 2)), (⟨w10.heap.size, 3, none⟩, .int .i64 (cv nd i 3)), (⟨w10.heap.size, 4, none⟩, .int .i64 (cv nd i 4))] := hC.box (b := w10.heap.size) #[.int .i64 (cv nd i 0), .int .i64 (cv nd i 1), .int .i64 (cv nd i 2), .int .i64 (cv nd i 3), .int .i64 (cv nd i 4)] 31 rfl
    generalize w10.alloc (.cells #[.int .i64 (cv nd i 0), .int .i64 (cv nd i 1), .int .i64 (cv nd i 2), .int .i64 (cv nd i 3), .int .i64 (cv nd i 4)] 31) = w14 at *
    replace G := G.trans g
    replace hC := hC2
    clear hC2
    replace GB_ := GB_.trans g
    replace GBB_ := GBB_.trans g
    replace hnd := hnd.gr g
    replace hl := hl.gr g
    replace hIa := hIa.gr g
    replace hIr := hIr.gr g
    clear g hb hbl
    refine Y.nil ?_
    replace F : Fr ac 66 [(0, .agg #[.int .i64 gr, .int .i64 hold, .slice (some pd12) n nc]), (1, .int .i64 t), (2, .slice la m lc), (3, .pointer (some ⟨w.heap.size, 0, none⟩)), (9, .pointer (some ⟨bp, 0, none⟩)), (10, .slice aa t.toNat ac1), (11, .slice (some pd9) t.toNat rc), (12, .int .i64 k), (13, .int .i64 (((runFrom hold gr.toNat n l (startS nd) t.toNat).rows)[k]?.getD 0)), (14, .int .i64 i), (15, .pointer (some ⟨w10.heap.size, 0, none⟩)), (24, .bool false), (32, .slice (some pd9) t.toNat rc), (33, .int .i64 t.toNat), (34, .int .i64 k), (35, .bool true), (40, .slice (some pd12) n nc), (41, .int .i64 n), (42, .int .i64 i), (43, .bool true)] := F.sub _
    refine X.thenN ?_
    refine Y.seq ?_
    obtain ⟨pd15, pe15, -, pc15⟩ := hIa.at (j := k) (by omega)
    subst pe15
    replace hC : RCells w14 [(⟨w.heap.size, 0, none⟩, .int .i64 gr), (⟨w.heap.size, 1, none⟩, .int .i64 hold), (⟨w.heap.size, 2, none⟩, .slice (some pd12) n nc), (pd9.add k, .int .i64 (((runFrom hold gr.toNat n l (startS nd) t.toNat).rows)[k]?.getD 0)), (pd12.add (i * 5), .int .i64 (cv nd i 0)), (⟨(pd12.add (i * 5)).block, (pd12.add (i * 5)).off + 1, none⟩, .int .i64 (cv nd i 1)), (⟨(pd12.add (i * 5)).block, (pd12.add (i * 5)).off + 2, none⟩, .int .i64 (cv nd i 2)), (⟨(pd12.add (i * 5)).block, (pd12.add (i * 5)).off + 3, none⟩, .int .i64 (cv nd i 3)), (⟨(pd12.add (i * 5)).block, (pd12.add (i * 5)).off + 4, none⟩, .int .i64 (cv nd i 4)), (⟨w10.heap.size, 0, none⟩, .int .i64 (cv nd i 0)), (⟨w10.heap.size, 1, none⟩, .int .i64 (cv nd i 1)), (⟨w10.heap.size, 2, none⟩, .int .i64 (cv nd i 2)), (⟨w10.heap.size, 3, none⟩, .int .i64 (cv nd i 3)), (⟨w10.heap.size, 4, none⟩, .int .i64 (cv nd i 4)), (pd15.add k, .int .i64 (((runFrom hold gr.toNat n l (startS nd) t.toNat).asked)[k]?.getD 0))] := hC.append ((RCells.cons pc15 (RCells.nil _)))
    clear pc15
    cases h16 : ((andV (cv nd i 0 : Int) (((runFrom hold gr.toNat n l (startS nd) t.toNat).asked)[k]?.getD 0 : Int) : Int) != 0) with
    | false =>
     try rw [h16] at F
     have h16p : (andV (cv nd i 0 : Int) (((runFrom hold gr.toNat n l (startS nd) t.toNat).asked)[k]?.getD 0 : Int) : Int) = 0 := by simpa using h16
     refine Y.region F [some (.pointer (some ⟨w10.heap.size, 0, none⟩)), some (.int .i64 (cv nd i 0)), some (.slice (some pd15) t.toNat ac1), some (.int .i64 k), some (.pointer (some (pd15.add k))), some (.int .i64 (((runFrom hold gr.toNat n l (startS nd) t.toNat).asked)[k]?.getD 0)), some (.int .i64 (andV (cv nd i 0 : Int) (((runFrom hold gr.toNat n l (startS nd) t.toNat).asked)[k]?.getD 0 : Int))), some (.bool false), some (.bool false), none, none, none, none, none, some (.bool false)] [] rfl ⟨by kernel_rfl, of_decide_eq_true (by kernel_rfl), by kernel_rfl, by kernel_rfl, by kernel_rfl⟩ ⟨?_, ?_, ?_, ?_, ?_, ?_, ?_, ?_, ?_, ?_, ?_, ?_, ?_, ?_, ?_, trivial⟩ ?_
     ·intro ac done u W Sx hR
      exact X.val (X.w0 rfl) rfl (X.field rfl (Sx.ev 15 (.pointer (some ⟨w10.heap.size, 0, none⟩))) (X.fld Try.underlying31 rfl (Try.siz3 _) rfl rfl)) (hR.step (Gr.refl _) rfl)
     ·intro ac done u W Sx hR
      have g : Gr w14 W := hR.1
      exact X.val (X.w0 rfl) rfl (X.load rfl (Sx.ev 47 (.pointer (some ⟨w10.heap.size, 0, none⟩))) (X.ld1 (Try.agg3 _) ((hC.gr g).at 9 rfl))) (hR.step (Gr.refl _) rfl)
     ·intro ac done u W Sx hR
      exact X.val (X.w0 rfl) rfl (X.move rfl (Sx.ev 10 (.slice (some pd15) t.toNat ac1))) (hR.step (Gr.refl _) rfl)
     ·intro ac done u W Sx hR
      exact X.val (X.w0 rfl) rfl (X.move rfl (Sx.ev 12 (.int .i64 k))) (hR.step (Gr.refl _) rfl)
     ·intro ac done u W Sx hR
      exact X.val (X.w0 rfl) rfl (X.index rfl (Sx.ev 49 (.slice (some pd15) t.toNat ac1)) (Sx.ev 50 (.int .i64 k)) (X.idx (k := k) Try.underlying34 (Try.siz3 _) (by omega) (by omega) (by rw [Nat.mul_one]))) (hR.step (Gr.refl _) rfl)
     ·intro ac done u W Sx hR
      have g : Gr w14 W := hR.1
      exact X.val (X.w0 rfl) rfl (X.load rfl (Sx.ev 51 (.pointer (some (pd15.add k)))) (X.ld1 (Try.agg3 _) ((hC.gr g).at 14 rfl))) (hR.step (Gr.refl _) rfl)
     ·intro ac done u W Sx hR
      exact X.val (X.w0 rfl) rfl (X.binop rfl (Sx.ev 48 (.int .i64 (cv nd i 0))) (Sx.ev 52 (.int .i64 (((runFrom hold gr.toNat n l (startS nd) t.toNat).asked)[k]?.getD 0))) (X.andI Try.underlying3 rfl)) (hR.step (Gr.refl _) rfl)
     ·intro ac done u W Sx hR
      exact X.val (X.w0 rfl) rfl (X.binop rfl (Sx.ev 53 (.int .i64 (andV (cv nd i 0 : Int) (((runFrom hold gr.toNat n l (startS nd) t.toNat).asked)[k]?.getD 0 : Int)))) (X.kc (.int .i64 0) rfl) (X.neqI Try.underlying3 h16)) (hR.step (Gr.refl _) rfl)
     ·intro ac done u W Sx hR
      exact X.val (X.w0 rfl) rfl (X.move rfl (Sx.ev 54 (.bool false))) (hR.step (Gr.refl _) rfl)
     ·intro ac done u W Sx hR
      exact X.skip (X.w2 rfl (Sx.yl 8 55 false (by kernel_rfl) rfl rfl) rfl) rfl (hR.skip rfl)
     ·intro ac done u W Sx hR
      exact X.skip (X.w2 rfl (Sx.yl 8 55 false (by kernel_rfl) rfl rfl) rfl) rfl (hR.skip rfl)
     ·intro ac done u W Sx hR
      exact X.skip (X.w2 rfl (Sx.yl 8 55 false (by kernel_rfl) rfl rfl) rfl) rfl (hR.skip rfl)
     ·intro ac done u W Sx hR
      exact X.skip (X.w2 rfl (Sx.yl 8 55 false (by kernel_rfl) rfl rfl) rfl) rfl (hR.skip rfl)
     ·intro ac done u W Sx hR
      exact X.skip (X.w2 rfl (Sx.yl 8 55 false (by kernel_rfl) rfl rfl) rfl) rfl (hR.skip rfl)
     ·intro ac done u W Sx hR
      exact X.val (X.w0 rfl) rfl (X.pickF rfl (Sx.ev 55 (.bool false)) (X.kc (.bool false) rfl)) (hR.step (Gr.refl _) rfl)
     intro ac u w17 hs hd hl ho hR
     have g : Gr w14 w17 := hR.1
     replace F : Fr ac 66 [(0, .agg #[.int .i64 gr, .int .i64 hold, .slice (some pd12) n nc]), (1, .int .i64 t), (2, .slice la m lc), (3, .pointer (some ⟨w.heap.size, 0, none⟩)), (9, .pointer (some ⟨bp, 0, none⟩)), (10, .slice (some pd15) t.toNat ac1), (11, .slice (some pd9) t.toNat rc), (12, .int .i64 k), (13, .int .i64 (((runFrom hold gr.toNat n l (startS nd) t.toNat).rows)[k]?.getD 0)), (14, .int .i64 i), (15, .pointer (some ⟨w10.heap.size, 0, none⟩)), (24, .bool false), (32, .slice (some pd9) t.toNat rc), (33, .int .i64 t.toNat), (34, .int .i64 k), (35, .bool true), (40, .slice (some pd12) n nc), (41, .int .i64 n), (42, .int .i64 i), (43, .bool true), (61, .bool false)] := X.fr hs hd hl _ (by kernel_rfl)
     clear hs hd hl ho hR
     replace G := G.trans g
     replace hC := hC.gr g
     replace GB_ := GB_.trans g
     replace GBB_ := GBB_.trans g
     replace hnd := hnd.gr g
     replace hl := hl.gr g
     replace hIa := hIa.gr g
     replace hIr := hIr.gr g
     clear g
     refine X.thenN ?_
     refine Y.condF (F.ev 61 (.bool false)) ?_
     refine Y.skip ?_
     refine X.blockN ?_
     refine X.thenN ?_
     refine Y.lit (by kernel_rfl) ?_
     refine Y.pval F (X.w0 rfl) rfl (X.binop rfl (F.ev 42 (.int .i64 i)) (X.kc (.int .i64 1) rfl) (X.addI Try.underlying3 rfl (by omega) (by omega))) ?_
     clear F ac
     intro ac F
     refine Y.pval F (X.w0 rfl) rfl (X.move rfl (F.ev 64 (.int .i64 ((i : Int) + 1)))) ?_
     clear F ac
     intro ac F
     refine Y.nil ?_
     replace F : Fr ac 66 [(0, .agg #[.int .i64 gr, .int .i64 hold, .slice (some pd12) n nc]), (1, .int .i64 t), (2, .slice la m lc), (3, .pointer (some ⟨w.heap.size, 0, none⟩)), (9, .pointer (some ⟨bp, 0, none⟩)), (10, .slice (some pd15) t.toNat ac1), (11, .slice (some pd9) t.toNat rc), (12, .int .i64 k), (13, .int .i64 (((runFrom hold gr.toNat n l (startS nd) t.toNat).rows)[k]?.getD 0)), (14, .int .i64 i), (15, .pointer (some ⟨w10.heap.size, 0, none⟩)), (24, .bool false), (32, .slice (some pd9) t.toNat rc), (33, .int .i64 t.toNat), (34, .int .i64 k), (35, .bool true), (40, .slice (some pd12) n nc), (41, .int .i64 n), (42, .int .i64 ((i : Int) + 1)), (43, .bool true), (61, .bool false)] := F.sub _
     refine X.thenN ?_
     refine ⟨_, ?_, i + 1, rfl, GBB_, by omega, (fun i2 h => by
      rcases Nat.lt_succ_iff_lt_or_eq.1 h with h | rfl
      ·exact hni i2 h
      ·simp [failP, h16]), F.sub _⟩
     omega
    | true =>
     try rw [h16] at F
     have h16p : ¬ (andV (cv nd i 0 : Int) (((runFrom hold gr.toNat n l (startS nd) t.toNat).asked)[k]?.getD 0 : Int) : Int) = 0 := by simpa using h16
     refine Y.region F [some (.pointer (some ⟨w10.heap.size, 0, none⟩)), some (.int .i64 (cv nd i 0)), some (.slice (some pd15) t.toNat ac1), some (.int .i64 k), some (.pointer (some (pd15.add k))), some (.int .i64 (((runFrom hold gr.toNat n l (startS nd) t.toNat).asked)[k]?.getD 0)), some (.int .i64 (andV (cv nd i 0 : Int) (((runFrom hold gr.toNat n l (startS nd) t.toNat).asked)[k]?.getD 0 : Int))), some (.bool true), some (.bool true), some (.int .i64 (((runFrom hold gr.toNat n l (startS nd) t.toNat).rows)[k]?.getD 0)), some (.int .i64 i), some (.int .i64 (shrV (((runFrom hold gr.toNat n l (startS nd) t.toNat).rows)[k]?.getD 0 : Int) (i : Int))), some (.int .i64 (andV (shrV (((runFrom hold gr.toNat n l (startS nd) t.toNat).rows)[k]?.getD 0 : Int) (i : Int) : Int) 1)), some (.bool ((andV (shrV (((runFrom hold gr.toNat n l (startS nd) t.toNat).rows)[k]?.getD 0 : Int) (i : Int) : Int) 1 : Int) == 0)), some (.bool ((andV (shrV (((runFrom hold gr.toNat n l (startS nd) t.toNat).rows)[k]?.getD 0 : Int) (i : Int) : Int) 1 : Int) == 0))] [] rfl ⟨by kernel_rfl, of_decide_eq_true (by kernel_rfl), by kernel_rfl, by kernel_rfl, by kernel_rfl⟩ ⟨?_, ?_, ?_, ?_, ?_, ?_, ?_, ?_, ?_, ?_, ?_, ?_, ?_, ?_, ?_, trivial⟩ ?_
     ·intro ac done u W Sx hR
      exact X.val (X.w0 rfl) rfl (X.field rfl (Sx.ev 15 (.pointer (some ⟨w10.heap.size, 0, none⟩))) (X.fld Try.underlying31 rfl (Try.siz3 _) rfl rfl)) (hR.step (Gr.refl _) rfl)
     ·intro ac done u W Sx hR
      have g : Gr w14 W := hR.1
      exact X.val (X.w0 rfl) rfl (X.load rfl (Sx.ev 47 (.pointer (some ⟨w10.heap.size, 0, none⟩))) (X.ld1 (Try.agg3 _) ((hC.gr g).at 9 rfl))) (hR.step (Gr.refl _) rfl)
     ·intro ac done u W Sx hR
      exact X.val (X.w0 rfl) rfl (X.move rfl (Sx.ev 10 (.slice (some pd15) t.toNat ac1))) (hR.step (Gr.refl _) rfl)
     ·intro ac done u W Sx hR
      exact X.val (X.w0 rfl) rfl (X.move rfl (Sx.ev 12 (.int .i64 k))) (hR.step (Gr.refl _) rfl)
     ·intro ac done u W Sx hR
      exact X.val (X.w0 rfl) rfl (X.index rfl (Sx.ev 49 (.slice (some pd15) t.toNat ac1)) (Sx.ev 50 (.int .i64 k)) (X.idx (k := k) Try.underlying34 (Try.siz3 _) (by omega) (by omega) (by rw [Nat.mul_one]))) (hR.step (Gr.refl _) rfl)
     ·intro ac done u W Sx hR
      have g : Gr w14 W := hR.1
      exact X.val (X.w0 rfl) rfl (X.load rfl (Sx.ev 51 (.pointer (some (pd15.add k)))) (X.ld1 (Try.agg3 _) ((hC.gr g).at 14 rfl))) (hR.step (Gr.refl _) rfl)
     ·intro ac done u W Sx hR
      exact X.val (X.w0 rfl) rfl (X.binop rfl (Sx.ev 48 (.int .i64 (cv nd i 0))) (Sx.ev 52 (.int .i64 (((runFrom hold gr.toNat n l (startS nd) t.toNat).asked)[k]?.getD 0))) (X.andI Try.underlying3 rfl)) (hR.step (Gr.refl _) rfl)
     ·intro ac done u W Sx hR
      exact X.val (X.w0 rfl) rfl (X.binop rfl (Sx.ev 53 (.int .i64 (andV (cv nd i 0 : Int) (((runFrom hold gr.toNat n l (startS nd) t.toNat).asked)[k]?.getD 0 : Int)))) (X.kc (.int .i64 0) rfl) (X.neqI Try.underlying3 h16)) (hR.step (Gr.refl _) rfl)
     ·intro ac done u W Sx hR
      exact X.val (X.w0 rfl) rfl (X.move rfl (Sx.ev 54 (.bool true))) (hR.step (Gr.refl _) rfl)
     ·intro ac done u W Sx hR
      exact X.val (X.w1 rfl (Sx.yl 8 55 true (by kernel_rfl) rfl rfl)) rfl (X.move rfl (Sx.ev 13 (.int .i64 (((runFrom hold gr.toNat n l (startS nd) t.toNat).rows)[k]?.getD 0)))) (hR.step (Gr.refl _) rfl)
     ·intro ac done u W Sx hR
      exact X.val (X.w1 rfl (Sx.yl 8 55 true (by kernel_rfl) rfl rfl)) rfl (X.move rfl (Sx.ev 14 (.int .i64 i))) (hR.step (Gr.refl _) rfl)
     ·intro ac done u W Sx hR
      exact X.val (X.w1 rfl (Sx.yl 8 55 true (by kernel_rfl) rfl rfl)) rfl (X.binop rfl (Sx.ev 56 (.int .i64 (((runFrom hold gr.toNat n l (startS nd) t.toNat).rows)[k]?.getD 0))) (Sx.ev 57 (.int .i64 i)) (X.shrI Try.underlying3 rfl (by omega))) (hR.step (Gr.refl _) rfl)
     ·intro ac done u W Sx hR
      exact X.val (X.w1 rfl (Sx.yl 8 55 true (by kernel_rfl) rfl rfl)) rfl (X.binop rfl (Sx.ev 58 (.int .i64 (shrV (((runFrom hold gr.toNat n l (startS nd) t.toNat).rows)[k]?.getD 0 : Int) (i : Int)))) (X.kc (.int .i64 1) rfl) (X.andI Try.underlying3 rfl)) (hR.step (Gr.refl _) rfl)
     ·intro ac done u W Sx hR
      exact X.val (X.w1 rfl (Sx.yl 8 55 true (by kernel_rfl) rfl rfl)) rfl (X.binop rfl (Sx.ev 59 (.int .i64 (andV (shrV (((runFrom hold gr.toNat n l (startS nd) t.toNat).rows)[k]?.getD 0 : Int) (i : Int) : Int) 1))) (X.kc (.int .i64 0) rfl) (X.eqlI Try.underlying3 rfl)) (hR.step (Gr.refl _) rfl)
     ·intro ac done u W Sx hR
      exact X.val (X.w0 rfl) rfl (X.pickT rfl (Sx.ev 55 (.bool true)) (Sx.ev 60 (.bool ((andV (shrV (((runFrom hold gr.toNat n l (startS nd) t.toNat).rows)[k]?.getD 0 : Int) (i : Int) : Int) 1 : Int) == 0)))) (hR.step (Gr.refl _) rfl)
     intro ac u w18 hs hd hl ho hR
     have g : Gr w14 w18 := hR.1
     replace F : Fr ac 66 [(0, .agg #[.int .i64 gr, .int .i64 hold, .slice (some pd12) n nc]), (1, .int .i64 t), (2, .slice la m lc), (3, .pointer (some ⟨w.heap.size, 0, none⟩)), (9, .pointer (some ⟨bp, 0, none⟩)), (10, .slice (some pd15) t.toNat ac1), (11, .slice (some pd9) t.toNat rc), (12, .int .i64 k), (13, .int .i64 (((runFrom hold gr.toNat n l (startS nd) t.toNat).rows)[k]?.getD 0)), (14, .int .i64 i), (15, .pointer (some ⟨w10.heap.size, 0, none⟩)), (24, .bool false), (32, .slice (some pd9) t.toNat rc), (33, .int .i64 t.toNat), (34, .int .i64 k), (35, .bool true), (40, .slice (some pd12) n nc), (41, .int .i64 n), (42, .int .i64 i), (43, .bool true), (61, .bool ((andV (shrV (((runFrom hold gr.toNat n l (startS nd) t.toNat).rows)[k]?.getD 0 : Int) (i : Int) : Int) 1 : Int) == 0))] := X.fr hs hd hl _ (by kernel_rfl)
     clear hs hd hl ho hR
     replace G := G.trans g
     replace hC := hC.gr g
     replace GB_ := GB_.trans g
     replace GBB_ := GBB_.trans g
     replace hnd := hnd.gr g
     replace hl := hl.gr g
     replace hIa := hIa.gr g
     replace hIr := hIr.gr g
     clear g
     refine X.thenN ?_
     cases h19 : ((andV (shrV (((runFrom hold gr.toNat n l (startS nd) t.toNat).rows)[k]?.getD 0 : Int) (i : Int) : Int) 1 : Int) == 0) with
     | false =>
      try rw [h19] at F
      have h19p : ¬ (andV (shrV (((runFrom hold gr.toNat n l (startS nd) t.toNat).rows)[k]?.getD 0 : Int) (i : Int) : Int) 1 : Int) = 0 := by simpa using h19
      refine Y.condF (F.ev 61 (.bool false)) ?_
      refine Y.skip ?_
      refine X.blockN ?_
      refine X.thenN ?_
      refine Y.lit (by kernel_rfl) ?_
      refine Y.pval F (X.w0 rfl) rfl (X.binop rfl (F.ev 42 (.int .i64 i)) (X.kc (.int .i64 1) rfl) (X.addI Try.underlying3 rfl (by omega) (by omega))) ?_
      clear F ac
      intro ac F
      refine Y.pval F (X.w0 rfl) rfl (X.move rfl (F.ev 64 (.int .i64 ((i : Int) + 1)))) ?_
      clear F ac
      intro ac F
      refine Y.nil ?_
      replace F : Fr ac 66 [(0, .agg #[.int .i64 gr, .int .i64 hold, .slice (some pd12) n nc]), (1, .int .i64 t), (2, .slice la m lc), (3, .pointer (some ⟨w.heap.size, 0, none⟩)), (9, .pointer (some ⟨bp, 0, none⟩)), (10, .slice (some pd15) t.toNat ac1), (11, .slice (some pd9) t.toNat rc), (12, .int .i64 k), (13, .int .i64 (((runFrom hold gr.toNat n l (startS nd) t.toNat).rows)[k]?.getD 0)), (14, .int .i64 i), (15, .pointer (some ⟨w10.heap.size, 0, none⟩)), (24, .bool false), (32, .slice (some pd9) t.toNat rc), (33, .int .i64 t.toNat), (34, .int .i64 k), (35, .bool true), (40, .slice (some pd12) n nc), (41, .int .i64 n), (42, .int .i64 ((i : Int) + 1)), (43, .bool true), (61, .bool false)] := F.sub _
      refine X.thenN ?_
      refine ⟨_, ?_, i + 1, rfl, GBB_, by omega, (fun i2 h => by
       rcases Nat.lt_succ_iff_lt_or_eq.1 h with h | rfl
       ·exact hni i2 h
       ·simp [failP, h16, h19]), F.sub _⟩
      omega
     | true =>
      try rw [h19] at F
      have h19p : (andV (shrV (((runFrom hold gr.toNat n l (startS nd) t.toNat).rows)[k]?.getD 0 : Int) (i : Int) : Int) 1 : Int) = 0 := by simpa using h19
      refine Y.condT (F.ev 61 (.bool true)) ?_
      refine Y.seq ?_
      refine Y.lit (by kernel_rfl) ?_
      refine Y.pval F (X.w0 rfl) rfl (X.move rfl (F.ev 12 (.int .i64 k))) ?_
      clear F ac
      intro ac F
      refine Y.pval F (X.w0 rfl) rfl (X.move rfl (F.ev 14 (.int .i64 i))) ?_
      clear F ac
      intro ac F
      refine Y.pval F (X.w0 rfl) rfl (X.assign rfl (F.ev 62 (.int .i64 k))) ?_
      clear F ac
      intro ac F
      refine Y.pval F (X.w0 rfl) rfl (X.assign rfl (F.ev 63 (.int .i64 i))) ?_
      clear F ac
      intro ac F
      refine Y.pval F (X.w0 rfl) rfl (X.assign rfl (X.kc (.int .i64 0) rfl)) ?_
      clear F ac
      intro ac F
      refine Y.nil ?_
      replace F : Fr ac 66 [(0, .agg #[.int .i64 gr, .int .i64 hold, .slice (some pd12) n nc]), (1, .int .i64 t), (2, .slice la m lc), (3, .pointer (some ⟨w.heap.size, 0, none⟩)), (6, .int .i64 k), (7, .int .i64 i), (8, .int .i64 0), (9, .pointer (some ⟨bp, 0, none⟩)), (10, .slice (some pd15) t.toNat ac1), (11, .slice (some pd9) t.toNat rc), (12, .int .i64 k), (13, .int .i64 (((runFrom hold gr.toNat n l (startS nd) t.toNat).rows)[k]?.getD 0)), (14, .int .i64 i), (15, .pointer (some ⟨w10.heap.size, 0, none⟩)), (24, .bool false), (32, .slice (some pd9) t.toNat rc), (33, .int .i64 t.toNat), (34, .int .i64 k), (35, .bool true), (40, .slice (some pd12) n nc), (41, .int .i64 n), (42, .int .i64 i), (43, .bool true), (61, .bool true)] := F.sub _
      refine X.thenN ?_
      refine Y.ret ?_
      refine X.blockR ?_
      refine X.thenR ?_
      refine X.thenR ?_
      refine X.blockR ?_
      refine X.blockR ?_
      refine X.thenR ?_
      refine X.thenR ?_
      refine X.blockR ?_
      refine X.thenR ?_
      have e1 : playAsk gr hold nd t l = (runFrom hold gr.toNat n l (startS nd) t.toNat).asked := by unfold playAsk playR; rw [if_pos hE, hln]
      have e2 : playRows gr hold nd t l = (runFrom hold gr.toNat n l (startS nd) t.toNat).rows := by unfold playRows playR; rw [if_pos hE, hln]
      exact Y.ret0 (v := .tuple #[.int .i64 k, .int .i64 i, .int .i64 0]) F (Y.rs3 F rfl (by kernel_rfl) (by kernel_rfl) (by kernel_rfl)) ⟨_, _, by rw [hE], fun h => absurd hE h, fun _ => .inr ⟨k, i, rfl, rfl, hk2, hi2, by rw [e1, e2]; simp [failP, h16, h19], by rw [e1, e2]; exact hni, by rw [e1, e2]; exact hno⟩, G⟩
 ·have hE := hE
  refine Y.pcall F (X.w0 rfl) rfl (X.enter (F := 44) rfl (X.kc (.func (.func 44) #[] #[]) rfl) (X.a3 (F.ev 17 (.agg #[.int .i64 gr, .int .i64 hold, .slice na n nc])) (F.ev 18 (.int .i64 t)) (F.ev 19 (.slice la m lc))) (enters_of Try.func44 (by kernel_rfl) rfl _)) (begin_any na la n nc m lc gr hold t nd l w3 hnd hl) ?_
  clear F ac
  rintro e w20 ⟨h1, g, -⟩
  obtain rfl := h1 hE
  refine ⟨_, rfl, ?_⟩
  intro ac F
  replace G := G.trans g
  replace hC := hC.gr g
  replace hnd := hnd.gr g
  replace hl := hl.gr g
  clear g
  refine Y.pval F (X.w0 rfl) rfl (X.move rfl (F.ev 20 (.tuple #[.pointer none, .int .i64 (playE gr hold nd t l)]))) ?_
  clear F ac
  intro ac F
  refine Y.pval F (X.w0 rfl) rfl (X.extract rfl (F.ev 16 (.tuple #[.pointer none, .int .i64 (playE gr hold nd t l)])) rfl) ?_
  clear F ac
  intro ac F
  refine Y.pval F (X.w0 rfl) rfl (X.extract rfl (F.ev 16 (.tuple #[.pointer none, .int .i64 (playE gr hold nd t l)])) rfl) ?_
  clear F ac
  intro ac F
  refine Y.pval F (X.w0 rfl) rfl (X.assign rfl (F.ev 21 (.pointer none))) ?_
  clear F ac
  intro ac F
  refine Y.pval F (X.w0 rfl) rfl (X.assign rfl (F.ev 22 (.int .i64 (playE gr hold nd t l)))) ?_
  clear F ac
  intro ac F
  refine Y.nil ?_
  replace F : Fr ac 66 [(0, .agg #[.int .i64 gr, .int .i64 hold, .slice na n nc]), (1, .int .i64 t), (2, .slice la m lc), (3, .pointer (some ⟨w.heap.size, 0, none⟩)), (6, .int .i64 0), (7, .int .i64 0), (8, .int .i64 (playE gr hold nd t l)), (9, .pointer none)] := F.sub _
  refine X.thenN ?_
  refine Y.seq ?_
  refine Y.seq ?_
  refine Y.lit (by kernel_rfl) ?_
  refine Y.pval F (X.w0 rfl) rfl (X.move rfl (F.ev 8 (.int .i64 (playE gr hold nd t l)))) ?_
  clear F ac
  intro ac F
  refine Y.pval F (X.w0 rfl) rfl (X.binop rfl (F.ev 23 (.int .i64 (playE gr hold nd t l))) (X.kc (.int .i64 0) rfl) (X.neqI Try.underlying26 rfl)) ?_
  clear F ac
  intro ac F
  refine Y.nil ?_
  replace F : Fr ac 66 [(0, .agg #[.int .i64 gr, .int .i64 hold, .slice na n nc]), (1, .int .i64 t), (2, .slice la m lc), (3, .pointer (some ⟨w.heap.size, 0, none⟩)), (6, .int .i64 0), (7, .int .i64 0), (8, .int .i64 (playE gr hold nd t l)), (9, .pointer none), (24, .bool ((playE gr hold nd t l : Int) != 0))] := F.sub _
  refine X.thenN ?_
  have h22 : ((playE gr hold nd t l : Int) != 0) = true := by simpa using hE
  try rw [h22] at F
  refine Y.condT (F.ev 24 (.bool true)) ?_
  refine Y.seq ?_
  refine Y.lit (by kernel_rfl) ?_
  refine Y.pval F (X.w0 rfl) rfl (X.move rfl (F.ev 8 (.int .i64 (playE gr hold nd t l)))) ?_
  clear F ac
  intro ac F
  refine Y.pval F (X.w0 rfl) rfl (X.assign rfl (X.kc (.int .i64 0) rfl)) ?_
  clear F ac
  intro ac F
  refine Y.pval F (X.w0 rfl) rfl (X.assign rfl (X.kc (.int .i64 0) rfl)) ?_
  clear F ac
  intro ac F
  refine Y.pval F (X.w0 rfl) rfl (X.assign rfl (F.ev 25 (.int .i64 (playE gr hold nd t l)))) ?_
  clear F ac
  intro ac F
  refine Y.nil ?_
  replace F : Fr ac 66 [(0, .agg #[.int .i64 gr, .int .i64 hold, .slice na n nc]), (1, .int .i64 t), (2, .slice la m lc), (3, .pointer (some ⟨w.heap.size, 0, none⟩)), (6, .int .i64 0), (7, .int .i64 0), (8, .int .i64 (playE gr hold nd t l)), (9, .pointer none), (24, .bool true)] := F.sub _
  refine X.thenN ?_
  refine Y.ret ?_
  refine X.thenR ?_
  exact Y.ret0 (v := .tuple #[.int .i64 0, .int .i64 0, .int .i64 (playE gr hold nd t l)]) F (Y.rs3 F rfl (by kernel_rfl) (by kernel_rfl) (by kernel_rfl)) ⟨_, _, rfl, fun _ => ⟨rfl, rfl⟩, fun h => absurd h hE, G⟩
end
section
open Go.RowKit

set_option maxRecDepth 100000 in
set_option maxHeartbeats 400000 in
theorem same_any (a b : Option Addr) (n c m d : Nat) (xs ys : List Int) (w : World) (hx : Ints w a n xs) (hy : Ints w b m ys) :
  Calls Try.prog 27 #[.slice a n c, .slice b m d] w fun e w' => e = .returned (.bool (decide (xs = ys))) ∧ Gr w w' := by
 have G := Gr.refl w
 have hxl := hx.len
 have hyl := hy.len
 have hlt := hx.lt
 have hlt2 := hy.lt
 refine Y.calls 26 Try.func27 rfl rfl ?_
 intro ac F0
 have F : Fr ac 26 [(0, .slice a n c), (1, .slice b m d)] := F0.sub _
 clear F0
 refine Y.seq ?_
 refine Y.lit (by kernel_rfl) ?_
 refine Y.pval F (X.w0 rfl) rfl (X.assign rfl (X.kc (.bool false) rfl)) ?_
 clear F ac
 intro ac F
 refine Y.nil ?_
 replace F : Fr ac 26 [(0, .slice a n c), (1, .slice b m d), (4, .bool false)] := F.sub _
 refine X.thenN ?_
 refine Y.seq ?_
 refine Y.seq ?_
 refine Y.lit (by kernel_rfl) ?_
 refine Y.pval F (X.w0 rfl) rfl (X.move rfl (F.ev 0 (.slice a n c))) ?_
 clear F ac
 intro ac F
 refine Y.pval F (X.w0 rfl) rfl (X.len1 Try.underlying34 rfl (F.ev 6 (.slice a n c))) ?_
 clear F ac
 intro ac F
 refine Y.pval F (X.w0 rfl) rfl (X.move rfl (F.ev 1 (.slice b m d))) ?_
 clear F ac
 intro ac F
 refine Y.pval F (X.w0 rfl) rfl (X.len1 Try.underlying34 rfl (F.ev 8 (.slice b m d))) ?_
 clear F ac
 intro ac F
 refine Y.pval F (X.w0 rfl) rfl (X.binop rfl (F.ev 7 (.int .i64 n)) (F.ev 9 (.int .i64 m)) (X.neqI Try.underlying3 rfl)) ?_
 clear F ac
 intro ac F
 refine Y.nil ?_
 replace F : Fr ac 26 [(0, .slice a n c), (1, .slice b m d), (4, .bool false), (10, .bool ((n : Int) != m))] := F.sub _
 refine X.thenN ?_
 cases h3 : ((n : Int) != m) with
 | false =>
  try rw [h3] at F
  have h3p : (n : Int) = m := by simpa using h3
  have hnm : m = n := by omega
  have hl2 : xs.length = ys.length := by omega
  refine Y.condF (F.ev 10 (.bool false)) ?_
  refine Y.skip ?_
  refine X.thenN ?_
  refine Y.seq ?_
  refine Y.seq ?_
  refine Y.lit (by kernel_rfl) ?_
  refine Y.pval F (X.w0 rfl) rfl (X.assign rfl (X.kc (.int .i64 0) rfl)) ?_
  clear F ac
  intro ac F
  refine Y.nil ?_
  replace F : Fr ac 26 [(0, .slice a n c), (1, .slice b m d), (4, .bool false), (5, .int .i64 0), (10, .bool false)] := F.sub _
  refine X.thenN ?_
  refine Y.block ?_
  have hxB := hx
  have hyB := hy
  have GB := G
  refine Y.loop (fun me_ ac wr => ∃ (i : Nat), me_ = n - i ∧ Gr w wr ∧ i ≤ n ∧ (∀ j, j < i → xs[j]?.getD 0 = ys[j]?.getD 0) ∧ Fr ac 26 [(0, .slice a n c), (1, .slice b m d), (5, .int .i64 i), (10, .bool false)]) _ ⟨0, rfl, Gr.refl _, Nat.zero_le _, fun j h => by omega, F.sub _⟩ ?_
  clear F
  intro me_ ac w4 hI
  obtain ⟨i, rfl, gr, hi, hsame, F⟩ := hI
  replace G := GB.trans gr
  replace hx := hxB.gr gr
  replace hy := hyB.gr gr
  have GB_ := gr
  clear gr
  refine Y.seq ?_
  refine Y.seq ?_
  refine Y.lit (by kernel_rfl) ?_
  refine Y.pval F (X.w0 rfl) rfl (X.move rfl (F.ev 5 (.int .i64 i))) ?_
  clear F ac
  intro ac F
  refine Y.pval F (X.w0 rfl) rfl (X.move rfl (F.ev 0 (.slice a n c))) ?_
  clear F ac
  intro ac F
  refine Y.pval F (X.w0 rfl) rfl (X.len1 Try.underlying34 rfl (F.ev 12 (.slice a n c))) ?_
  clear F ac
  intro ac F
  refine Y.pval F (X.w0 rfl) rfl (X.binop rfl (F.ev 11 (.int .i64 i)) (F.ev 13 (.int .i64 n)) (X.lssI Try.underlying3 rfl)) ?_
  clear F ac
  intro ac F
  refine Y.nil ?_
  replace F : Fr ac 26 [(0, .slice a n c), (1, .slice b m d), (5, .int .i64 i), (10, .bool false), (14, .bool (decide ((i : Int) < n)))] := F.sub _
  refine X.thenN ?_
  cases h5 : decide ((i : Int) < n) with
  | false =>
   try rw [h5] at F
   have h5p : ¬ ((i : Int) < n) := of_decide_eq_false h5
   have hin : i = n := by omega
   refine Y.condF (F.ev 14 (.bool false)) ?_
   refine Y.exit ?_
   refine X.thenX ?_
   refine X.thenX ?_
   refine X.blockX ?_
   refine X.thenN ?_
   refine Y.seq ?_
   refine Y.lit (by kernel_rfl) ?_
   refine Y.pval F (X.w0 rfl) rfl (X.assign rfl (X.kc (.bool true) rfl)) ?_
   clear F ac
   intro ac F
   refine Y.nil ?_
   replace F : Fr ac 26 [(0, .slice a n c), (1, .slice b m d), (4, .bool true), (5, .int .i64 i), (10, .bool false), (14, .bool false)] := F.sub _
   refine X.thenN ?_
   refine Y.ret ?_
   exact Y.ret0 (v := .bool true) F (Y.rs1 F rfl (by kernel_rfl)) ⟨by rw [same_yes hl2 (fun j hj => hsame j (by omega))], G⟩
  | true =>
   try rw [h5] at F
   have h5p : ((i : Int) < n) := of_decide_eq_true h5
   refine Y.condT (F.ev 14 (.bool true)) ?_
   refine Y.skip ?_
   refine X.thenN ?_
   refine Y.seq ?_
   refine Y.block ?_
   refine Y.seq ?_
   obtain ⟨pd6, pe6, -, pc6⟩ := hx.at (j := i) (by omega)
   subst pe6
   have hC : RCells w4 [(pd6.add i, .int .i64 (xs[i]?.getD 0))] := (RCells.cons pc6 (RCells.nil _))
   clear pc6
   obtain ⟨pd7, pe7, -, pc7⟩ := hy.at (j := i) (by omega)
   subst pe7
   replace hC : RCells w4 [(pd6.add i, .int .i64 (xs[i]?.getD 0)), (pd7.add i, .int .i64 (ys[i]?.getD 0))] := hC.append ((RCells.cons pc7 (RCells.nil _)))
   clear pc7
   refine Y.region F [some (.slice (some pd6) n c), some (.int .i64 i), some (.pointer (some (pd6.add i))), some (.int .i64 (xs[i]?.getD 0)), some (.slice (some pd7) m d), some (.int .i64 i), some (.pointer (some (pd7.add i))), some (.int .i64 (ys[i]?.getD 0)), some (.bool ((xs[i]?.getD 0 : Int) != (ys[i]?.getD 0)))] [] rfl ⟨by kernel_rfl, of_decide_eq_true (by kernel_rfl), by kernel_rfl, by kernel_rfl, by kernel_rfl⟩ ⟨?_, ?_, ?_, ?_, ?_, ?_, ?_, ?_, ?_, trivial⟩ ?_
   ·intro ac done u W Sx hR
    exact X.val (X.w0 rfl) rfl (X.move rfl (Sx.ev 0 (.slice (some pd6) n c))) (hR.step (Gr.refl _) rfl)
   ·intro ac done u W Sx hR
    exact X.val (X.w0 rfl) rfl (X.move rfl (Sx.ev 5 (.int .i64 i))) (hR.step (Gr.refl _) rfl)
   ·intro ac done u W Sx hR
    exact X.val (X.w0 rfl) rfl (X.index rfl (Sx.ev 17 (.slice (some pd6) n c)) (Sx.ev 18 (.int .i64 i)) (X.idx (k := i) Try.underlying34 (Try.siz3 _) (by omega) (by omega) (by rw [Nat.mul_one]))) (hR.step (Gr.refl _) rfl)
   ·intro ac done u W Sx hR
    have g : Gr w4 W := hR.1
    exact X.val (X.w0 rfl) rfl (X.load rfl (Sx.ev 19 (.pointer (some (pd6.add i)))) (X.ld1 (Try.agg3 _) ((hC.gr g).at 0 rfl))) (hR.step (Gr.refl _) rfl)
   ·intro ac done u W Sx hR
    exact X.val (X.w0 rfl) rfl (X.move rfl (Sx.ev 1 (.slice (some pd7) m d))) (hR.step (Gr.refl _) rfl)
   ·intro ac done u W Sx hR
    exact X.val (X.w0 rfl) rfl (X.move rfl (Sx.ev 5 (.int .i64 i))) (hR.step (Gr.refl _) rfl)
   ·intro ac done u W Sx hR
    exact X.val (X.w0 rfl) rfl (X.index rfl (Sx.ev 21 (.slice (some pd7) m d)) (Sx.ev 22 (.int .i64 i)) (X.idx (k := i) Try.underlying34 (Try.siz3 _) (by omega) (by omega) (by rw [Nat.mul_one]))) (hR.step (Gr.refl _) rfl)
   ·intro ac done u W Sx hR
    have g : Gr w4 W := hR.1
    exact X.val (X.w0 rfl) rfl (X.load rfl (Sx.ev 23 (.pointer (some (pd7.add i)))) (X.ld1 (Try.agg3 _) ((hC.gr g).at 1 rfl))) (hR.step (Gr.refl _) rfl)
   ·intro ac done u W Sx hR
    exact X.val (X.w0 rfl) rfl (X.binop rfl (Sx.ev 20 (.int .i64 (xs[i]?.getD 0))) (Sx.ev 24 (.int .i64 (ys[i]?.getD 0))) (X.neqI Try.underlying3 rfl)) (hR.step (Gr.refl _) rfl)
   intro ac u w8 hs hd hl ho hR
   have g : Gr w4 w8 := hR.1
   replace F : Fr ac 26 [(0, .slice (some pd6) n c), (1, .slice (some pd7) m d), (5, .int .i64 i), (10, .bool false), (14, .bool true), (25, .bool ((xs[i]?.getD 0 : Int) != (ys[i]?.getD 0)))] := X.fr hs hd hl _ (by kernel_rfl)
   clear hs hd hl ho hR
   replace G := G.trans g
   replace hC := hC.gr g
   replace GB_ := GB_.trans g
   replace hx := hx.gr g
   replace hy := hy.gr g
   clear g
   refine X.thenN ?_
   cases h9 : ((xs[i]?.getD 0 : Int) != (ys[i]?.getD 0)) with
   | false =>
    try rw [h9] at F
    have h9p : (xs[i]?.getD 0 : Int) = (ys[i]?.getD 0) := by simpa using h9
    refine Y.condF (F.ev 25 (.bool false)) ?_
    refine Y.skip ?_
    refine X.blockN ?_
    refine X.thenN ?_
    refine Y.lit (by kernel_rfl) ?_
    refine Y.pval F (X.w0 rfl) rfl (X.move rfl (F.ev 5 (.int .i64 i))) ?_
    clear F ac
    intro ac F
    refine Y.pval F (X.w0 rfl) rfl (X.binop rfl (F.ev 15 (.int .i64 i)) (X.kc (.int .i64 1) rfl) (X.addI Try.underlying3 rfl (by omega) (by omega))) ?_
    clear F ac
    intro ac F
    refine Y.pval F (X.w0 rfl) rfl (X.assign rfl (F.ev 16 (.int .i64 ((i : Int) + 1)))) ?_
    clear F ac
    intro ac F
    refine Y.nil ?_
    replace F : Fr ac 26 [(0, .slice (some pd6) n c), (1, .slice (some pd7) m d), (5, .int .i64 ((i : Int) + 1)), (10, .bool false), (14, .bool true), (25, .bool false)] := F.sub _
    refine X.thenN ?_
    refine ⟨_, ?_, i + 1, rfl, GB_, by omega, fun j hj => if e : j = i then by rw [e]; exact h9p else hsame j (by omega), F.sub _⟩
    omega
   | true =>
    try rw [h9] at F
    have h9p : ¬ (xs[i]?.getD 0 : Int) = (ys[i]?.getD 0) := by simpa using h9
    refine Y.condT (F.ev 25 (.bool true)) ?_
    refine Y.seq ?_
    refine Y.lit (by kernel_rfl) ?_
    refine Y.pval F (X.w0 rfl) rfl (X.assign rfl (X.kc (.bool false) rfl)) ?_
    clear F ac
    intro ac F
    refine Y.nil ?_
    replace F : Fr ac 26 [(0, .slice (some pd6) n c), (1, .slice (some pd7) m d), (4, .bool false), (5, .int .i64 i), (10, .bool false), (14, .bool true), (25, .bool true)] := F.sub _
    refine X.thenN ?_
    refine Y.ret ?_
    refine X.blockR ?_
    refine X.thenR ?_
    refine X.thenR ?_
    refine X.blockR ?_
    refine X.thenR ?_
    exact Y.ret0 (v := .bool false) F (Y.rs1 F rfl (by kernel_rfl)) ⟨by rw [same_no (by omega) hl2 h9p], G⟩
 | true =>
  try rw [h3] at F
  have h3p : ¬ (n : Int) = m := by simpa using h3
  refine Y.condT (F.ev 10 (.bool true)) ?_
  refine Y.seq ?_
  refine Y.lit (by kernel_rfl) ?_
  refine Y.pval F (X.w0 rfl) rfl (X.assign rfl (X.kc (.bool false) rfl)) ?_
  clear F ac
  intro ac F
  refine Y.nil ?_
  replace F : Fr ac 26 [(0, .slice a n c), (1, .slice b m d), (4, .bool false), (10, .bool true)] := F.sub _
  refine X.thenN ?_
  refine Y.ret ?_
  refine X.thenR ?_
  exact Y.ret0 (v := .bool false) F (Y.rs1 F rfl (by kernel_rfl)) ⟨by rw [show decide (xs = ys) = false by simp only [decide_eq_false_iff_not]; intro e; subst e; omega], G⟩
end
section
open Go.RowKit

theorem st_only {S : Nat → Prop} {w w' : World} {k : Nat} {a : Option Addr} {n : Nat} {L : List (List Int)} (h : StAt w k a n L) (g : Only S w w') (hn : ∀ ad, a = some ad → ¬ S ad.block) : StAt w' k a n L :=
  ⟨h.1, h.2.1, fun j hj => by
    obtain ⟨ad, e, hb, hl, hc⟩ := h.2.2 j hj
    exact ⟨ad, e, Nat.lt_of_lt_of_le hb g.size, hl, fun r hr => g.cell (hc r hr) (by rw [add_block, add_block]; exact hn ad e)⟩⟩
set_option maxRecDepth 100000 in
set_option maxHeartbeats 400000 in
theorem example_any (w : World) :
  Calls Try.prog 43 #[] w fun e w' => ∃ a, e = .returned (.agg #[.int .i64 2, .int .i64 3, .slice a 3 3]) ∧ StAt w' 5 a 3 exN ∧ Gr w w' := by
 have G := Gr.refl w
 refine Y.calls 6 Try.func43 rfl rfl ?_
 intro ac F0
 have F : Fr ac 6 [] := F0.sub _
 clear F0
 refine Y.seq ?_
 refine Y.lit (by kernel_rfl) ?_
 refine Y.pval F (X.w0 rfl) rfl (Y.al rfl (Try.new24 _)) ?_
 clear F ac
 intro ac F
 have g := Gr.alloc w (.cells #[.int .i64 0, .int .i64 0, .slice none 0 0] 24)
 have hb := heap_alloc_new w (.cells #[.int .i64 0, .int .i64 0, .slice none 0 0] 24)
 have hbl : w.heap.size < (w.alloc (.cells #[.int .i64 0, .int .i64 0, .slice none 0 0] 24)).heap.size := by simp
 generalize w.alloc (.cells #[.int .i64 0, .int .i64 0, .slice none 0 0] 24) = w3 at *
 replace G := G.trans g
 have hV := ownP_box (vs := [.int .i64 0, .int .i64 0, .slice none 0 0]) hb
 clear g hb hbl
 have hVl : w.heap.size < w3.heap.size := hV.lt
 refine Y.nil ?_
 replace F : Fr ac 6 [(0, .pointer (some ⟨w.heap.size, 0, none⟩))] := F.sub _
 refine X.thenN ?_
 refine Y.seq ?_
 refine Y.lit (by kernel_rfl) ?_
 refine Y.pval F (X.w0 rfl) rfl (Y.bd rfl rfl (Try.exb1 _)) ?_
 clear F ac
 intro ac F
 refine Y.pval F (X.w0 rfl) rfl (Y.bd rfl rfl (Try.exb2 _)) ?_
 clear F ac
 intro ac F
 refine Y.pval F (X.w0 rfl) rfl (Y.bd rfl rfl (Try.exb3 _)) ?_
 clear F ac
 intro ac F
 refine Y.pval F (X.w0 rfl) rfl (X.bs rfl (Y.b3 (F.ev 1 (.agg #[.int .i64 1, .int .i64 10, .int .i64 1, .int .i64 1, .int .i64 5])) (F.ev 2 (.agg #[.int .i64 3, .int .i64 20, .int .i64 2, .int .i64 2, .int .i64 10])) (F.ev 3 (.agg #[.int .i64 2, .int .i64 30, .int .i64 0, .int .i64 0, .int .i64 1]))) (Try.exs _)) ?_
 clear F ac
 intro ac F
 have g := Gr.alloc w3 (.cells #[.int .i64 1, .int .i64 10, .int .i64 1, .int .i64 1, .int .i64 5, .int .i64 3, .int .i64 20, .int .i64 2, .int .i64 2, .int .i64 10, .int .i64 2, .int .i64 30, .int .i64 0, .int .i64 0, .int .i64 1] 31)
 have hb := heap_alloc_new w3 (.cells #[.int .i64 1, .int .i64 10, .int .i64 1, .int .i64 1, .int .i64 5, .int .i64 3, .int .i64 20, .int .i64 2, .int .i64 2, .int .i64 10, .int .i64 2, .int .i64 30, .int .i64 0, .int .i64 0, .int .i64 1] 31)
 have hbl : w3.heap.size < (w3.alloc (.cells #[.int .i64 1, .int .i64 10, .int .i64 1, .int .i64 1, .int .i64 5, .int .i64 3, .int .i64 20, .int .i64 2, .int .i64 2, .int .i64 10, .int .i64 2, .int .i64 30, .int .i64 0, .int .i64 0, .int .i64 1] 31)).heap.size := by simp
 generalize w3.alloc (.cells #[.int .i64 1, .int .i64 10, .int .i64 1, .int .i64 1, .int .i64 5, .int .i64 3, .int .i64 20, .int .i64 2, .int .i64 2, .int .i64 10, .int .i64 2, .int .i64 30, .int .i64 0, .int .i64 0, .int .i64 1] 31) = w4 at *
 replace G := G.trans g
 replace hV := hV.gr g
 have hexN := exN_at hb
 clear g hb hbl
 refine Y.pval F (X.w0 rfl) rfl (Y.bd rfl (Y.b3 (X.kc (.int .i64 2) rfl) (X.kc (.int .i64 3) rfl) (F.ev 4 (.slice (some ⟨w3.heap.size, 0, none⟩) 3 3))) (Try.exc _ _ _ _ _ _)) ?_
 clear F ac
 intro ac F
 obtain ⟨w5, hrun, hS2, hon⟩ := hV.stL (P := Try.prog) (t := 24) [.int .i64 2, .int .i64 3, .slice (some ⟨w3.heap.size, 0, none⟩) 3 3] rfl (fun W => Try.siz24 W) rfl
 refine Y.punit F (X.w0 rfl) rfl (X.store rfl (F.ev 0 (.pointer (some ⟨w.heap.size, 0, none⟩))) (F.ev 5 (.agg #[.int .i64 2, .int .i64 3, .slice (some ⟨w3.heap.size, 0, none⟩) 3 3])) hrun) ?_
 clear F ac hrun
 intro ac F
 have hexN : StAt w5 5 (some ⟨w3.heap.size, 0, none⟩) 3 exN := st_only hexN hon (fun ad e h => by cases e; exact absurd h (by show ¬ w3.heap.size = w.heap.size; have := hVl; omega))
 replace G := Y.Only.up G hon (Nat.le_refl _)
 replace hV := hS2
 refine Y.nil ?_
 replace F : Fr ac 6 [(0, .pointer (some ⟨w.heap.size, 0, none⟩))] := F.sub _
 refine X.thenN ?_
 refine Y.ret ?_
 exact Y.ret0 (v := .agg #[.int .i64 2, .int .i64 3, .slice (some ⟨w3.heap.size, 0, none⟩) 3 3]) F (Y.rc13 F rfl (Try.agg24 _) (Try.siz24 _) (by kernel_rfl) hV) ⟨_, rfl, hexN, G⟩
set_option maxRecDepth 100000 in
set_option maxHeartbeats 1000000 in
theorem works_any (w : World) :
  Calls Try.prog 16 #[] w fun e w' => e = .returned (.bool true) ∧ Gr w w' := by
 have G := Gr.refl w
 refine Y.calls 40 Try.func16 rfl rfl ?_
 intro ac F0
 have F : Fr ac 40 [] := F0.sub _
 clear F0
 refine Y.seq ?_
 refine Y.lit (by kernel_rfl) ?_
 refine Y.pval F (X.w0 rfl) rfl (X.assign rfl (X.kc (.bool false) rfl)) ?_
 clear F ac
 intro ac F
 refine Y.nil ?_
 replace F : Fr ac 40 [(0, .bool false)] := F.sub _
 refine X.thenN ?_
 refine Y.seq ?_
 refine Y.lit (by kernel_rfl) ?_
 refine Y.pcall F (X.w0 rfl) rfl (X.enter (F := 43) rfl (X.kc (.func (.func 43) #[] #[]) rfl) rfl (enters_of Try.func43 (by kernel_rfl) rfl _)) (example_any w) ?_
 clear F ac
 rintro e w4 ⟨ea3, rfl, hN3, g⟩
 refine ⟨_, rfl, ?_⟩
 intro ac F
 replace G := G.trans g
 clear g
 refine Y.pval F (X.w0 rfl) rfl (Y.bd rfl rfl (Try.exn1 _)) ?_
 clear F ac
 intro ac F
 refine Y.pval F (X.w0 rfl) rfl (Y.bd rfl rfl (Try.exn2 _)) ?_
 clear F ac
 intro ac F
 refine Y.pval F (X.w0 rfl) rfl (X.bs rfl (X.b2 (F.ev 8 (.agg #[.int .i64 1, .int .i64 1, .int .i64 1, .int .i64 0])) (F.ev 9 (.agg #[.int .i64 2, .int .i64 2, .int .i64 1, .int .i64 0]))) (Try.exm _)) ?_
 clear F ac
 intro ac F
 have g := Gr.alloc w4 (.cells #[.int .i64 1, .int .i64 1, .int .i64 1, .int .i64 0, .int .i64 2, .int .i64 2, .int .i64 1, .int .i64 0] 33)
 have hb := heap_alloc_new w4 (.cells #[.int .i64 1, .int .i64 1, .int .i64 1, .int .i64 0, .int .i64 2, .int .i64 2, .int .i64 1, .int .i64 0] 33)
 have hbl : w4.heap.size < (w4.alloc (.cells #[.int .i64 1, .int .i64 1, .int .i64 1, .int .i64 0, .int .i64 2, .int .i64 2, .int .i64 1, .int .i64 0] 33)).heap.size := by simp
 generalize w4.alloc (.cells #[.int .i64 1, .int .i64 1, .int .i64 1, .int .i64 0, .int .i64 2, .int .i64 2, .int .i64 1, .int .i64 0] 33) = w5 at *
 replace G := G.trans g
 replace hN3 := hN3.gr g
 have hexL := exL_at hb
 clear g hb hbl
 refine Y.pcall F (X.w0 rfl) rfl (X.enter (F := 18) rfl (X.kc (.func (.func 18) #[] #[]) rfl) (X.a3 (F.ev 7 (.agg #[.int .i64 2, .int .i64 3, .slice ea3 3 3])) (X.kc (.int .i64 6) rfl) (F.ev 10 (.slice (some ⟨w4.heap.size, 0, none⟩) 2 2))) (enters_of Try.func18 (by kernel_rfl) rfl _)) (play_any ea3 (some ⟨w4.heap.size, 0, none⟩) 3 3 2 2 2 3 6 exN exL w5 hN3 hexL) ?_
 clear F ac
 rintro e w7 ⟨ra, rn, rc, za, zn, zc, rfl, hIr, hIe, g⟩
 rw [ex_pr] at hIr
 rw [ex_en] at hIe
 obtain rfl : 6 = rn := hIr.len
 obtain rfl : 3 = zn := hIe.len
 refine ⟨_, rfl, ?_⟩
 rw [ex_e]
 intro ac F
 replace G := G.trans g
 replace hN3 := hN3.gr g
 replace hexL := hexL.gr g
 clear g
 refine Y.pval F (X.w0 rfl) rfl (X.move rfl (F.ev 11 (.tuple #[.slice ra 6 rc, .slice za 3 zc, .int .i64 0]))) ?_
 clear F ac
 intro ac F
 refine Y.pval F (X.w0 rfl) rfl (X.extract rfl (F.ev 6 (.tuple #[.slice ra 6 rc, .slice za 3 zc, .int .i64 0])) rfl) ?_
 clear F ac
 intro ac F
 refine Y.pval F (X.w0 rfl) rfl (X.extract rfl (F.ev 6 (.tuple #[.slice ra 6 rc, .slice za 3 zc, .int .i64 0])) rfl) ?_
 clear F ac
 intro ac F
 refine Y.pval F (X.w0 rfl) rfl (X.extract rfl (F.ev 6 (.tuple #[.slice ra 6 rc, .slice za 3 zc, .int .i64 0])) rfl) ?_
 clear F ac
 intro ac F
 refine Y.pval F (X.w0 rfl) rfl (X.assign rfl (F.ev 12 (.slice ra 6 rc))) ?_
 clear F ac
 intro ac F
 refine Y.pval F (X.w0 rfl) rfl (X.assign rfl (F.ev 13 (.slice za 3 zc))) ?_
 clear F ac
 intro ac F
 refine Y.pval F (X.w0 rfl) rfl (X.assign rfl (F.ev 14 (.int .i64 0))) ?_
 clear F ac
 intro ac F
 refine Y.nil ?_
 replace F : Fr ac 40 [(0, .bool false), (1, .slice ra 6 rc), (2, .slice za 3 zc), (3, .int .i64 0)] := F.sub _
 refine X.thenN ?_
 refine Y.seq ?_
 refine Y.lit (by kernel_rfl) ?_
 refine Y.pcall F (X.w0 rfl) rfl (X.enter (F := 43) rfl (X.kc (.func (.func 43) #[] #[]) rfl) rfl (enters_of Try.func43 (by kernel_rfl) rfl _)) (example_any w7) ?_
 clear F ac
 rintro e w9 ⟨ea8, rfl, hN8, g⟩
 refine ⟨_, rfl, ?_⟩
 intro ac F
 replace G := G.trans g
 replace hN3 := hN3.gr g
 replace hexL := hexL.gr g
 replace hIr := hIr.gr g
 replace hIe := hIe.gr g
 clear g
 refine Y.pcall F (X.w0 rfl) rfl (X.enter (F := 21) rfl (X.kc (.func (.func 21) #[] #[]) rfl) (X.a2 (F.ev 16 (.agg #[.int .i64 2, .int .i64 3, .slice ea8 3 3])) (X.kc (.int .i64 8) rfl)) (enters_of Try.func21 (by kernel_rfl) rfl _)) (by have h := parked_any ea8 3 3 2 3 8 exN w9 hN8; rw [ex_p, ex_t] at h; exact h) ?_
 clear F ac
 rintro e w11 ⟨rfl, g⟩
 refine ⟨_, rfl, ?_⟩
 intro ac F
 replace G := G.trans g
 replace hN3 := hN3.gr g
 replace hexL := hexL.gr g
 replace hIr := hIr.gr g
 replace hIe := hIe.gr g
 replace hN8 := hN8.gr g
 clear g
 refine Y.pval F (X.w0 rfl) rfl (X.move rfl (F.ev 17 (.tuple #[.int .i64 186, .int .i64 0]))) ?_
 clear F ac
 intro ac F
 refine Y.pval F (X.w0 rfl) rfl (X.extract rfl (F.ev 15 (.tuple #[.int .i64 186, .int .i64 0])) rfl) ?_
 clear F ac
 intro ac F
 refine Y.pval F (X.w0 rfl) rfl (X.extract rfl (F.ev 15 (.tuple #[.int .i64 186, .int .i64 0])) rfl) ?_
 clear F ac
 intro ac F
 refine Y.pval F (X.w0 rfl) rfl (X.assign rfl (F.ev 18 (.int .i64 186))) ?_
 clear F ac
 intro ac F
 refine Y.pval F (X.w0 rfl) rfl (X.assign rfl (F.ev 19 (.int .i64 0))) ?_
 clear F ac
 intro ac F
 refine Y.nil ?_
 replace F : Fr ac 40 [(0, .bool false), (1, .slice ra 6 rc), (2, .slice za 3 zc), (3, .int .i64 0), (4, .int .i64 186), (5, .int .i64 0)] := F.sub _
 refine X.thenN ?_
 refine Y.seq ?_
 refine Y.lit (by kernel_rfl) ?_
 refine Y.pval F (X.w0 rfl) rfl (X.move rfl (F.ev 3 (.int .i64 0))) ?_
 clear F ac
 intro ac F
 refine Y.pval F (X.w0 rfl) rfl (X.binop rfl (F.ev 20 (.int .i64 0)) (X.kc (.int .i64 0) rfl) (X.eqlI Try.underlying26 (show ((0 : Int) == 0) = true by simp))) ?_
 clear F ac
 intro ac F
 refine Y.pval F (X.w0 rfl) rfl (X.move rfl (F.ev 21 (.bool true))) ?_
 clear F ac
 intro ac F
 refine Y.pval F (X.w1 rfl (F.yl (j := 2) (d := 22) (b := true) rfl (by kernel_rfl))) rfl (X.move rfl (F.ev 5 (.int .i64 0))) ?_
 clear F ac
 intro ac F
 refine Y.pval F (X.w1 rfl (F.yl (j := 2) (d := 22) (b := true) rfl (by kernel_rfl))) rfl (X.binop rfl (F.ev 23 (.int .i64 0)) (X.kc (.int .i64 0) rfl) (X.eqlI Try.underlying26 (show ((0 : Int) == 0) = true by simp))) ?_
 clear F ac
 intro ac F
 refine Y.pval F (X.w0 rfl) rfl (X.pickT rfl (F.ev 22 (.bool true)) (F.ev 24 (.bool true))) ?_
 clear F ac
 intro ac F
 refine Y.pval F (X.w0 rfl) rfl (X.move rfl (F.ev 25 (.bool true))) ?_
 clear F ac
 intro ac F
 refine Y.pval F (X.w1 rfl (F.yl (j := 6) (d := 26) (b := true) rfl (by kernel_rfl))) rfl (X.move rfl (F.ev 1 (.slice ra 6 rc))) ?_
 clear F ac
 intro ac F
 refine Y.pval F (X.w1 rfl (F.yl (j := 6) (d := 26) (b := true) rfl (by kernel_rfl))) rfl (X.bs rfl rfl (Try.exr _)) ?_
 clear F ac
 intro ac F
 have g := Gr.alloc w11 (.cells #[.int .i64 0, .int .i64 3, .int .i64 3, .int .i64 3, .int .i64 0, .int .i64 0] 3)
 have hb := heap_alloc_new w11 (.cells #[.int .i64 0, .int .i64 3, .int .i64 3, .int .i64 3, .int .i64 0, .int .i64 0] 3)
 have hbl : w11.heap.size < (w11.alloc (.cells #[.int .i64 0, .int .i64 3, .int .i64 3, .int .i64 3, .int .i64 0, .int .i64 0] 3)).heap.size := by simp
 generalize w11.alloc (.cells #[.int .i64 0, .int .i64 3, .int .i64 3, .int .i64 3, .int .i64 0, .int .i64 0] 3) = w12 at *
 replace G := G.trans g
 replace hN3 := hN3.gr g
 replace hexL := hexL.gr g
 replace hIr := hIr.gr g
 replace hIe := hIe.gr g
 replace hN8 := hN8.gr g
 have hxr := exr_at hb
 clear g hb hbl
 refine Y.pcall F (X.w1 rfl (F.yl (j := 6) (d := 26) (b := true) rfl (by kernel_rfl))) rfl (X.enter (F := 27) rfl (X.kc (.func (.func 27) #[] #[]) rfl) (X.a2 (F.ev 27 (.slice ra 6 rc)) (F.ev 28 (.slice (some ⟨w11.heap.size, 0, none⟩) 6 6))) (enters_of Try.func27 (by kernel_rfl) rfl _)) (by have hq := same_any ra (some ⟨w11.heap.size, 0, none⟩) 6 rc 6 6 ([0, 3, 3, 3, 0, 0]) ([0, 3, 3, 3, 0, 0]) w12 hIr hxr; rw [decide_eq_true rfl] at hq; exact hq) ?_
 clear F ac
 rintro e w14 ⟨rfl, g⟩
 refine ⟨_, rfl, ?_⟩
 intro ac F
 replace G := G.trans g
 replace hN3 := hN3.gr g
 replace hexL := hexL.gr g
 replace hIr := hIr.gr g
 replace hIe := hIe.gr g
 replace hN8 := hN8.gr g
 replace hxr := hxr.gr g
 clear g
 refine Y.pval F (X.w0 rfl) rfl (X.pickT rfl (F.ev 26 (.bool true)) (F.ev 29 (.bool true))) ?_
 clear F ac
 intro ac F
 refine Y.pval F (X.w0 rfl) rfl (X.move rfl (F.ev 30 (.bool true))) ?_
 clear F ac
 intro ac F
 refine Y.pval F (X.w1 rfl (F.yl (j := 11) (d := 31) (b := true) rfl (by kernel_rfl))) rfl (X.move rfl (F.ev 2 (.slice za 3 zc))) ?_
 clear F ac
 intro ac F
 refine Y.pval F (X.w1 rfl (F.yl (j := 11) (d := 31) (b := true) rfl (by kernel_rfl))) rfl (X.bs rfl rfl (Try.exq _)) ?_
 clear F ac
 intro ac F
 have g := Gr.alloc w14 (.cells #[.int .i64 33, .int .i64 66, .int .i64 0] 3)
 have hb := heap_alloc_new w14 (.cells #[.int .i64 33, .int .i64 66, .int .i64 0] 3)
 have hbl : w14.heap.size < (w14.alloc (.cells #[.int .i64 33, .int .i64 66, .int .i64 0] 3)).heap.size := by simp
 generalize w14.alloc (.cells #[.int .i64 33, .int .i64 66, .int .i64 0] 3) = w15 at *
 replace G := G.trans g
 replace hN3 := hN3.gr g
 replace hexL := hexL.gr g
 replace hIr := hIr.gr g
 replace hIe := hIe.gr g
 replace hN8 := hN8.gr g
 replace hxr := hxr.gr g
 have hxq := exq_at hb
 clear g hb hbl
 refine Y.pcall F (X.w1 rfl (F.yl (j := 11) (d := 31) (b := true) rfl (by kernel_rfl))) rfl (X.enter (F := 27) rfl (X.kc (.func (.func 27) #[] #[]) rfl) (X.a2 (F.ev 32 (.slice za 3 zc)) (F.ev 33 (.slice (some ⟨w14.heap.size, 0, none⟩) 3 3))) (enters_of Try.func27 (by kernel_rfl) rfl _)) (by have hq := same_any za (some ⟨w14.heap.size, 0, none⟩) 3 zc 3 3 ([33, 66, 0]) ([33, 66, 0]) w15 hIe hxq; rw [decide_eq_true rfl] at hq; exact hq) ?_
 clear F ac
 rintro e w17 ⟨rfl, g⟩
 refine ⟨_, rfl, ?_⟩
 intro ac F
 replace G := G.trans g
 replace hN3 := hN3.gr g
 replace hexL := hexL.gr g
 replace hIr := hIr.gr g
 replace hIe := hIe.gr g
 replace hN8 := hN8.gr g
 replace hxr := hxr.gr g
 replace hxq := hxq.gr g
 clear g
 refine Y.pval F (X.w0 rfl) rfl (X.pickT rfl (F.ev 31 (.bool true)) (F.ev 34 (.bool true))) ?_
 clear F ac
 intro ac F
 refine Y.pval F (X.w0 rfl) rfl (X.move rfl (F.ev 35 (.bool true))) ?_
 clear F ac
 intro ac F
 refine Y.pval F (X.w1 rfl (F.yl (j := 16) (d := 36) (b := true) rfl (by kernel_rfl))) rfl (X.move rfl (F.ev 4 (.int .i64 186))) ?_
 clear F ac
 intro ac F
 refine Y.pval F (X.w1 rfl (F.yl (j := 16) (d := 36) (b := true) rfl (by kernel_rfl))) rfl (X.binop rfl (F.ev 37 (.int .i64 186)) (X.kc (.int .i64 186) rfl) (X.eqlI Try.underlying3 (show ((186 : Int) == 186) = true by simp))) ?_
 clear F ac
 intro ac F
 refine Y.pval F (X.w0 rfl) rfl (X.pickT rfl (F.ev 36 (.bool true)) (F.ev 38 (.bool true))) ?_
 clear F ac
 intro ac F
 refine Y.pval F (X.w0 rfl) rfl (X.assign rfl (F.ev 39 (.bool true))) ?_
 clear F ac
 intro ac F
 refine Y.nil ?_
 replace F : Fr ac 40 [(0, .bool true), (1, .slice ra 6 rc), (2, .slice za 3 zc), (3, .int .i64 0), (4, .int .i64 186), (5, .int .i64 0)] := F.sub _
 refine X.thenN ?_
 refine Y.ret ?_
 exact Y.ret0 (v := .bool true) F (Y.rs1 F rfl (by kernel_rfl)) ⟨rfl, G⟩
end
end Go.Proofs.Ytoalamakhjbedaa
