/- Several texts of this claim in one file. (1) Contract: Fail. (2) Contracts of the reference: Energy, Play, Asked, Fail. -/
import Derived.Test.YtoalamakhjbedaaBd14
import Derived.Test.YtoalamakhjbedaaBd12
import Derived.Test.YtoalamakhjbedaaBd3
import Derived.Test.YtoalamakhjbedaaBd13
import Derived.Test.YtoalamakhjbedaaBd6
namespace Go.Proofs.Ytoalamakhjbedaa
section
open Go.RowKit

/-- a node is asleep though it is asked for -/
def failP (nd : List (List Int)) (asked rows : List Int) (k i : Nat) : Bool := andV (cv nd i 0) (asked[k]?.getD 0) != 0 && andV (shrV (rows[k]?.getD 0) i) 1 == 0
/-- the first such tick and node -/
def FailIs (p : Nat → Nat → Bool) (T n : Nat) (a b : Int) : Prop :=
  (a = -1 ∧ b = -1 ∧ ∀ k, k < T → ∀ i, i < n → p k i = false) ∨ ∃ k i : Nat, a = k ∧ b = i ∧ k < T ∧ i < n ∧ p k i = true ∧ (∀ i2, i2 < i → p k i2 = false) ∧ ∀ k2, k2 < k → ∀ i2, i2 < n → p k2 i2 = false

set_option maxRecDepth 100000 in
set_option maxHeartbeats 1000000 in
theorem fail_any (na la : Option Addr) (n nc m lc : Nat) (gr hold t : Int) (nd l : List (List Int)) (w : World) (hnd : StAt w 5 na n nd) (hl : StAt w 4 la m l) :
  Calls Try.prog 29 #[.agg #[.int .i64 gr, .int .i64 hold, .slice na n nc], .int .i64 t, .slice la m lc] w fun e w' => ∃ a b : Int, e = .returned (.tuple #[.int .i64 a, .int .i64 b, .int .i64 (playE gr hold nd t l)]) ∧ (¬ playE gr hold nd t l = 0 → a = 0 ∧ b = 0) ∧ (playE gr hold nd t l = 0 → FailIs (failP nd (playAsk gr hold nd t l) (playRows gr hold nd t l)) t.toNat n a b) ∧ Gr w w' := by
 have G := Gr.refl w
 have hnd0 := hnd
 have hl0 := hl
 have hlm := hl.lt
 have hlnn := hnd.lt
 refine Y.calls 66 Try.func29 rfl rfl ?_
 intro ac F0
 have F : Fr ac 66 [(0, .agg #[.int .i64 gr, .int .i64 hold, .slice na n nc]), (1, .int .i64 t), (2, .slice la m lc)] := F0.sub _
 clear F0
 refine Y.seq ?_
 refine Y.lit (by kernel_rfl) ?_
 refine Y.pv F (X.box rfl (F.ev 0 (.agg #[.int .i64 gr, .int .i64 hold, .slice na n nc])) X.bx) ?_;clear F ac;intro ac F
 have g := Gr.alloc w (.cells #[.int .i64 gr, .int .i64 hold, .slice na n nc] 24)
 have hb := heap_alloc_new w (.cells #[.int .i64 gr, .int .i64 hold, .slice na n nc] 24)
 have hbl : w.heap.size < (w.alloc (.cells #[.int .i64 gr, .int .i64 hold, .slice na n nc] 24)).heap.size := by simp
 have hC2 : RCells (w.alloc (.cells #[.int .i64 gr, .int .i64 hold, .slice na n nc] 24)) [(⟨w.heap.size, 0, none⟩, .int .i64 gr), (⟨w.heap.size, 1, none⟩, .int .i64 hold), (⟨w.heap.size, 2, none⟩, .slice na n nc)] := (RCells.nil w).box (b := w.heap.size) #[.int .i64 gr, .int .i64 hold, .slice na n nc] 24 rfl
 generalize w.alloc (.cells #[.int .i64 gr, .int .i64 hold, .slice na n nc] 24) = w3 at *
 replace G := G.trans g
 have hC := hC2
 clear hC2
 replace hnd := hnd.gr g
 replace hl := hl.gr g
 clear g hb hbl
 have hC0 := hC
 refine Y.pv F (X.assign rfl (X.kc (.int .i64 0) rfl)) ?_;clear F ac;intro ac F
 refine Y.pv F (X.assign rfl (X.kc (.int .i64 0) rfl)) ?_;clear F ac;intro ac F
 refine Y.pv F (X.assign rfl (X.kc (.int .i64 0) rfl)) ?_;clear F ac;intro ac F
 refine Y.nil ?_
 replace F : Fr ac 66 [(0, .agg #[.int .i64 gr, .int .i64 hold, .slice na n nc]), (1, .int .i64 t), (2, .slice la m lc), (3, .pointer (some ⟨w.heap.size, 0, none⟩)), (6, .int .i64 0), (7, .int .i64 0), (8, .int .i64 0)] := F.sub _
 refine X.thenN ?_
 refine Y.seq ?_
 refine Y.lit (by kernel_rfl) ?_
 refine Y.pv F (X.load rfl (F.ev 3 (.pointer (some ⟨w.heap.size, 0, none⟩))) (X.ldN (Try.agg24 _) (Try.siz24 _) (Y.atz (⟨w.heap.size, 0, none⟩) (Y.AtFrom.cons (hC.at 0 rfl) (Y.AtFrom.cons (hC.at 1 rfl) (Y.AtFrom.cons (hC.at 2 rfl) (Y.AtFrom.nil _ _ _))))))) ?_;clear F ac;intro ac F
 refine Y.pv F (X.move rfl (F.ev 1 (.int .i64 t))) ?_;clear F ac;intro ac F
 refine Y.pv F (X.move rfl (F.ev 2 (.slice la m lc))) ?_;clear F ac;intro ac F
 by_cases hE : playE gr hold nd t l = 0
 ·have hE := hE
  refine Y.pcall F (X.w0 rfl) rfl (X.enter (F := 44) rfl (X.kc (.func (.func 44) #[] #[]) rfl) (X.a3 (F.ev 17 (.agg #[.int .i64 gr, .int .i64 hold, .slice na n nc])) (F.ev 18 (.int .i64 t)) (F.ev 19 (.slice la m lc))) (enters_of Try.func44 (by kernel_rfl) rfl _)) (begin_any na la n nc m lc gr hold t nd l w3 hnd hl) ?_
  clear F ac
  rintro e w5 ⟨-, g, h0⟩
  obtain ⟨bp, rfl, hBg⟩ := h0 hE
  clear h0
  refine ⟨_, rfl, ?_⟩
  intro ac F
  have hBsz : w3.heap.size = w3.heap.size := rfl
  replace G := G.trans g
  replace hC := hC.gr g
  replace hnd := hnd.gr g
  replace hl := hl.gr g
  clear g
  refine Y.pv F (X.move rfl (F.ev 20 (.tuple #[.pointer (some ⟨bp, 0, none⟩), .int .i64 0]))) ?_;clear F ac;intro ac F
  refine Y.pv F (X.extract rfl (F.ev 16 (.tuple #[.pointer (some ⟨bp, 0, none⟩), .int .i64 0])) rfl) ?_;clear F ac;intro ac F
  refine Y.pv F (X.extract rfl (F.ev 16 (.tuple #[.pointer (some ⟨bp, 0, none⟩), .int .i64 0])) rfl) ?_;clear F ac;intro ac F
  refine Y.pv F (X.assign rfl (F.ev 21 (.pointer (some ⟨bp, 0, none⟩)))) ?_;clear F ac;intro ac F
  refine Y.pv F (X.assign rfl (F.ev 22 (.int .i64 0))) ?_;clear F ac;intro ac F
  refine Y.nil ?_
  replace F : Fr ac 66 [(0, .agg #[.int .i64 gr, .int .i64 hold, .slice na n nc]), (1, .int .i64 t), (2, .slice la m lc), (3, .pointer (some ⟨w.heap.size, 0, none⟩)), (6, .int .i64 0), (7, .int .i64 0), (8, .int .i64 0), (9, .pointer (some ⟨bp, 0, none⟩))] := F.sub _
  refine X.thenN ?_
  refine Y.seq ?_
  refine Y.seq ?_
  refine Y.lit (by kernel_rfl) ?_
  refine Y.pv F (X.move rfl (F.ev 8 (.int .i64 0))) ?_;clear F ac;intro ac F
  refine Y.pv F (X.binop rfl (F.ev 23 (.int .i64 0)) (X.kc (.int .i64 0) rfl) (X.neqI Try.underlying26 (show ((0 : Int) != 0) = false by simp))) ?_;clear F ac;intro ac F
  refine Y.nil ?_
  replace F : Fr ac 66 [(0, .agg #[.int .i64 gr, .int .i64 hold, .slice na n nc]), (1, .int .i64 t), (2, .slice la m lc), (3, .pointer (some ⟨w.heap.size, 0, none⟩)), (6, .int .i64 0), (7, .int .i64 0), (8, .int .i64 0), (9, .pointer (some ⟨bp, 0, none⟩)), (24, .bool false)] := F.sub _
  refine X.thenN ?_
  refine Y.condF (F.ev 24 (.bool false)) ?_
  refine Y.skip ?_
  refine X.thenN ?_
  refine Y.seq ?_
  refine Y.lit (by kernel_rfl) ?_
  refine Y.pv F (X.move rfl (F.ev 9 (.pointer (some ⟨bp, 0, none⟩)))) ?_;clear F ac;intro ac F
  refine Y.pv F (X.move rfl (F.ev 1 (.int .i64 t))) ?_;clear F ac;intro ac F
  have hok := playE_ok hE
  have hc := hok.c
  have ht0 := hok.t0
  have ht1 := hok.t1
  have hln := hnd.len
  have h16 : n ≤ 16 := by have := hc.n16; omega
  obtain ⟨bn, pa, cap, hP, hS⟩ := hBg
  have hpb := hP.pb
  have hnb := hP.nb
  have hg1 := hc.g1
  have hg8 := hc.g8
  have hSO : SOk n (startS nd) := by have := SOk.start hc; rwa [hln] at this
  have htt : t = ((t.toNat : Nat) : Int) := by omega
  have hgw := G.size
  have hnu : ∀ x ∈ l, NuOk gr nd t x := fun x hx => by obtain ⟨i, hi, rfl⟩ := List.getElem_of_mem hx; have := hok.nu i hi; rwa [List.getElem?_eq_getElem hi] at this
  refine Y.pcall F (X.w0 rfl) rfl (X.enter (F := 45) rfl (X.kc (.func (.func 45) #[] #[]) rfl) (X.a2 (F.ev 27 (.pointer (some ⟨bp, 0, none⟩))) (F.ev 28 (.int .i64 t))) (enters_of Try.func45 (by kernel_rfl) rfl _)) (by have h := run_any w3 w5 bp bn gr hold na la pa n nc m lc cap l (startS nd) t.toNat hP hS h16 ⟨nd, t, hln, hg8, hnu⟩ hSO hc.h1 hc.h100 (by omega) (by omega); rw [← htt] at h; exact h) ?_
  clear F ac
  rintro e w6 ⟨v1, v2, rfl, hon, -, hO1, hO2⟩
  refine ⟨_, rfl, ?_⟩
  intro ac F
  have hcb : w.heap.size < w3.heap.size := lt_cell (hC0.at 0 rfl)
  replace hC := (hC.kc hon 0 rfl (hC.kc hon 1 rfl (hC.kc hon 2 rfl (RCells.nil _))))
  replace G := Y.Only.up G hon (by omega)
  replace hnd := hnd0.gr G
  replace hl := hl0.gr G
  clear hon hS hP
  obtain ⟨aa, ac1, rfl, hIa, hIab⟩ := hO1.intsN (runFrom_len t.toNat).1 (by omega)
  obtain ⟨ra, rc, rfl, hIr, hIrb⟩ := hO2.intsN (runFrom_len t.toNat).2 (by omega)
  clear hO1 hO2
  refine Y.pv F (X.move rfl (F.ev 29 (.tuple #[.slice aa t.toNat ac1, .slice ra t.toNat rc]))) ?_;clear F ac;intro ac F
  refine Y.pv F (X.extract rfl (F.ev 26 (.tuple #[.slice aa t.toNat ac1, .slice ra t.toNat rc])) rfl) ?_;clear F ac;intro ac F
  refine Y.pv F (X.extract rfl (F.ev 26 (.tuple #[.slice aa t.toNat ac1, .slice ra t.toNat rc])) rfl) ?_;clear F ac;intro ac F
  refine Y.pv F (X.assign rfl (F.ev 30 (.slice aa t.toNat ac1))) ?_;clear F ac;intro ac F
  refine Y.pv F (X.assign rfl (F.ev 31 (.slice ra t.toNat rc))) ?_;clear F ac;intro ac F
  refine Y.nil ?_
  replace F : Fr ac 66 [(0, .agg #[.int .i64 gr, .int .i64 hold, .slice na n nc]), (1, .int .i64 t), (2, .slice la m lc), (3, .pointer (some ⟨w.heap.size, 0, none⟩)), (6, .int .i64 0), (7, .int .i64 0), (8, .int .i64 0), (9, .pointer (some ⟨bp, 0, none⟩)), (10, .slice aa t.toNat ac1), (11, .slice ra t.toNat rc), (24, .bool false)] := F.sub _
  refine X.thenN ?_
  refine Y.seq ?_
  refine Y.seq ?_
  refine Y.lit (by kernel_rfl) ?_
  refine Y.pv F (X.move rfl (F.ev 11 (.slice ra t.toNat rc))) ?_;clear F ac;intro ac F
  refine Y.pv F (X.len1 Try.underlying34 rfl (F.ev 32 (.slice ra t.toNat rc))) ?_;clear F ac;intro ac F
  refine Y.pv F (X.move rfl (X.kc (.int .i64 0) rfl)) ?_;clear F ac;intro ac F
  refine Y.nil ?_
  replace F : Fr ac 66 [(0, .agg #[.int .i64 gr, .int .i64 hold, .slice na n nc]), (1, .int .i64 t), (2, .slice la m lc), (3, .pointer (some ⟨w.heap.size, 0, none⟩)), (6, .int .i64 0), (7, .int .i64 0), (8, .int .i64 0), (9, .pointer (some ⟨bp, 0, none⟩)), (10, .slice aa t.toNat ac1), (11, .slice ra t.toNat rc), (24, .bool false), (32, .slice ra t.toNat rc), (33, .int .i64 t.toNat), (34, .int .i64 0)] := F.sub _
  refine X.thenN ?_
  refine Y.block ?_
  have hndB := hnd
  have hlB := hl
  have hIaB := hIa
  have hIrB := hIr
  have hCB := hC
  have GB := G
  refine Y.loop (fun me_ ac wr => ∃ (k : Nat), me_ = t.toNat - k ∧ Gr w6 wr ∧ k ≤ t.toNat ∧ (∀ k2, k2 < k → ∀ i, i < n → failP nd (runFrom hold gr.toNat n l (startS nd) t.toNat).asked (runFrom hold gr.toNat n l (startS nd) t.toNat).rows k2 i = false) ∧ Fr ac 66 [(0, .agg #[.int .i64 gr, .int .i64 hold, .slice na n nc]), (1, .int .i64 t), (2, .slice la m lc), (3, .pointer (some ⟨w.heap.size, 0, none⟩)), (9, .pointer (some ⟨bp, 0, none⟩)), (10, .slice aa t.toNat ac1), (11, .slice ra t.toNat rc), (24, .bool false), (32, .slice ra t.toNat rc), (33, .int .i64 t.toNat), (34, .int .i64 k)]) _ ⟨0, rfl, Gr.refl _, Nat.zero_le _, fun k2 h => absurd h (Nat.not_lt_zero _), F.sub _⟩ ?_
  clear F
  intro me_ ac w7 hI
  obtain ⟨k, rfl, gr, hk, hno, F⟩ := hI
  replace G := GB.trans gr
  replace hC := hCB.gr gr
  replace hnd := hndB.gr gr
  replace hl := hlB.gr gr
  replace hIa := hIaB.gr gr
  replace hIr := hIrB.gr gr
  have GB_ := gr
  clear gr
  refine Y.seq ?_
  refine Y.lit (by kernel_rfl) ?_
  refine Y.pv F (X.binop rfl (F.ev 34 (.int .i64 k)) (F.ev 33 (.int .i64 t.toNat)) (X.lssI Try.underlying3 rfl)) ?_;clear F ac;intro ac F
  refine Y.nil ?_
  replace F : Fr ac 66 [(0, .agg #[.int .i64 gr, .int .i64 hold, .slice na n nc]), (1, .int .i64 t), (2, .slice la m lc), (3, .pointer (some ⟨w.heap.size, 0, none⟩)), (9, .pointer (some ⟨bp, 0, none⟩)), (10, .slice aa t.toNat ac1), (11, .slice ra t.toNat rc), (24, .bool false), (32, .slice ra t.toNat rc), (33, .int .i64 t.toNat), (34, .int .i64 k), (35, .bool (decide ((k : Int) < t.toNat)))] := F.sub _
  refine X.thenN ?_
  refine Y.seq ?_
  cases h8 : decide ((k : Int) < t.toNat) with
  | false =>
   try rw [h8] at F
   have h8p : ¬ ((k : Int) < t.toNat) := of_decide_eq_false h8
   have hrl := (runFrom_len (n := n) (gr := gr.toNat) (s := startS nd) (hold := hold) (l := l) t.toNat)
   have hkt : k = t.toNat := by omega
   subst hkt
   refine Y.condF (F.ev 35 (.bool false)) ?_
   refine Y.exit ?_
   refine X.thenX ?_
   refine X.thenX ?_
   refine X.blockX ?_
   refine X.thenN ?_
   refine Y.seq ?_
   refine Y.lit (by kernel_rfl) ?_
   refine Y.pv F (X.assign rfl (X.kc (.int .i64 (-1)) rfl)) ?_;clear F ac;intro ac F
   refine Y.pv F (X.assign rfl (X.kc (.int .i64 (-1)) rfl)) ?_;clear F ac;intro ac F
   refine Y.pv F (X.assign rfl (X.kc (.int .i64 0) rfl)) ?_;clear F ac;intro ac F
   refine Y.nil ?_
   replace F : Fr ac 66 [(0, .agg #[.int .i64 gr, .int .i64 hold, .slice na n nc]), (1, .int .i64 t), (2, .slice la m lc), (3, .pointer (some ⟨w.heap.size, 0, none⟩)), (6, .int .i64 (-1)), (7, .int .i64 (-1)), (8, .int .i64 0), (9, .pointer (some ⟨bp, 0, none⟩)), (10, .slice aa t.toNat ac1), (11, .slice ra t.toNat rc), (24, .bool false), (32, .slice ra t.toNat rc), (33, .int .i64 t.toNat), (34, .int .i64 t.toNat), (35, .bool false)] := F.sub _
   refine X.thenN ?_
   refine Y.ret ?_
   have e1 : playAsk gr hold nd t l = (runFrom hold gr.toNat n l (startS nd) t.toNat).asked := by unfold playAsk playR; rw [if_pos hE, hln]
   have e2 : playRows gr hold nd t l = (runFrom hold gr.toNat n l (startS nd) t.toNat).rows := by unfold playRows playR; rw [if_pos hE, hln]
   exact Y.ret0 (v := .tuple #[.int .i64 (-1), .int .i64 (-1), .int .i64 0]) F (Y.rs3 F rfl (by kernel_rfl) (by kernel_rfl) (by kernel_rfl)) ⟨_, _, by rw [hE], fun h => absurd hE h, fun _ => .inl ⟨rfl, rfl, by rw [e1, e2]; exact hno⟩, G⟩
  | true =>
   try rw [h8] at F
   have h8p : ((k : Int) < t.toNat) := of_decide_eq_true h8
   have hrl := (runFrom_len (n := n) (gr := gr.toNat) (s := startS nd) (hold := hold) (l := l) t.toNat)
   have hk2 : k < t.toNat := by omega
   refine Y.condT (F.ev 35 (.bool true)) ?_
   refine Y.skip ?_
   refine X.thenN ?_
   refine Y.seq ?_
   refine Y.block ?_
   refine Y.seq ?_
   refine Y.lit (by kernel_rfl) ?_
   refine Y.pv F (X.move rfl (F.ev 34 (.int .i64 k))) ?_;clear F ac;intro ac F
   obtain ⟨pd9, pe9, -, pc9⟩ := hIr.at (j := k) (by omega)
   subst pe9
   replace hC : RCells w7 [(⟨w.heap.size, 0, none⟩, .int .i64 gr), (⟨w.heap.size, 1, none⟩, .int .i64 hold), (⟨w.heap.size, 2, none⟩, .slice na n nc), (pd9.add k, .int .i64 (((runFrom hold gr.toNat n l (startS nd) t.toNat).rows)[k]?.getD 0))] := hC.append ((RCells.cons pc9 (RCells.nil _)))
   clear pc9
   refine Y.pv F (X.index rfl (F.ev 32 (.slice (some pd9) t.toNat rc)) (F.ev 34 (.int .i64 k)) (X.idx (k := k) Try.underlying34 (Try.siz3 _) (by omega) (by omega) (by rw [Nat.mul_one]))) ?_;clear F ac;intro ac F
   refine Y.pv F (X.load rfl (F.ev 37 (.pointer (some (pd9.add k)))) (X.ld1 (Try.agg3 _) (hC.at 3 rfl))) ?_;clear F ac;intro ac F
   refine Y.pv F (X.assign rfl (F.ev 36 (.int .i64 k))) ?_;clear F ac;intro ac F
   refine Y.pv F (X.assign rfl (F.ev 38 (.int .i64 (((runFrom hold gr.toNat n l (startS nd) t.toNat).rows)[k]?.getD 0)))) ?_;clear F ac;intro ac F
   refine Y.nil ?_
   replace F : Fr ac 66 [(0, .agg #[.int .i64 gr, .int .i64 hold, .slice na n nc]), (1, .int .i64 t), (2, .slice la m lc), (3, .pointer (some ⟨w.heap.size, 0, none⟩)), (9, .pointer (some ⟨bp, 0, none⟩)), (10, .slice aa t.toNat ac1), (11, .slice (some pd9) t.toNat rc), (12, .int .i64 k), (13, .int .i64 (((runFrom hold gr.toNat n l (startS nd) t.toNat).rows)[k]?.getD 0)), (24, .bool false), (32, .slice (some pd9) t.toNat rc), (33, .int .i64 t.toNat), (34, .int .i64 k), (35, .bool true)] := F.sub _
   refine X.thenN ?_
   refine Y.seq ?_
   refine Y.lit (by kernel_rfl) ?_
   refine Y.pv F (X.field rfl (F.ev 3 (.pointer (some ⟨w.heap.size, 0, none⟩))) (X.fld Try.underlying24 rfl (Try.siz22 _) rfl rfl)) ?_;clear F ac;intro ac F
   refine Y.pv F (X.load rfl (F.ev 39 (.pointer (some ⟨w.heap.size, 2, none⟩))) (X.ld1 (Try.agg22 _) (hC.at 2 rfl))) ?_;clear F ac;intro ac F
   refine Y.pv F (X.len1 Try.underlying22 rfl (F.ev 40 (.slice na n nc))) ?_;clear F ac;intro ac F
   refine Y.pv F (X.move rfl (X.kc (.int .i64 0) rfl)) ?_;clear F ac;intro ac F
   refine Y.nil ?_
   replace F : Fr ac 66 [(0, .agg #[.int .i64 gr, .int .i64 hold, .slice na n nc]), (1, .int .i64 t), (2, .slice la m lc), (3, .pointer (some ⟨w.heap.size, 0, none⟩)), (9, .pointer (some ⟨bp, 0, none⟩)), (10, .slice aa t.toNat ac1), (11, .slice (some pd9) t.toNat rc), (12, .int .i64 k), (13, .int .i64 (((runFrom hold gr.toNat n l (startS nd) t.toNat).rows)[k]?.getD 0)), (24, .bool false), (32, .slice (some pd9) t.toNat rc), (33, .int .i64 t.toNat), (34, .int .i64 k), (35, .bool true), (40, .slice na n nc), (41, .int .i64 n), (42, .int .i64 0)] := F.sub _
   refine X.thenN ?_
   refine Y.block ?_
   have hndBB := hnd
   have hlBB := hl
   have hIaBB := hIa
   have hIrBB := hIr
   have hCBB := hC
   have GBB := G
   refine Y.loop (fun me_ ac wr => ∃ (i : Nat), me_ = n - i ∧ Gr w7 wr ∧ i ≤ n ∧ (∀ i2, i2 < i → failP nd (runFrom hold gr.toNat n l (startS nd) t.toNat).asked (runFrom hold gr.toNat n l (startS nd) t.toNat).rows k i2 = false) ∧ Fr ac 66 [(0, .agg #[.int .i64 gr, .int .i64 hold, .slice na n nc]), (1, .int .i64 t), (2, .slice la m lc), (3, .pointer (some ⟨w.heap.size, 0, none⟩)), (9, .pointer (some ⟨bp, 0, none⟩)), (10, .slice aa t.toNat ac1), (11, .slice (some pd9) t.toNat rc), (12, .int .i64 k), (13, .int .i64 (((runFrom hold gr.toNat n l (startS nd) t.toNat).rows)[k]?.getD 0)), (24, .bool false), (32, .slice (some pd9) t.toNat rc), (33, .int .i64 t.toNat), (34, .int .i64 k), (35, .bool true), (40, .slice na n nc), (41, .int .i64 n), (42, .int .i64 i)]) _ ⟨0, rfl, Gr.refl _, Nat.zero_le _, fun i2 h => absurd h (Nat.not_lt_zero _), F.sub _⟩ ?_
   clear F
   intro me_ ac w10 hI
   obtain ⟨i, rfl, gr, hi, hni, F⟩ := hI
   replace G := GBB.trans gr
   replace hC := hCBB.gr gr
   replace hnd := hndBB.gr gr
   replace hl := hlBB.gr gr
   replace hIa := hIaBB.gr gr
   replace hIr := hIrBB.gr gr
   replace GB_ := GB_.trans gr
   have GBB_ := gr
   clear gr
   refine Y.seq ?_
   refine Y.lit (by kernel_rfl) ?_
   refine Y.pv F (X.binop rfl (F.ev 42 (.int .i64 i)) (F.ev 41 (.int .i64 n)) (X.lssI Try.underlying3 rfl)) ?_;clear F ac;intro ac F
   refine Y.nil ?_
   replace F : Fr ac 66 [(0, .agg #[.int .i64 gr, .int .i64 hold, .slice na n nc]), (1, .int .i64 t), (2, .slice la m lc), (3, .pointer (some ⟨w.heap.size, 0, none⟩)), (9, .pointer (some ⟨bp, 0, none⟩)), (10, .slice aa t.toNat ac1), (11, .slice (some pd9) t.toNat rc), (12, .int .i64 k), (13, .int .i64 (((runFrom hold gr.toNat n l (startS nd) t.toNat).rows)[k]?.getD 0)), (24, .bool false), (32, .slice (some pd9) t.toNat rc), (33, .int .i64 t.toNat), (34, .int .i64 k), (35, .bool true), (40, .slice na n nc), (41, .int .i64 n), (42, .int .i64 i), (43, .bool (decide ((i : Int) < n)))] := F.sub _
   refine X.thenN ?_
   refine Y.seq ?_
   cases h11 : decide ((i : Int) < n) with
   | false =>
    try rw [h11] at F
    have h11p : ¬ ((i : Int) < n) := of_decide_eq_false h11
    obtain rfl : n = i := by omega
    refine Y.condF (F.ev 43 (.bool false)) ?_
    refine Y.exit ?_
    refine X.thenX ?_
    refine X.thenX ?_
    refine X.blockX ?_
    refine X.blockN ?_
    refine X.thenN ?_
    refine Y.lit (by kernel_rfl) ?_
    refine Y.pv F (X.binop rfl (F.ev 34 (.int .i64 k)) (X.kc (.int .i64 1) rfl) (X.addI Try.underlying3 rfl (by omega) (by omega))) ?_;clear F ac;intro ac F
    refine Y.pv F (X.move rfl (F.ev 65 (.int .i64 ((k : Int) + 1)))) ?_;clear F ac;intro ac F
    refine Y.nil ?_
    replace F : Fr ac 66 [(0, .agg #[.int .i64 gr, .int .i64 hold, .slice na n nc]), (1, .int .i64 t), (2, .slice la m lc), (3, .pointer (some ⟨w.heap.size, 0, none⟩)), (9, .pointer (some ⟨bp, 0, none⟩)), (10, .slice aa t.toNat ac1), (11, .slice (some pd9) t.toNat rc), (12, .int .i64 k), (13, .int .i64 (((runFrom hold gr.toNat n l (startS nd) t.toNat).rows)[k]?.getD 0)), (24, .bool false), (32, .slice (some pd9) t.toNat rc), (33, .int .i64 t.toNat), (34, .int .i64 ((k : Int) + 1)), (35, .bool true), (40, .slice na n nc), (41, .int .i64 n), (42, .int .i64 n), (43, .bool false)] := F.sub _
    refine X.thenN ?_
    refine ⟨_, ?_, k + 1, rfl, GB_, by omega, (fun k2 h i hi => by
     rcases Nat.lt_succ_iff_lt_or_eq.1 h with h | rfl
     ·exact hno k2 h i hi
     ·exact hni i hi), F.sub _⟩
    omega
   | true =>
    try rw [h11] at F
    have h11p : ((i : Int) < n) := of_decide_eq_true h11
    have hi2 : i < n := by omega
    refine Y.condT (F.ev 43 (.bool true)) ?_
    refine Y.skip ?_
    refine X.thenN ?_
    refine Y.seq ?_
    refine Y.block ?_
    refine Y.seq ?_
    refine Y.lit (by kernel_rfl) ?_
    refine Y.pv F (X.move rfl (F.ev 42 (.int .i64 i))) ?_;clear F ac;intro ac F
    obtain ⟨pd12, pe12, -, -, pc12⟩ := hnd.at (j := i) (by omega)
    subst pe12
    replace hC : RCells w10 [(⟨w.heap.size, 0, none⟩, .int .i64 gr), (⟨w.heap.size, 1, none⟩, .int .i64 hold), (⟨w.heap.size, 2, none⟩, .slice (some pd12) n nc), (pd9.add k, .int .i64 (((runFrom hold gr.toNat n l (startS nd) t.toNat).rows)[k]?.getD 0)), (pd12.add (i * 5), .int .i64 (cv nd i 0)), (⟨(pd12.add (i * 5)).block, (pd12.add (i * 5)).off + 1, none⟩, .int .i64 (cv nd i 1)), (⟨(pd12.add (i * 5)).block, (pd12.add (i * 5)).off + 2, none⟩, .int .i64 (cv nd i 2)), (⟨(pd12.add (i * 5)).block, (pd12.add (i * 5)).off + 3, none⟩, .int .i64 (cv nd i 3)), (⟨(pd12.add (i * 5)).block, (pd12.add (i * 5)).off + 4, none⟩, .int .i64 (cv nd i 4))] := hC.append ((RCells.cons (pc12 0 (by decide)) (RCells.cons (pc12 1 (by decide)) (RCells.cons (pc12 2 (by decide)) (RCells.cons (pc12 3 (by decide)) (RCells.cons (pc12 4 (by decide)) (RCells.nil _)))))))
    clear pc12
    refine Y.pv F (X.index rfl (F.ev 40 (.slice (some pd12) n nc)) (F.ev 42 (.int .i64 i)) (X.idx (k := i) Try.underlying22 (Try.siz31 _) (by omega) (by omega) rfl)) ?_;clear F ac;intro ac F
    refine Y.pv F (X.load rfl (F.ev 45 (.pointer (some (pd12.add (i * 5))))) (X.ldN (Try.agg31 _) (Try.siz31 _) (Y.atz (pd12.add (i * 5)) (Y.AtFrom.cons (hC.at 4 rfl) (Y.AtFrom.cons (hC.at 5 rfl) (Y.AtFrom.cons (hC.at 6 rfl) (Y.AtFrom.cons (hC.at 7 rfl) (Y.AtFrom.cons (hC.at 8 rfl) (Y.AtFrom.nil _ _ _))))))))) ?_;clear F ac;intro ac F
    refine Y.pv F (Y.al rfl (Try.new31 _)) ?_;clear F ac;intro ac F
    refine Y.pv F (X.assign rfl (F.ev 44 (.int .i64 i))) ?_;clear F ac;intro ac F
    refine Y.punit F (X.w0 rfl) rfl (X.store rfl (F.ev 15 (.pointer (some ⟨w10.heap.size, 0, none⟩))) (F.ev 46 (.agg #[.int .i64 (cv nd i 0), .int .i64 (cv nd i 1), .int .i64 (cv nd i 2), .int .i64 (cv nd i 3), .int .i64 (cv nd i 4)])) (Y.stNew [.int .i64 (cv nd i 0), .int .i64 (cv nd i 1), .int .i64 (cv nd i 2), .int .i64 (cv nd i 3), .int .i64 (cv nd i 4)] [.int .i64 0, .int .i64 0, .int .i64 0, .int .i64 0, .int .i64 0] (Try.siz31 _) rfl rfl)) ?_;clear F ac;intro ac F
    have hq13 : w.heap.size < w10.heap.size := lt_cell (hC.at 0 rfl)
    have g := Gr.alloc w10 (.cells #[.int .i64 (cv nd i 0), .int .i64 (cv nd i 1), .int .i64 (cv nd i 2), .int .i64 (cv nd i 3), .int .i64 (cv nd i 4)] 31)
    have hb := heap_alloc_new w10 (.cells #[.int .i64 (cv nd i 0), .int .i64 (cv nd i 1), .int .i64 (cv nd i 2), .int .i64 (cv nd i 3), .int .i64 (cv nd i 4)] 31)
    have hbl : w10.heap.size < (w10.alloc (.cells #[.int .i64 (cv nd i 0), .int .i64 (cv nd i 1), .int .i64 (cv nd i 2), .int .i64 (cv nd i 3), .int .i64 (cv nd i 4)] 31)).heap.size := by simp
    have hC2 : RCells (w10.alloc (.cells #[.int .i64 (cv nd i 0), .int .i64 (cv nd i 1), .int .i64 (cv nd i 2), .int .i64 (cv nd i 3), .int .i64 (cv nd i 4)] 31)) [(⟨w.heap.size, 0, none⟩, .int .i64 gr), (⟨w.heap.size, 1, none⟩, .int .i64 hold), (⟨w.heap.size, 2, none⟩, .slice (some pd12) n nc), (pd9.add k, .int .i64 (((runFrom hold gr.toNat n l (startS nd) t.toNat).rows)[k]?.getD 0)), (pd12.add (i * 5), .int .i64 (cv nd i 0)), (⟨(pd12.add (i * 5)).block, (pd12.add (i * 5)).off + 1, none⟩, .int .i64 (cv nd i 1)), (⟨(pd12.add (i * 5)).block, (pd12.add (i * 5)).off + 2, none⟩, .int .i64 (cv nd i 2)), (⟨(pd12.add (i * 5)).block, (pd12.add (i * 5)).off + 3, none⟩, .int .i64 (cv nd i 3)), (⟨(pd12.add (i * 5)).block, (pd12.add (i * 5)).off + 4, none⟩, .int .i64 (cv nd i 4)), (⟨w10.heap.size, 0, none⟩, .int .i64 (cv nd i 0)), (⟨w10.heap.size, 1, none⟩, .int .i64 (cv nd i 1)), (⟨w10.heap.size, 2, none⟩, .int .i64 (cv nd i 2)), (⟨w10.heap.size, 3, none⟩, .int .i64 (cv nd i 3)), (⟨w10.heap.size, 4, none⟩, .int .i64 (cv nd i 4))] := hC.box (b := w10.heap.size) #[.int .i64 (cv nd i 0), .int .i64 (cv nd i 1), .int .i64 (cv nd i 2), .int .i64 (cv nd i 3), .int .i64 (cv nd i 4)] 31 rfl
    generalize w10.alloc (.cells #[.int .i64 (cv nd i 0), .int .i64 (cv nd i 1), .int .i64 (cv nd i 2), .int .i64 (cv nd i 3), .int .i64 (cv nd i 4)] 31) = w14 at *
    replace G := G.trans g
    replace hC := hC2
    clear hC2
    replace GB_ := GB_.trans g
    replace GBB_ := GBB_.trans g
    replace hnd := hnd.gr g
    replace hl := hl.gr g
    replace hIa := hIa.gr g
    replace hIr := hIr.gr g
    clear g hb hbl
    refine Y.nil ?_
    replace F : Fr ac 66 [(0, .agg #[.int .i64 gr, .int .i64 hold, .slice (some pd12) n nc]), (1, .int .i64 t), (2, .slice la m lc), (3, .pointer (some ⟨w.heap.size, 0, none⟩)), (9, .pointer (some ⟨bp, 0, none⟩)), (10, .slice aa t.toNat ac1), (11, .slice (some pd9) t.toNat rc), (12, .int .i64 k), (13, .int .i64 (((runFrom hold gr.toNat n l (startS nd) t.toNat).rows)[k]?.getD 0)), (14, .int .i64 i), (15, .pointer (some ⟨w10.heap.size, 0, none⟩)), (24, .bool false), (32, .slice (some pd9) t.toNat rc), (33, .int .i64 t.toNat), (34, .int .i64 k), (35, .bool true), (40, .slice (some pd12) n nc), (41, .int .i64 n), (42, .int .i64 i), (43, .bool true)] := F.sub _
    refine X.thenN ?_
    refine Y.seq ?_
    obtain ⟨pd15, pe15, -, pc15⟩ := hIa.at (j := k) (by omega)
    subst pe15
    replace hC : RCells w14 [(⟨w.heap.size, 0, none⟩, .int .i64 gr), (⟨w.heap.size, 1, none⟩, .int .i64 hold), (⟨w.heap.size, 2, none⟩, .slice (some pd12) n nc), (pd9.add k, .int .i64 (((runFrom hold gr.toNat n l (startS nd) t.toNat).rows)[k]?.getD 0)), (pd12.add (i * 5), .int .i64 (cv nd i 0)), (⟨(pd12.add (i * 5)).block, (pd12.add (i * 5)).off + 1, none⟩, .int .i64 (cv nd i 1)), (⟨(pd12.add (i * 5)).block, (pd12.add (i * 5)).off + 2, none⟩, .int .i64 (cv nd i 2)), (⟨(pd12.add (i * 5)).block, (pd12.add (i * 5)).off + 3, none⟩, .int .i64 (cv nd i 3)), (⟨(pd12.add (i * 5)).block, (pd12.add (i * 5)).off + 4, none⟩, .int .i64 (cv nd i 4)), (⟨w10.heap.size, 0, none⟩, .int .i64 (cv nd i 0)), (⟨w10.heap.size, 1, none⟩, .int .i64 (cv nd i 1)), (⟨w10.heap.size, 2, none⟩, .int .i64 (cv nd i 2)), (⟨w10.heap.size, 3, none⟩, .int .i64 (cv nd i 3)), (⟨w10.heap.size, 4, none⟩, .int .i64 (cv nd i 4)), (pd15.add k, .int .i64 (((runFrom hold gr.toNat n l (startS nd) t.toNat).asked)[k]?.getD 0))] := hC.append ((RCells.cons pc15 (RCells.nil _)))
    clear pc15
    cases h16 : ((andV (cv nd i 0 : Int) (((runFrom hold gr.toNat n l (startS nd) t.toNat).asked)[k]?.getD 0 : Int) : Int) != 0) with
    | false =>
     try rw [h16] at F
     have h16p : (andV (cv nd i 0 : Int) (((runFrom hold gr.toNat n l (startS nd) t.toNat).asked)[k]?.getD 0 : Int) : Int) = 0 := by simpa using h16
     refine Y.region F [some (.pointer (some ⟨w10.heap.size, 0, none⟩)), some (.int .i64 (cv nd i 0)), some (.slice (some pd15) t.toNat ac1), some (.int .i64 k), some (.pointer (some (pd15.add k))), some (.int .i64 (((runFrom hold gr.toNat n l (startS nd) t.toNat).asked)[k]?.getD 0)), some (.int .i64 (andV (cv nd i 0 : Int) (((runFrom hold gr.toNat n l (startS nd) t.toNat).asked)[k]?.getD 0 : Int))), some (.bool false), some (.bool false), none, none, none, none, none, some (.bool false)] [] rfl ⟨by kernel_rfl, of_decide_eq_true (by kernel_rfl), by kernel_rfl, by kernel_rfl, by kernel_rfl⟩ ⟨?_, ?_, ?_, ?_, ?_, ?_, ?_, ?_, ?_, ?_, ?_, ?_, ?_, ?_, ?_, trivial⟩ ?_
     ·intro ac done u W Sx hR
      exact X.vl (X.field rfl (Sx.ev 15 (.pointer (some ⟨w10.heap.size, 0, none⟩))) (X.fld Try.underlying31 rfl (Try.siz3 _) rfl rfl)) hR.st0
     ·intro ac done u W Sx hR
      have g : Gr w14 W := hR.1
      exact X.vl (X.load rfl (Sx.ev 47 (.pointer (some ⟨w10.heap.size, 0, none⟩))) (X.ld1 (Try.agg3 _) ((hC.gr g).at 9 rfl))) hR.st0
     ·intro ac done u W Sx hR
      exact X.vl (X.move rfl (Sx.ev 10 (.slice (some pd15) t.toNat ac1))) hR.st0
     ·intro ac done u W Sx hR
      exact X.vl (X.move rfl (Sx.ev 12 (.int .i64 k))) hR.st0
     ·intro ac done u W Sx hR
      exact X.vl (X.index rfl (Sx.ev 49 (.slice (some pd15) t.toNat ac1)) (Sx.ev 50 (.int .i64 k)) (X.idx (k := k) Try.underlying34 (Try.siz3 _) (by omega) (by omega) (by rw [Nat.mul_one]))) hR.st0
     ·intro ac done u W Sx hR
      have g : Gr w14 W := hR.1
      exact X.vl (X.load rfl (Sx.ev 51 (.pointer (some (pd15.add k)))) (X.ld1 (Try.agg3 _) ((hC.gr g).at 14 rfl))) hR.st0
     ·intro ac done u W Sx hR
      exact X.vl (X.binop rfl (Sx.ev 48 (.int .i64 (cv nd i 0))) (Sx.ev 52 (.int .i64 (((runFrom hold gr.toNat n l (startS nd) t.toNat).asked)[k]?.getD 0))) (X.andI Try.underlying3 rfl)) hR.st0
     ·intro ac done u W Sx hR
      exact X.vl (X.binop rfl (Sx.ev 53 (.int .i64 (andV (cv nd i 0 : Int) (((runFrom hold gr.toNat n l (startS nd) t.toNat).asked)[k]?.getD 0 : Int)))) (X.kc (.int .i64 0) rfl) (X.neqI Try.underlying3 h16)) hR.st0
     ·intro ac done u W Sx hR
      exact X.vl (X.move rfl (Sx.ev 54 (.bool false))) hR.st0
     ·intro ac done u W Sx hR
      exact X.skip (X.w2 rfl (Sx.yl 8 55 false (by kernel_rfl) rfl rfl) rfl) rfl (hR.skip rfl)
     ·intro ac done u W Sx hR
      exact X.skip (X.w2 rfl (Sx.yl 8 55 false (by kernel_rfl) rfl rfl) rfl) rfl (hR.skip rfl)
     ·intro ac done u W Sx hR
      exact X.skip (X.w2 rfl (Sx.yl 8 55 false (by kernel_rfl) rfl rfl) rfl) rfl (hR.skip rfl)
     ·intro ac done u W Sx hR
      exact X.skip (X.w2 rfl (Sx.yl 8 55 false (by kernel_rfl) rfl rfl) rfl) rfl (hR.skip rfl)
     ·intro ac done u W Sx hR
      exact X.skip (X.w2 rfl (Sx.yl 8 55 false (by kernel_rfl) rfl rfl) rfl) rfl (hR.skip rfl)
     ·intro ac done u W Sx hR
      exact X.vl (X.pickF rfl (Sx.ev 55 (.bool false)) (X.kc (.bool false) rfl)) hR.st0
     intro ac u w17 hs hd hl ho hR
     have g : Gr w14 w17 := hR.1
     replace F : Fr ac 66 [(0, .agg #[.int .i64 gr, .int .i64 hold, .slice (some pd12) n nc]), (1, .int .i64 t), (2, .slice la m lc), (3, .pointer (some ⟨w.heap.size, 0, none⟩)), (9, .pointer (some ⟨bp, 0, none⟩)), (10, .slice (some pd15) t.toNat ac1), (11, .slice (some pd9) t.toNat rc), (12, .int .i64 k), (13, .int .i64 (((runFrom hold gr.toNat n l (startS nd) t.toNat).rows)[k]?.getD 0)), (14, .int .i64 i), (15, .pointer (some ⟨w10.heap.size, 0, none⟩)), (24, .bool false), (32, .slice (some pd9) t.toNat rc), (33, .int .i64 t.toNat), (34, .int .i64 k), (35, .bool true), (40, .slice (some pd12) n nc), (41, .int .i64 n), (42, .int .i64 i), (43, .bool true), (61, .bool false)] := X.fr hs hd hl _ (by kernel_rfl)
     clear hs hd hl ho hR
     replace G := G.trans g
     replace hC := hC.gr g
     replace GB_ := GB_.trans g
     replace GBB_ := GBB_.trans g
     replace hnd := hnd.gr g
     replace hl := hl.gr g
     replace hIa := hIa.gr g
     replace hIr := hIr.gr g
     clear g
     refine X.thenN ?_
     refine Y.condF (F.ev 61 (.bool false)) ?_
     refine Y.skip ?_
     refine X.blockN ?_
     refine X.thenN ?_
     refine Y.lit (by kernel_rfl) ?_
     refine Y.pv F (X.binop rfl (F.ev 42 (.int .i64 i)) (X.kc (.int .i64 1) rfl) (X.addI Try.underlying3 rfl (by omega) (by omega))) ?_;clear F ac;intro ac F
     refine Y.pv F (X.move rfl (F.ev 64 (.int .i64 ((i : Int) + 1)))) ?_;clear F ac;intro ac F
     refine Y.nil ?_
     replace F : Fr ac 66 [(0, .agg #[.int .i64 gr, .int .i64 hold, .slice (some pd12) n nc]), (1, .int .i64 t), (2, .slice la m lc), (3, .pointer (some ⟨w.heap.size, 0, none⟩)), (9, .pointer (some ⟨bp, 0, none⟩)), (10, .slice (some pd15) t.toNat ac1), (11, .slice (some pd9) t.toNat rc), (12, .int .i64 k), (13, .int .i64 (((runFrom hold gr.toNat n l (startS nd) t.toNat).rows)[k]?.getD 0)), (14, .int .i64 i), (15, .pointer (some ⟨w10.heap.size, 0, none⟩)), (24, .bool false), (32, .slice (some pd9) t.toNat rc), (33, .int .i64 t.toNat), (34, .int .i64 k), (35, .bool true), (40, .slice (some pd12) n nc), (41, .int .i64 n), (42, .int .i64 ((i : Int) + 1)), (43, .bool true), (61, .bool false)] := F.sub _
     refine X.thenN ?_
     refine ⟨_, ?_, i + 1, rfl, GBB_, by omega, (fun i2 h => by
      rcases Nat.lt_succ_iff_lt_or_eq.1 h with h | rfl
      ·exact hni i2 h
      ·simp [failP, h16]), F.sub _⟩
     omega
    | true =>
     try rw [h16] at F
     have h16p : ¬ (andV (cv nd i 0 : Int) (((runFrom hold gr.toNat n l (startS nd) t.toNat).asked)[k]?.getD 0 : Int) : Int) = 0 := by simpa using h16
     refine Y.region F [some (.pointer (some ⟨w10.heap.size, 0, none⟩)), some (.int .i64 (cv nd i 0)), some (.slice (some pd15) t.toNat ac1), some (.int .i64 k), some (.pointer (some (pd15.add k))), some (.int .i64 (((runFrom hold gr.toNat n l (startS nd) t.toNat).asked)[k]?.getD 0)), some (.int .i64 (andV (cv nd i 0 : Int) (((runFrom hold gr.toNat n l (startS nd) t.toNat).asked)[k]?.getD 0 : Int))), some (.bool true), some (.bool true), some (.int .i64 (((runFrom hold gr.toNat n l (startS nd) t.toNat).rows)[k]?.getD 0)), some (.int .i64 i), some (.int .i64 (shrV (((runFrom hold gr.toNat n l (startS nd) t.toNat).rows)[k]?.getD 0 : Int) (i : Int))), some (.int .i64 (andV (shrV (((runFrom hold gr.toNat n l (startS nd) t.toNat).rows)[k]?.getD 0 : Int) (i : Int) : Int) 1)), some (.bool ((andV (shrV (((runFrom hold gr.toNat n l (startS nd) t.toNat).rows)[k]?.getD 0 : Int) (i : Int) : Int) 1 : Int) == 0)), some (.bool ((andV (shrV (((runFrom hold gr.toNat n l (startS nd) t.toNat).rows)[k]?.getD 0 : Int) (i : Int) : Int) 1 : Int) == 0))] [] rfl ⟨by kernel_rfl, of_decide_eq_true (by kernel_rfl), by kernel_rfl, by kernel_rfl, by kernel_rfl⟩ ⟨?_, ?_, ?_, ?_, ?_, ?_, ?_, ?_, ?_, ?_, ?_, ?_, ?_, ?_, ?_, trivial⟩ ?_
     ·intro ac done u W Sx hR
      exact X.vl (X.field rfl (Sx.ev 15 (.pointer (some ⟨w10.heap.size, 0, none⟩))) (X.fld Try.underlying31 rfl (Try.siz3 _) rfl rfl)) hR.st0
     ·intro ac done u W Sx hR
      have g : Gr w14 W := hR.1
      exact X.vl (X.load rfl (Sx.ev 47 (.pointer (some ⟨w10.heap.size, 0, none⟩))) (X.ld1 (Try.agg3 _) ((hC.gr g).at 9 rfl))) hR.st0
     ·intro ac done u W Sx hR
      exact X.vl (X.move rfl (Sx.ev 10 (.slice (some pd15) t.toNat ac1))) hR.st0
     ·intro ac done u W Sx hR
      exact X.vl (X.move rfl (Sx.ev 12 (.int .i64 k))) hR.st0
     ·intro ac done u W Sx hR
      exact X.vl (X.index rfl (Sx.ev 49 (.slice (some pd15) t.toNat ac1)) (Sx.ev 50 (.int .i64 k)) (X.idx (k := k) Try.underlying34 (Try.siz3 _) (by omega) (by omega) (by rw [Nat.mul_one]))) hR.st0
     ·intro ac done u W Sx hR
      have g : Gr w14 W := hR.1
      exact X.vl (X.load rfl (Sx.ev 51 (.pointer (some (pd15.add k)))) (X.ld1 (Try.agg3 _) ((hC.gr g).at 14 rfl))) hR.st0
     ·intro ac done u W Sx hR
      exact X.vl (X.binop rfl (Sx.ev 48 (.int .i64 (cv nd i 0))) (Sx.ev 52 (.int .i64 (((runFrom hold gr.toNat n l (startS nd) t.toNat).asked)[k]?.getD 0))) (X.andI Try.underlying3 rfl)) hR.st0
     ·intro ac done u W Sx hR
      exact X.vl (X.binop rfl (Sx.ev 53 (.int .i64 (andV (cv nd i 0 : Int) (((runFrom hold gr.toNat n l (startS nd) t.toNat).asked)[k]?.getD 0 : Int)))) (X.kc (.int .i64 0) rfl) (X.neqI Try.underlying3 h16)) hR.st0
     ·intro ac done u W Sx hR
      exact X.vl (X.move rfl (Sx.ev 54 (.bool true))) hR.st0
     ·intro ac done u W Sx hR
      exact X.val (X.w1 rfl (Sx.yl 8 55 true (by kernel_rfl) rfl rfl)) rfl (X.move rfl (Sx.ev 13 (.int .i64 (((runFrom hold gr.toNat n l (startS nd) t.toNat).rows)[k]?.getD 0)))) hR.st0
     ·intro ac done u W Sx hR
      exact X.val (X.w1 rfl (Sx.yl 8 55 true (by kernel_rfl) rfl rfl)) rfl (X.move rfl (Sx.ev 14 (.int .i64 i))) hR.st0
     ·intro ac done u W Sx hR
      exact X.val (X.w1 rfl (Sx.yl 8 55 true (by kernel_rfl) rfl rfl)) rfl (X.binop rfl (Sx.ev 56 (.int .i64 (((runFrom hold gr.toNat n l (startS nd) t.toNat).rows)[k]?.getD 0))) (Sx.ev 57 (.int .i64 i)) (X.shrI Try.underlying3 rfl (by omega))) hR.st0
     ·intro ac done u W Sx hR
      exact X.val (X.w1 rfl (Sx.yl 8 55 true (by kernel_rfl) rfl rfl)) rfl (X.binop rfl (Sx.ev 58 (.int .i64 (shrV (((runFrom hold gr.toNat n l (startS nd) t.toNat).rows)[k]?.getD 0 : Int) (i : Int)))) (X.kc (.int .i64 1) rfl) (X.andI Try.underlying3 rfl)) hR.st0
     ·intro ac done u W Sx hR
      exact X.val (X.w1 rfl (Sx.yl 8 55 true (by kernel_rfl) rfl rfl)) rfl (X.binop rfl (Sx.ev 59 (.int .i64 (andV (shrV (((runFrom hold gr.toNat n l (startS nd) t.toNat).rows)[k]?.getD 0 : Int) (i : Int) : Int) 1))) (X.kc (.int .i64 0) rfl) (X.eqlI Try.underlying3 rfl)) hR.st0
     ·intro ac done u W Sx hR
      exact X.vl (X.pickT rfl (Sx.ev 55 (.bool true)) (Sx.ev 60 (.bool ((andV (shrV (((runFrom hold gr.toNat n l (startS nd) t.toNat).rows)[k]?.getD 0 : Int) (i : Int) : Int) 1 : Int) == 0)))) hR.st0
     intro ac u w18 hs hd hl ho hR
     have g : Gr w14 w18 := hR.1
     replace F : Fr ac 66 [(0, .agg #[.int .i64 gr, .int .i64 hold, .slice (some pd12) n nc]), (1, .int .i64 t), (2, .slice la m lc), (3, .pointer (some ⟨w.heap.size, 0, none⟩)), (9, .pointer (some ⟨bp, 0, none⟩)), (10, .slice (some pd15) t.toNat ac1), (11, .slice (some pd9) t.toNat rc), (12, .int .i64 k), (13, .int .i64 (((runFrom hold gr.toNat n l (startS nd) t.toNat).rows)[k]?.getD 0)), (14, .int .i64 i), (15, .pointer (some ⟨w10.heap.size, 0, none⟩)), (24, .bool false), (32, .slice (some pd9) t.toNat rc), (33, .int .i64 t.toNat), (34, .int .i64 k), (35, .bool true), (40, .slice (some pd12) n nc), (41, .int .i64 n), (42, .int .i64 i), (43, .bool true), (61, .bool ((andV (shrV (((runFrom hold gr.toNat n l (startS nd) t.toNat).rows)[k]?.getD 0 : Int) (i : Int) : Int) 1 : Int) == 0))] := X.fr hs hd hl _ (by kernel_rfl)
     clear hs hd hl ho hR
     replace G := G.trans g
     replace hC := hC.gr g
     replace GB_ := GB_.trans g
     replace GBB_ := GBB_.trans g
     replace hnd := hnd.gr g
     replace hl := hl.gr g
     replace hIa := hIa.gr g
     replace hIr := hIr.gr g
     clear g
     refine X.thenN ?_
     cases h19 : ((andV (shrV (((runFrom hold gr.toNat n l (startS nd) t.toNat).rows)[k]?.getD 0 : Int) (i : Int) : Int) 1 : Int) == 0) with
     | false =>
      try rw [h19] at F
      have h19p : ¬ (andV (shrV (((runFrom hold gr.toNat n l (startS nd) t.toNat).rows)[k]?.getD 0 : Int) (i : Int) : Int) 1 : Int) = 0 := by simpa using h19
      refine Y.condF (F.ev 61 (.bool false)) ?_
      refine Y.skip ?_
      refine X.blockN ?_
      refine X.thenN ?_
      refine Y.lit (by kernel_rfl) ?_
      refine Y.pv F (X.binop rfl (F.ev 42 (.int .i64 i)) (X.kc (.int .i64 1) rfl) (X.addI Try.underlying3 rfl (by omega) (by omega))) ?_;clear F ac;intro ac F
      refine Y.pv F (X.move rfl (F.ev 64 (.int .i64 ((i : Int) + 1)))) ?_;clear F ac;intro ac F
      refine Y.nil ?_
      replace F : Fr ac 66 [(0, .agg #[.int .i64 gr, .int .i64 hold, .slice (some pd12) n nc]), (1, .int .i64 t), (2, .slice la m lc), (3, .pointer (some ⟨w.heap.size, 0, none⟩)), (9, .pointer (some ⟨bp, 0, none⟩)), (10, .slice (some pd15) t.toNat ac1), (11, .slice (some pd9) t.toNat rc), (12, .int .i64 k), (13, .int .i64 (((runFrom hold gr.toNat n l (startS nd) t.toNat).rows)[k]?.getD 0)), (14, .int .i64 i), (15, .pointer (some ⟨w10.heap.size, 0, none⟩)), (24, .bool false), (32, .slice (some pd9) t.toNat rc), (33, .int .i64 t.toNat), (34, .int .i64 k), (35, .bool true), (40, .slice (some pd12) n nc), (41, .int .i64 n), (42, .int .i64 ((i : Int) + 1)), (43, .bool true), (61, .bool false)] := F.sub _
      refine X.thenN ?_
      refine ⟨_, ?_, i + 1, rfl, GBB_, by omega, (fun i2 h => by
       rcases Nat.lt_succ_iff_lt_or_eq.1 h with h | rfl
       ·exact hni i2 h
       ·simp [failP, h16, h19]), F.sub _⟩
      omega
     | true =>
      try rw [h19] at F
      have h19p : (andV (shrV (((runFrom hold gr.toNat n l (startS nd) t.toNat).rows)[k]?.getD 0 : Int) (i : Int) : Int) 1 : Int) = 0 := by simpa using h19
      refine Y.condT (F.ev 61 (.bool true)) ?_
      refine Y.seq ?_
      refine Y.lit (by kernel_rfl) ?_
      refine Y.pv F (X.move rfl (F.ev 12 (.int .i64 k))) ?_;clear F ac;intro ac F
      refine Y.pv F (X.move rfl (F.ev 14 (.int .i64 i))) ?_;clear F ac;intro ac F
      refine Y.pv F (X.assign rfl (F.ev 62 (.int .i64 k))) ?_;clear F ac;intro ac F
      refine Y.pv F (X.assign rfl (F.ev 63 (.int .i64 i))) ?_;clear F ac;intro ac F
      refine Y.pv F (X.assign rfl (X.kc (.int .i64 0) rfl)) ?_;clear F ac;intro ac F
      refine Y.nil ?_
      replace F : Fr ac 66 [(0, .agg #[.int .i64 gr, .int .i64 hold, .slice (some pd12) n nc]), (1, .int .i64 t), (2, .slice la m lc), (3, .pointer (some ⟨w.heap.size, 0, none⟩)), (6, .int .i64 k), (7, .int .i64 i), (8, .int .i64 0), (9, .pointer (some ⟨bp, 0, none⟩)), (10, .slice (some pd15) t.toNat ac1), (11, .slice (some pd9) t.toNat rc), (12, .int .i64 k), (13, .int .i64 (((runFrom hold gr.toNat n l (startS nd) t.toNat).rows)[k]?.getD 0)), (14, .int .i64 i), (15, .pointer (some ⟨w10.heap.size, 0, none⟩)), (24, .bool false), (32, .slice (some pd9) t.toNat rc), (33, .int .i64 t.toNat), (34, .int .i64 k), (35, .bool true), (40, .slice (some pd12) n nc), (41, .int .i64 n), (42, .int .i64 i), (43, .bool true), (61, .bool true)] := F.sub _
      refine X.thenN ?_
      refine Y.ret ?_
      refine X.blockR ?_
      refine X.thenR ?_
      refine X.thenR ?_
      refine X.blockR ?_
      refine X.blockR ?_
      refine X.thenR ?_
      refine X.thenR ?_
      refine X.blockR ?_
      refine X.thenR ?_
      have e1 : playAsk gr hold nd t l = (runFrom hold gr.toNat n l (startS nd) t.toNat).asked := by unfold playAsk playR; rw [if_pos hE, hln]
      have e2 : playRows gr hold nd t l = (runFrom hold gr.toNat n l (startS nd) t.toNat).rows := by unfold playRows playR; rw [if_pos hE, hln]
      exact Y.ret0 (v := .tuple #[.int .i64 k, .int .i64 i, .int .i64 0]) F (Y.rs3 F rfl (by kernel_rfl) (by kernel_rfl) (by kernel_rfl)) ⟨_, _, by rw [hE], fun h => absurd hE h, fun _ => .inr ⟨k, i, rfl, rfl, hk2, hi2, by rw [e1, e2]; simp [failP, h16, h19], by rw [e1, e2]; exact hni, by rw [e1, e2]; exact hno⟩, G⟩
 ·have hE := hE
  refine Y.pcall F (X.w0 rfl) rfl (X.enter (F := 44) rfl (X.kc (.func (.func 44) #[] #[]) rfl) (X.a3 (F.ev 17 (.agg #[.int .i64 gr, .int .i64 hold, .slice na n nc])) (F.ev 18 (.int .i64 t)) (F.ev 19 (.slice la m lc))) (enters_of Try.func44 (by kernel_rfl) rfl _)) (begin_any na la n nc m lc gr hold t nd l w3 hnd hl) ?_
  clear F ac
  rintro e w20 ⟨h1, g, -⟩
  obtain rfl := h1 hE
  refine ⟨_, rfl, ?_⟩
  intro ac F
  replace G := G.trans g
  replace hC := hC.gr g
  replace hnd := hnd.gr g
  replace hl := hl.gr g
  clear g
  refine Y.pv F (X.move rfl (F.ev 20 (.tuple #[.pointer none, .int .i64 (playE gr hold nd t l)]))) ?_;clear F ac;intro ac F
  refine Y.pv F (X.extract rfl (F.ev 16 (.tuple #[.pointer none, .int .i64 (playE gr hold nd t l)])) rfl) ?_;clear F ac;intro ac F
  refine Y.pv F (X.extract rfl (F.ev 16 (.tuple #[.pointer none, .int .i64 (playE gr hold nd t l)])) rfl) ?_;clear F ac;intro ac F
  refine Y.pv F (X.assign rfl (F.ev 21 (.pointer none))) ?_;clear F ac;intro ac F
  refine Y.pv F (X.assign rfl (F.ev 22 (.int .i64 (playE gr hold nd t l)))) ?_;clear F ac;intro ac F
  refine Y.nil ?_
  replace F : Fr ac 66 [(0, .agg #[.int .i64 gr, .int .i64 hold, .slice na n nc]), (1, .int .i64 t), (2, .slice la m lc), (3, .pointer (some ⟨w.heap.size, 0, none⟩)), (6, .int .i64 0), (7, .int .i64 0), (8, .int .i64 (playE gr hold nd t l)), (9, .pointer none)] := F.sub _
  refine X.thenN ?_
  refine Y.seq ?_
  refine Y.seq ?_
  refine Y.lit (by kernel_rfl) ?_
  refine Y.pv F (X.move rfl (F.ev 8 (.int .i64 (playE gr hold nd t l)))) ?_;clear F ac;intro ac F
  refine Y.pv F (X.binop rfl (F.ev 23 (.int .i64 (playE gr hold nd t l))) (X.kc (.int .i64 0) rfl) (X.neqI Try.underlying26 rfl)) ?_;clear F ac;intro ac F
  refine Y.nil ?_
  replace F : Fr ac 66 [(0, .agg #[.int .i64 gr, .int .i64 hold, .slice na n nc]), (1, .int .i64 t), (2, .slice la m lc), (3, .pointer (some ⟨w.heap.size, 0, none⟩)), (6, .int .i64 0), (7, .int .i64 0), (8, .int .i64 (playE gr hold nd t l)), (9, .pointer none), (24, .bool ((playE gr hold nd t l : Int) != 0))] := F.sub _
  refine X.thenN ?_
  have h22 : ((playE gr hold nd t l : Int) != 0) = true := by simpa using hE
  try rw [h22] at F
  refine Y.condT (F.ev 24 (.bool true)) ?_
  refine Y.seq ?_
  refine Y.lit (by kernel_rfl) ?_
  refine Y.pv F (X.move rfl (F.ev 8 (.int .i64 (playE gr hold nd t l)))) ?_;clear F ac;intro ac F
  refine Y.pv F (X.assign rfl (X.kc (.int .i64 0) rfl)) ?_;clear F ac;intro ac F
  refine Y.pv F (X.assign rfl (X.kc (.int .i64 0) rfl)) ?_;clear F ac;intro ac F
  refine Y.pv F (X.assign rfl (F.ev 25 (.int .i64 (playE gr hold nd t l)))) ?_;clear F ac;intro ac F
  refine Y.nil ?_
  replace F : Fr ac 66 [(0, .agg #[.int .i64 gr, .int .i64 hold, .slice na n nc]), (1, .int .i64 t), (2, .slice la m lc), (3, .pointer (some ⟨w.heap.size, 0, none⟩)), (6, .int .i64 0), (7, .int .i64 0), (8, .int .i64 (playE gr hold nd t l)), (9, .pointer none), (24, .bool true)] := F.sub _
  refine X.thenN ?_
  refine Y.ret ?_
  refine X.thenR ?_
  exact Y.ret0 (v := .tuple #[.int .i64 0, .int .i64 0, .int .i64 (playE gr hold nd t l)]) F (Y.rs3 F rfl (by kernel_rfl) (by kernel_rfl) (by kernel_rfl)) ⟨_, _, rfl, fun _ => ⟨rfl, rfl⟩, fun h => absurd h hE, G⟩
end
section
open Go.RowKit

/-- a node is asleep though it is asked for: in the reference's words -/
def fail2P (nd : List (List Int)) (asked rows : List Int) (k i : Nat) : Bool := andV (asked[k]?.getD 0) (cv nd i 0) != 0 && !(bitB (rows[k]?.getD 0) i)
set_option maxRecDepth 100000 in
set_option maxHeartbeats 400000 in
theorem energy2_any (na ra : Option Addr) (n nc m rc : Nat) (gr hold : Int) (nd : List (List Int)) (rows : List Int) (z : Nat) (w : World) (hnd : StAt w 5 na n nd) (hr : Ints w ra m rows) (hc : CluOk gr hold nd) (ha : z < n) (hm : m ≤ 1000) :
  Calls Try.prog 57 #[.agg #[Vi gr, Vi hold, .slice na n nc], .slice ra m rc, Vi z] w fun e w' => e = .returned (Vi (enS nd rows z)) ∧ Gr w w' := by
 have G := Gr.refl w
 have hlen := hnd.len
 have hlr := hr.len
 have h16 : n ≤ 16 := by have := hc.n16; omega
 refine Y.calls 38 Try.func57 rfl rfl ?_
 intro ac F0
 have F : Fr ac 38 [(0, .agg #[Vi gr, Vi hold, .slice na n nc]), (1, .slice ra m rc), (2, Vi z)] := F0.sub _
 clear F0
 refine Y.seq ?_
 refine Y.lit (by kernel_rfl) ?_
 refine Y.pv F (X.box rfl (F.e 0 rfl) X.bx) ?_;clear F ac;intro ac F
 have g := Gr.alloc w (.cells #[Vi gr, Vi hold, .slice na n nc] 24)
 have hb := heap_alloc_new w (.cells #[Vi gr, Vi hold, .slice na n nc] 24)
 have hbl : w.heap.size < (w.alloc (.cells #[Vi gr, Vi hold, .slice na n nc] 24)).heap.size := by simp
 have hC2 : RCells (w.alloc (.cells #[Vi gr, Vi hold, .slice na n nc] 24)) [(Ad w.heap.size 0, Vi gr), (Ad w.heap.size 1, Vi hold), (Ad w.heap.size 2, .slice na n nc)] := (RCells.nil w).box (b := w.heap.size) #[Vi gr, Vi hold, .slice na n nc] 24 rfl
 generalize w.alloc (.cells #[Vi gr, Vi hold, .slice na n nc] 24) = w3 at *
 replace G := G.trans g
 have hC := hC2
 clear hC2
 replace hnd := hnd.gr g
 replace hr := hr.gr g
 clear g hb hbl
 refine Y.pv F (X.assign rfl (X.kc (Vi 0) rfl)) ?_;clear F ac;intro ac F
 refine Y.nil ?_
 replace F : Fr ac 38 [(1, .slice ra m rc), (2, Vi z), (3, Vp w.heap.size)] := F.sub _
 refine X.thenN ?_
 refine Y.seq ?_
 refine Y.lit (by kernel_rfl) ?_
 refine Y.pv F (X.assign rfl (X.kc (Vi 0) rfl)) ?_;clear F ac;intro ac F
 refine Y.nil ?_
 replace F : Fr ac 38 [(1, .slice ra m rc), (2, Vi z), (3, Vp w.heap.size), (7, Vi 0)] := F.sub _
 refine X.thenN ?_
 refine Y.seq ?_
 refine Y.seq ?_
 refine Y.lit (by kernel_rfl) ?_
 refine Y.pv F (X.assign rfl (X.kc (Vi 0) rfl)) ?_;clear F ac;intro ac F
 refine Y.nil ?_
 replace F : Fr ac 38 [(1, .slice ra m rc), (2, Vi z), (3, Vp w.heap.size), (7, Vi 0), (8, Vi 0)] := F.sub _
 refine X.thenN ?_
 refine Y.block ?_
 have hndB := hnd
 have hrB := hr
 have hCB := hC
 have GB := G
 refine Y.loop (fun me_ ac wr => ∃ (i : Nat), me_ = m - i ∧ Gr w3 wr ∧ i ≤ m ∧ Fr ac 38 [(1, .slice ra m rc), (2, Vi z), (3, Vp w.heap.size), (7, Vi (enS nd (rows.take i) z)), (8, Vi i)]) _ ⟨0, rfl, Gr.refl _, Nat.zero_le _, (by rw [List.take_zero]; exact F.sub _)⟩ ?_
 clear F
 intro me_ ac w4 hI
 obtain ⟨i, rfl, gr, hi0, F⟩ := hI
 replace G := GB.trans gr
 replace hC := hCB.gr gr
 replace hnd := hndB.gr gr
 replace hr := hrB.gr gr
 have GB_ := gr
 clear gr
 refine Y.seq ?_
 refine Y.seq ?_
 refine Y.lit (by kernel_rfl) ?_
 refine Y.pv F (X.move rfl (F.e 8 rfl)) ?_;clear F ac;intro ac F
 refine Y.pv F (X.move rfl (F.e 1 rfl)) ?_;clear F ac;intro ac F
 refine Y.pv F (X.len1 Try.underlying34 rfl (F.e 10 rfl)) ?_;clear F ac;intro ac F
 refine Y.pv F (X.binop rfl (F.e 9 rfl) (F.e 11 rfl) (X.lssI Try.underlying3 rfl)) ?_;clear F ac;intro ac F
 refine Y.nil ?_
 replace F : Fr ac 38 [(1, .slice ra m rc), (2, Vi z), (3, Vp w.heap.size), (7, Vi (enS nd (rows.take i) z)), (8, Vi i), (12, .bool (decide ((i : Int) < m)))] := F.sub _
 refine X.thenN ?_
 cases h5 : decide ((i : Int) < m) with
 | false =>
  try rw [h5] at F
  have h5p : ¬ ((i : Int) < m) := of_decide_eq_false h5
  have him : i = m := by omega
  subst him
  refine Y.condF (F.e 12 rfl) ?_
  refine Y.exit ?_
  refine X.thenX ?_
  refine X.thenX ?_
  refine X.blockX ?_
  refine X.thenN ?_
  refine Y.seq ?_
  refine Y.lit (by kernel_rfl) ?_
  refine Y.pv F (X.move rfl (F.e 7 rfl)) ?_;clear F ac;intro ac F
  refine Y.pv F (X.assign rfl (F.e 37 rfl)) ?_;clear F ac;intro ac F
  refine Y.nil ?_
  replace F : Fr ac 38 [(6, Vi (enS nd (rows.take i) z))] := F.sub _
  refine X.thenN ?_
  refine Y.ret ?_
  have htk : rows.take i = rows := List.take_of_length_le (by omega)
  rw [htk] at F
  exact Y.ret0 (v := Vi (enS nd rows z)) F (Y.rs1 F rfl (by kernel_rfl)) ⟨rfl, G⟩
 | true =>
  try rw [h5] at F
  have h5p : ((i : Int) < m) := of_decide_eq_true h5
  have hb1 := enS_bd hc (j := z) (by omega) (rows.take i)
  have hb3 : (rows.take i).length ≤ 1000 := by rw [List.length_take]; omega
  have hb4 := hc.awk z (by omega)
  have hb5 := hc.asl z (by omega)
  refine Y.condT (F.e 12 rfl) ?_
  refine Y.skip ?_
  refine X.thenN ?_
  refine Y.seq ?_
  refine Y.block ?_
  refine Y.seq ?_
  refine Y.lit (by kernel_rfl) ?_
  refine Y.pv F (X.move rfl (F.e 1 rfl)) ?_;clear F ac;intro ac F
  refine Y.pv F (X.move rfl (F.e 8 rfl)) ?_;clear F ac;intro ac F
  obtain ⟨pd6, pe6, -, pc6⟩ := hr.at (j := i) (by omega)
  subst pe6
  replace hC : RCells w4 [(Ad w.heap.size 0, Vi gr), (Ad w.heap.size 1, Vi hold), (Ad w.heap.size 2, .slice na n nc), (pd6.add i, Vi (rows[i]?.getD 0))] := hC.append ((RCells.cons pc6 (RCells.nil _)))
  clear pc6
  refine Y.pv F (X.index rfl (F.e 15 rfl) (F.e 16 rfl) (X.idx (k := i) Try.underlying34 (Try.siz3 _) (by omega) (by omega) (by rw [Nat.mul_one]))) ?_;clear F ac;intro ac F
  refine Y.pv F (X.load rfl (F.e 17 rfl) (X.ld1 (Try.agg3 _) (hC.at 3 rfl))) ?_;clear F ac;intro ac F
  refine Y.pv F (X.move rfl (F.e 2 rfl)) ?_;clear F ac;intro ac F
  refine Y.pcall F (X.w0 rfl) rfl (X.enter (F := 58) rfl (X.kc (.func (.func 58) #[] #[]) rfl) (X.a2 (F.e 18 rfl) (F.e 19 rfl)) (enters_of Try.func58 (by kernel_rfl) rfl _)) (bit2_any (rows[i]?.getD 0) z w4 (by omega)) ?_
  clear F ac
  rintro e w' ⟨rfl, hw_⟩
  obtain rfl : w4 = w' := hw_.symm
  clear hw_
  refine ⟨_, rfl, ?_⟩
  intro ac F
  refine Y.nil ?_
  replace F : Fr ac 38 [(1, .slice (some pd6) m rc), (2, Vi z), (3, Vp w.heap.size), (7, Vi (enS nd (rows.take i) z)), (8, Vi i), (20, .bool (bitB (rows[i]?.getD 0) z))] := F.sub _
  refine X.thenN ?_
  cases h7 : bitB (rows[i]?.getD 0) z with
  | false =>
   try rw [h7] at F
   refine Y.condF (F.e 20 rfl) ?_
   refine Y.lit (by kernel_rfl) ?_
   refine Y.pv F (X.move rfl (F.e 7 rfl)) ?_;clear F ac;intro ac F
   refine Y.pv F (X.field rfl (F.e 3 rfl) (X.fld Try.underlying24 rfl (Try.siz22 _) rfl rfl)) ?_;clear F ac;intro ac F
   refine Y.pv F (X.load rfl (F.e 30 rfl) (X.ld1 (Try.agg22 _) (hC.at 2 rfl))) ?_;clear F ac;intro ac F
   refine Y.pv F (X.move rfl (F.e 2 rfl)) ?_;clear F ac;intro ac F
   obtain ⟨pd8, pe8, -, -, pc8⟩ := hnd.at (j := z) (by omega)
   subst pe8
   replace hC : RCells w4 [(Ad w.heap.size 0, Vi gr), (Ad w.heap.size 1, Vi hold), (Ad w.heap.size 2, .slice (some pd8) n nc), (pd6.add i, Vi (rows[i]?.getD 0)), (pd8.add (z * 5), Vi (cv nd z 0)), (⟨(pd8.add (z * 5)).block, (pd8.add (z * 5)).off + 1, none⟩, Vi (cv nd z 1)), (⟨(pd8.add (z * 5)).block, (pd8.add (z * 5)).off + 2, none⟩, Vi (cv nd z 2)), (⟨(pd8.add (z * 5)).block, (pd8.add (z * 5)).off + 3, none⟩, Vi (cv nd z 3)), (⟨(pd8.add (z * 5)).block, (pd8.add (z * 5)).off + 4, none⟩, Vi (cv nd z 4))] := hC.append ((RCells.cons (pc8 0 (by decide)) (RCells.cons (pc8 1 (by decide)) (RCells.cons (pc8 2 (by decide)) (RCells.cons (pc8 3 (by decide)) (RCells.cons (pc8 4 (by decide)) (RCells.nil _)))))))
   clear pc8
   refine Y.pv F (X.index rfl (F.e 31 rfl) (F.e 32 rfl) (X.idx (k := z) Try.underlying22 (Try.siz31 _) (by omega) (by omega) rfl)) ?_;clear F ac;intro ac F
   refine Y.pv F (X.field rfl (F.e 33 rfl) (X.fld Try.underlying31 rfl (Try.siz3 _) rfl rfl)) ?_;clear F ac;intro ac F
   refine Y.pv F (X.load rfl (F.e 34 rfl) (X.ld1 (Try.agg3 _) (hC.at 6 rfl))) ?_;clear F ac;intro ac F
   refine Y.pv F (X.binop rfl (F.e 29 rfl) (F.e 35 rfl) (X.addI Try.underlying3 rfl (by omega) (by omega))) ?_;clear F ac;intro ac F
   refine Y.pv F (X.assign rfl (F.e 36 rfl)) ?_;clear F ac;intro ac F
   refine Y.nil ?_
   replace F : Fr ac 38 [(1, .slice (some pd6) m rc), (2, Vi z), (3, Vp w.heap.size), (7, Vi ((enS nd (rows.take i) z : Int) + (cv nd z 2))), (8, Vi i)] := F.sub _
   refine X.blockN ?_
   refine X.thenN ?_
   refine Y.lit (by kernel_rfl) ?_
   refine Y.pv F (X.move rfl (F.e 8 rfl)) ?_;clear F ac;intro ac F
   refine Y.pv F (X.binop rfl (F.e 13 rfl) (X.kc (Vi 1) rfl) (X.addI Try.underlying3 rfl (by omega) (by omega))) ?_;clear F ac;intro ac F
   refine Y.pv F (X.assign rfl (F.e 14 rfl)) ?_;clear F ac;intro ac F
   refine Y.nil ?_
   replace F : Fr ac 38 [(1, .slice (some pd6) m rc), (2, Vi z), (3, Vp w.heap.size), (7, Vi ((enS nd (rows.take i) z : Int) + (cv nd z 2))), (8, Vi ((i : Int) + 1))] := F.sub _
   refine X.thenN ?_
   refine ⟨_, ?_, i + 1, rfl, GB_, by omega, (by rw [show enS nd (rows.take (i + 1)) z = enS nd (rows.take i) z + cv nd z 2 from by rw [enS_take (by omega)]; unfold en1; rw [h7]; rfl]; exact F.sub _)⟩
   omega
  | true =>
   try rw [h7] at F
   refine Y.condT (F.e 20 rfl) ?_
   refine Y.lit (by kernel_rfl) ?_
   refine Y.pv F (X.move rfl (F.e 7 rfl)) ?_;clear F ac;intro ac F
   refine Y.pv F (X.field rfl (F.e 3 rfl) (X.fld Try.underlying24 rfl (Try.siz22 _) rfl rfl)) ?_;clear F ac;intro ac F
   refine Y.pv F (X.load rfl (F.e 22 rfl) (X.ld1 (Try.agg22 _) (hC.at 2 rfl))) ?_;clear F ac;intro ac F
   refine Y.pv F (X.move rfl (F.e 2 rfl)) ?_;clear F ac;intro ac F
   obtain ⟨pd9, pe9, -, -, pc9⟩ := hnd.at (j := z) (by omega)
   subst pe9
   replace hC : RCells w4 [(Ad w.heap.size 0, Vi gr), (Ad w.heap.size 1, Vi hold), (Ad w.heap.size 2, .slice (some pd9) n nc), (pd6.add i, Vi (rows[i]?.getD 0)), (pd9.add (z * 5), Vi (cv nd z 0)), (⟨(pd9.add (z * 5)).block, (pd9.add (z * 5)).off + 1, none⟩, Vi (cv nd z 1)), (⟨(pd9.add (z * 5)).block, (pd9.add (z * 5)).off + 2, none⟩, Vi (cv nd z 2)), (⟨(pd9.add (z * 5)).block, (pd9.add (z * 5)).off + 3, none⟩, Vi (cv nd z 3)), (⟨(pd9.add (z * 5)).block, (pd9.add (z * 5)).off + 4, none⟩, Vi (cv nd z 4))] := hC.append ((RCells.cons (pc9 0 (by decide)) (RCells.cons (pc9 1 (by decide)) (RCells.cons (pc9 2 (by decide)) (RCells.cons (pc9 3 (by decide)) (RCells.cons (pc9 4 (by decide)) (RCells.nil _)))))))
   clear pc9
   refine Y.pv F (X.index rfl (F.e 23 rfl) (F.e 24 rfl) (X.idx (k := z) Try.underlying22 (Try.siz31 _) (by omega) (by omega) rfl)) ?_;clear F ac;intro ac F
   refine Y.pv F (X.field rfl (F.e 25 rfl) (X.fld Try.underlying31 rfl (Try.siz3 _) rfl rfl)) ?_;clear F ac;intro ac F
   refine Y.pv F (X.load rfl (F.e 26 rfl) (X.ld1 (Try.agg3 _) (hC.at 5 rfl))) ?_;clear F ac;intro ac F
   refine Y.pv F (X.binop rfl (F.e 21 rfl) (F.e 27 rfl) (X.addI Try.underlying3 rfl (by omega) (by omega))) ?_;clear F ac;intro ac F
   refine Y.pv F (X.assign rfl (F.e 28 rfl)) ?_;clear F ac;intro ac F
   refine Y.nil ?_
   replace F : Fr ac 38 [(1, .slice (some pd6) m rc), (2, Vi z), (3, Vp w.heap.size), (7, Vi ((enS nd (rows.take i) z : Int) + (cv nd z 1))), (8, Vi i)] := F.sub _
   refine X.blockN ?_
   refine X.thenN ?_
   refine Y.lit (by kernel_rfl) ?_
   refine Y.pv F (X.move rfl (F.e 8 rfl)) ?_;clear F ac;intro ac F
   refine Y.pv F (X.binop rfl (F.e 13 rfl) (X.kc (Vi 1) rfl) (X.addI Try.underlying3 rfl (by omega) (by omega))) ?_;clear F ac;intro ac F
   refine Y.pv F (X.assign rfl (F.e 14 rfl)) ?_;clear F ac;intro ac F
   refine Y.nil ?_
   replace F : Fr ac 38 [(1, .slice (some pd6) m rc), (2, Vi z), (3, Vp w.heap.size), (7, Vi ((enS nd (rows.take i) z : Int) + (cv nd z 1))), (8, Vi ((i : Int) + 1))] := F.sub _
   refine X.thenN ?_
   refine ⟨_, ?_, i + 1, rfl, GB_, by omega, (by rw [show enS nd (rows.take (i + 1)) z = enS nd (rows.take i) z + cv nd z 1 from by rw [enS_take (by omega)]; unfold en1; rw [h7]; rfl]; exact F.sub _)⟩
   omega
set_option maxRecDepth 100000 in
set_option maxHeartbeats 1000000 in
theorem playR_any (na la : Option Addr) (n nc m lc : Nat) (gr hold t : Int) (nd l : List (List Int)) (w : World) (hnd : StAt w 5 na n nd) (hl : StAt w 4 la m l) :
  Calls Try.prog 26 #[.agg #[Vi gr, Vi hold, .slice na n nc], Vi t, .slice la m lc] w fun e w' => ∃ ra rn rc ea en ec, e = .returned (.tuple #[.slice ra rn rc, .slice ea en ec, Vi (playE gr hold nd t l)]) ∧ Ints w' ra rn (playRows gr hold nd t l) ∧ Ints w' ea en (playEn gr hold nd t l) ∧ Gr w w' := by
 have G := Gr.refl w
 refine Y.calls 44 Try.func26 rfl rfl ?_
 intro ac F0
 have F : Fr ac 44 [(0, .agg #[Vi gr, Vi hold, .slice na n nc]), (1, Vi t), (2, .slice la m lc)] := F0.sub _
 clear F0
 refine Y.seq ?_
 refine Y.lit (by kernel_rfl) ?_
 refine Y.pv F (X.box rfl (F.e 0 rfl) X.bx) ?_;clear F ac;intro ac F
 have g := Gr.alloc w (.cells #[Vi gr, Vi hold, .slice na n nc] 24)
 have hb := heap_alloc_new w (.cells #[Vi gr, Vi hold, .slice na n nc] 24)
 have hbl : w.heap.size < (w.alloc (.cells #[Vi gr, Vi hold, .slice na n nc] 24)).heap.size := by simp
 have hC2 : RCells (w.alloc (.cells #[Vi gr, Vi hold, .slice na n nc] 24)) [(Ad w.heap.size 0, Vi gr), (Ad w.heap.size 1, Vi hold), (Ad w.heap.size 2, .slice na n nc)] := (RCells.nil w).box (b := w.heap.size) #[Vi gr, Vi hold, .slice na n nc] 24 rfl
 generalize w.alloc (.cells #[Vi gr, Vi hold, .slice na n nc] 24) = w3 at *
 replace G := G.trans g
 have hC := hC2
 clear hC2
 replace hnd := hnd.gr g
 replace hl := hl.gr g
 clear g hb hbl
 refine Y.pv F (X.assign rfl (X.kc (.slice none 0 0) rfl)) ?_;clear F ac;intro ac F
 refine Y.pv F (X.assign rfl (X.kc (.slice none 0 0) rfl)) ?_;clear F ac;intro ac F
 refine Y.pv F (X.assign rfl (X.kc (Vi 0) rfl)) ?_;clear F ac;intro ac F
 refine Y.nil ?_
 replace F : Fr ac 44 [(1, Vi t), (2, .slice la m lc), (3, Vp w.heap.size)] := F.sub _
 refine X.thenN ?_
 refine Y.seq ?_
 refine Y.seq ?_
 refine Y.lit (by kernel_rfl) ?_
 refine Y.pv F (X.load rfl (F.e 3 rfl) (X.ldN (Try.agg24 _) (Try.siz24 _) (Y.atz (⟨w.heap.size, 0, none⟩) (Y.AtFrom.cons (hC.at 0 rfl) (Y.AtFrom.cons (hC.at 1 rfl) (Y.AtFrom.cons (hC.at 2 rfl) (Y.AtFrom.nil _ _ _))))))) ?_;clear F ac;intro ac F
 refine Y.pv F (X.move rfl (F.e 1 rfl)) ?_;clear F ac;intro ac F
 refine Y.pv F (X.move rfl (F.e 2 rfl)) ?_;clear F ac;intro ac F
 refine Y.pcall F (X.w0 rfl) rfl (X.enter (F := 55) rfl (X.kc (.func (.func 55) #[] #[]) rfl) (X.a3 (F.e 14 rfl) (F.e 15 rfl) (F.e 16 rfl)) (enters_of Try.func55 (by kernel_rfl) rfl _)) (nudged2_any na la n nc m lc gr hold t nd l w3 hnd hl) ?_
 clear F ac
 rintro e w4 ⟨rfl, g⟩
 refine ⟨_, rfl, ?_⟩
 intro ac F
 replace G := G.trans g
 replace hC := hC.gr g
 replace hnd := hnd.gr g
 replace hl := hl.gr g
 clear g
 refine Y.pv F (X.assign rfl (F.e 17 rfl)) ?_;clear F ac;intro ac F
 refine Y.nil ?_
 replace F : Fr ac 44 [(1, Vi t), (2, .slice la m lc), (3, Vp w.heap.size), (9, Vi (playE gr hold nd t l))] := F.sub _
 refine X.thenN ?_
 refine Y.seq ?_
 refine Y.lit (by kernel_rfl) ?_
 refine Y.pv F (X.move rfl (F.e 9 rfl)) ?_;clear F ac;intro ac F
 refine Y.pv F (X.binop rfl (F.e 18 rfl) (X.kc (Vi 0) rfl) (X.neqI Try.underlying26 rfl)) ?_;clear F ac;intro ac F
 refine Y.nil ?_
 replace F : Fr ac 44 [(1, Vi t), (2, .slice la m lc), (3, Vp w.heap.size), (9, Vi (playE gr hold nd t l)), (19, .bool ((playE gr hold nd t l : Int) != 0))] := F.sub _
 refine X.thenN ?_
 cases h5 : ((playE gr hold nd t l : Int) != 0) with
 | false =>
  try rw [h5] at F
  have h5p : (playE gr hold nd t l : Int) = 0 := by simpa using h5
  have hE : playE gr hold nd t l = 0 := by simpa using h5p
  refine Y.condF (F.e 19 rfl) ?_
  refine Y.skip ?_
  refine X.thenN ?_
  refine Y.seq ?_
  refine Y.lit (by kernel_rfl) ?_
  refine Y.pv F (X.load rfl (F.e 3 rfl) (X.ldN (Try.agg24 _) (Try.siz24 _) (Y.atz (⟨w.heap.size, 0, none⟩) (Y.AtFrom.cons (hC.at 0 rfl) (Y.AtFrom.cons (hC.at 1 rfl) (Y.AtFrom.cons (hC.at 2 rfl) (Y.AtFrom.nil _ _ _))))))) ?_;clear F ac;intro ac F
  refine Y.pv F (X.move rfl (F.e 1 rfl)) ?_;clear F ac;intro ac F
  refine Y.pv F (X.move rfl (F.e 2 rfl)) ?_;clear F ac;intro ac F
  have hok := playE_ok hE
  have hc := hok.c
  have ht0 := hok.t0
  have ht1 := hok.t1
  have hln := hnd.len
  have hnu : NuAll gr nd t l := playOk_nus hok
  have hg1 := hc.g1
  have hg8 := hc.g8
  have h16 : n ≤ 16 := by have := hc.n16; omega
  have htt : ((t.toNat : Nat) : Int) = t := by omega
  have hgg : ((gr.toNat : Nat) : Int) = gr := by omega
  refine Y.pcall F (X.w0 rfl) rfl (X.enter (F := 56) rfl (X.kc (.func (.func 56) #[] #[]) rfl) (X.a3 (F.e 22 rfl) (F.e 23 rfl) (F.e 24 rfl)) (enters_of Try.func56 (by kernel_rfl) rfl _)) (by have h := play2_any na la n nc m lc t.toNat gr.toNat hold nd l w4 hnd hl (by rw [hgg]; exact hc) (by rw [hgg, htt]; exact hnu) (by omega); rw [hgg, htt] at h; exact h) ?_
  clear F ac
  rintro e w6 ⟨ra, rc, aa, ac1, rfl, hIr, hIa, g⟩
  refine ⟨_, rfl, ?_⟩
  intro ac F
  replace G := G.trans g
  replace hC := hC.gr g
  replace hnd := hnd.gr g
  replace hl := hl.gr g
  clear g
  have e1 : (runFrom hold gr.toNat n l (startS nd) t.toNat).rows = playRows gr hold nd t l := by unfold playRows playR; rw [if_pos hE, hln]
  have e2 : (runFrom hold gr.toNat n l (startS nd) t.toNat).asked = playAsk gr hold nd t l := by unfold playAsk playR; rw [if_pos hE, hln]
  rw [e1] at hIr
  rw [e2] at hIa
  clear e1 e2
  have hlr := hIr.len
  have hla := hIa.len
  refine Y.pv F (X.move rfl (F.e 25 rfl)) ?_;clear F ac;intro ac F
  refine Y.pv F (X.extract rfl (F.e 21 rfl) rfl) ?_;clear F ac;intro ac F
  refine Y.pv F (X.extract rfl (F.e 21 rfl) rfl) ?_;clear F ac;intro ac F
  refine Y.pv F (X.assign rfl (F.e 26 rfl)) ?_;clear F ac;intro ac F
  refine Y.pv F (X.assign rfl (F.e 27 rfl)) ?_;clear F ac;intro ac F
  refine Y.nil ?_
  replace F : Fr ac 44 [(3, Vp w.heap.size), (10, .slice ra t.toNat rc)] := F.sub _
  refine X.thenN ?_
  refine Y.seq ?_
  refine Y.lit (by kernel_rfl) ?_
  refine Y.pv F (X.assign rfl (X.kc (.slice none 0 0) rfl)) ?_;clear F ac;intro ac F
  refine Y.nil ?_
  replace F : Fr ac 44 [(3, Vp w.heap.size), (10, .slice ra t.toNat rc), (12, .slice none 0 0)] := F.sub _
  refine X.thenN ?_
  refine Y.seq ?_
  refine Y.seq ?_
  refine Y.lit (by kernel_rfl) ?_
  refine Y.pv F (X.assign rfl (X.kc (Vi 0) rfl)) ?_;clear F ac;intro ac F
  refine Y.nil ?_
  replace F : Fr ac 44 [(3, Vp w.heap.size), (10, .slice ra t.toNat rc), (12, .slice none 0 0), (13, Vi 0)] := F.sub _
  refine X.thenN ?_
  refine Y.block ?_
  have G1_ := G
  have hC1_ := hC
  have GW := Gr.refl w6
  have hnd1_ := hnd
  have hl1_ := hl
  have hIr1_ := hIr
  have hIa1_ := hIa
  refine Y.loop (fun me_ ac wr => ∃ (i : Nat) (v : Value), me_ = n - i ∧ i ≤ n ∧ Gr w6 wr ∧ OwnR wr w6.heap.size 3 1 v i (((List.range i).map (enS nd (playRows gr hold nd t l))).map (Value.int .i64)) ∧ Fr ac 44 [(3, Vp w.heap.size), (10, .slice ra t.toNat rc), (12, v), (13, Vi i)]) _ ⟨0, _, rfl, Nat.zero_le _, Gr.refl _, OwnR.nil _ _ _ _, F.sub _⟩ ?_
  clear F hC G GW hnd hl hIr hIa ac
  intro me_ ac w7 hI_
  obtain ⟨i, v, rfl, hi, GW, hO, F⟩ := hI_
  have G := G1_.trans GW
  have hC := hC1_.gr GW
  have hnd := hnd1_.gr GW
  have hl := hl1_.gr GW
  have hIr := hIr1_.gr GW
  have hIa := hIa1_.gr GW
  refine Y.seq ?_
  refine Y.seq ?_
  refine Y.lit (by kernel_rfl) ?_
  refine Y.pv F (X.move rfl (F.e 13 rfl)) ?_;clear F ac;intro ac F
  refine Y.pv F (X.field rfl (F.e 3 rfl) (X.fld Try.underlying24 rfl (Try.siz22 _) rfl rfl)) ?_;clear F ac;intro ac F
  refine Y.pv F (X.load rfl (F.e 29 rfl) (X.ld1 (Try.agg22 _) (hC.at 2 rfl))) ?_;clear F ac;intro ac F
  refine Y.pv F (X.len1 Try.underlying22 rfl (F.e 30 rfl)) ?_;clear F ac;intro ac F
  refine Y.pv F (X.binop rfl (F.e 28 rfl) (F.e 31 rfl) (X.lssI Try.underlying3 rfl)) ?_;clear F ac;intro ac F
  refine Y.nil ?_
  replace F : Fr ac 44 [(3, Vp w.heap.size), (10, .slice ra t.toNat rc), (12, v), (13, Vi i), (32, .bool (decide ((i : Int) < n)))] := F.sub _
  refine X.thenN ?_
  cases h8 : decide ((i : Int) < n) with
  | false =>
   try rw [h8] at F
   have h8p : ¬ ((i : Int) < n) := of_decide_eq_false h8
   obtain rfl : n = i := by omega
   refine Y.condF (F.e 32 rfl) ?_
   refine Y.exit ?_
   refine X.thenX ?_
   refine X.thenX ?_
   refine X.blockX ?_
   refine X.thenN ?_
   refine Y.seq ?_
   refine Y.lit (by kernel_rfl) ?_
   refine Y.pv F (X.move rfl (F.e 10 rfl)) ?_;clear F ac;intro ac F
   refine Y.pv F (X.move rfl (F.e 12 rfl)) ?_;clear F ac;intro ac F
   refine Y.pv F (X.assign rfl (F.e 42 rfl)) ?_;clear F ac;intro ac F
   refine Y.pv F (X.assign rfl (F.e 43 rfl)) ?_;clear F ac;intro ac F
   refine Y.pv F (X.assign rfl (X.kc (Vi 0) rfl)) ?_;clear F ac;intro ac F
   refine Y.nil ?_
   replace F : Fr ac 44 [(6, .slice ra t.toNat rc), (7, v), (8, Vi 0)] := F.sub _
   refine X.thenN ?_
   refine Y.ret ?_
   obtain ⟨ea, ec, rfl, hIe, -⟩ := hO.intsN (by simp) (by omega)
   exact Y.ret0 (v := .tuple #[.slice ra t.toNat rc, .slice ea n ec, Vi 0]) F (Y.rs3 F rfl (by kernel_rfl) (by kernel_rfl) (by kernel_rfl)) ⟨_, _, _, _, _, _, by rw [hE], hIr, by unfold playEn playR; rw [if_pos hE]; unfold playRows playR at hIe; rw [if_pos hE] at hIe; rw [hln]; rw [hln] at hIe; exact hIe, G⟩
  | true =>
   try rw [h8] at F
   have h8p : ((i : Int) < n) := of_decide_eq_true h8
   refine Y.condT (F.e 32 rfl) ?_
   refine Y.skip ?_
   refine X.thenN ?_
   refine Y.seq ?_
   refine Y.block ?_
   refine Y.lit (by kernel_rfl) ?_
   refine Y.pv F (X.move rfl (F.e 12 rfl)) ?_;clear F ac;intro ac F
   refine Y.pv F (X.load rfl (F.e 3 rfl) (X.ldN (Try.agg24 _) (Try.siz24 _) (Y.atz (⟨w.heap.size, 0, none⟩) (Y.AtFrom.cons (hC.at 0 rfl) (Y.AtFrom.cons (hC.at 1 rfl) (Y.AtFrom.cons (hC.at 2 rfl) (Y.AtFrom.nil _ _ _))))))) ?_;clear F ac;intro ac F
   refine Y.pv F (X.move rfl (F.e 10 rfl)) ?_;clear F ac;intro ac F
   refine Y.pv F (X.move rfl (F.e 13 rfl)) ?_;clear F ac;intro ac F
   refine Y.pcall F (X.w0 rfl) rfl (X.enter (F := 57) rfl (X.kc (.func (.func 57) #[] #[]) rfl) (X.a3 (F.e 36 rfl) (F.e 37 rfl) (F.e 38 rfl)) (enters_of Try.func57 (by kernel_rfl) rfl _)) (energy2_any na ra n nc t.toNat rc gr hold nd (playRows gr hold nd t l) i w7 hnd hIr hc (by omega) (by omega)) ?_
   clear F ac
   rintro e w9 ⟨rfl, g⟩
   refine ⟨_, rfl, ?_⟩
   intro ac F
   replace G := G.trans g
   replace hC := hC.gr g
   replace GW := GW.trans g
   replace hnd := hnd.gr g
   replace hl := hl.gr g
   replace hIr := hIr.gr g
   replace hIa := hIa.gr g
   replace hO := hO.gr g
   clear g
   refine Y.pv F (X.bs rfl (X.b1 (F.e 39 rfl)) (Try.bs34_1 (enS nd (playRows gr hold nd t l) i) _)) ?_;clear F ac;intro ac F
   have g := Gr.alloc w9 (.cells #[Vi (enS nd (playRows gr hold nd t l) i)] 3)
   have hb := heap_alloc_new w9 (.cells #[Vi (enS nd (playRows gr hold nd t l) i)] 3)
   have hbl : w9.heap.size < (w9.alloc (.cells #[Vi (enS nd (playRows gr hold nd t l) i)] 3)).heap.size := by simp
   generalize w9.alloc (.cells #[Vi (enS nd (playRows gr hold nd t l) i)] 3) = w10 at *
   replace G := G.trans g
   replace hC := hC.gr g
   replace GW := GW.trans g
   replace hnd := hnd.gr g
   replace hl := hl.gr g
   replace hIr := hIr.gr g
   replace hIa := hIa.gr g
   replace hO := hO.gr g
   have hbk := hb
   clear g hb hbl
   refine Y.wpL_plain rfl fun _ hK => wp_pushV Try.underlying34 Try.info3 rfl (by decide) rfl (F.e 35 rfl) (F.e 40 rfl) hO (m := 1) (news := [Vi (enS nd (playRows gr hold nd t l) i)]) rfl (cells_at (vs := [Vi (enS nd (playRows gr hold nd t l) i)]) hbk) rfl (by omega) (by decide) GW.size (fun v' w11 hO' hon hat => hK _ _ ?_)
   refine Y.pput F rfl ?_
   clear F ac hbk
   intro ac F
   have hge := fun b e => (hO.ge (b := b) e).1
   replace GW := upS GW hon hge
   clear hO hge hon hat G hC hnd hl hIr hIa
   have hO := hO'
   clear hO'
   have G := G1_.trans GW
   have hC := hC1_.gr GW
   have hnd := hnd1_.gr GW
   have hl := hl1_.gr GW
   have hIr := hIr1_.gr GW
   have hIa := hIa1_.gr GW
   refine Y.pv F (X.assign rfl (F.e 41 rfl)) ?_;clear F ac;intro ac F
   refine Y.nil ?_
   replace F : Fr ac 44 [(3, Vp w.heap.size), (10, .slice ra t.toNat rc), (12, v'), (13, Vi i)] := F.sub _
   refine X.blockN ?_
   refine X.thenN ?_
   refine Y.lit (by kernel_rfl) ?_
   refine Y.pv F (X.move rfl (F.e 13 rfl)) ?_;clear F ac;intro ac F
   refine Y.pv F (X.binop rfl (F.e 33 rfl) (X.kc (Vi 1) rfl) (X.addI Try.underlying3 rfl (by omega) (by omega))) ?_;clear F ac;intro ac F
   refine Y.pv F (X.assign rfl (F.e 34 rfl)) ?_;clear F ac;intro ac F
   refine Y.nil ?_
   replace F : Fr ac 44 [(3, Vp w.heap.size), (10, .slice ra t.toNat rc), (12, v'), (13, Vi ((i : Int) + 1))] := F.sub _
   refine X.thenN ?_
   refine ⟨_, ?_, i + 1, v', rfl, by omega, GW, (by rw [List.range_succ, List.map_append, List.map_append]; exact hO), F.sub _⟩
   omega
 | true =>
  try rw [h5] at F
  have h5p : ¬ (playE gr hold nd t l : Int) = 0 := by simpa using h5
  have hE : ¬ playE gr hold nd t l = 0 := by simpa using h5p
  refine Y.condT (F.e 19 rfl) ?_
  refine Y.seq ?_
  refine Y.lit (by kernel_rfl) ?_
  refine Y.pv F (X.move rfl (F.e 9 rfl)) ?_;clear F ac;intro ac F
  refine Y.pv F (X.assign rfl (X.kc (.slice none 0 0) rfl)) ?_;clear F ac;intro ac F
  refine Y.pv F (X.assign rfl (X.kc (.slice none 0 0) rfl)) ?_;clear F ac;intro ac F
  refine Y.pv F (X.assign rfl (F.e 20 rfl)) ?_;clear F ac;intro ac F
  refine Y.nil ?_
  replace F : Fr ac 44 [(6, .slice none 0 0), (7, .slice none 0 0), (8, Vi (playE gr hold nd t l))] := F.sub _
  refine X.thenN ?_
  refine Y.ret ?_
  refine X.thenR ?_
  exact Y.ret0 (v := .tuple #[.slice none 0 0, .slice none 0 0, Vi (playE gr hold nd t l)]) F (Y.rs3 F rfl (by kernel_rfl) (by kernel_rfl) (by kernel_rfl)) ⟨none, 0, 0, none, 0, 0, rfl, by unfold playRows; rw [if_neg hE]; exact Ints.nil _, by unfold playEn; rw [if_neg hE]; exact Ints.nil _, G⟩
set_option maxRecDepth 100000 in
set_option maxHeartbeats 1000000 in
theorem askedR_any (na la : Option Addr) (n nc m lc : Nat) (gr hold t : Int) (nd l : List (List Int)) (w : World) (hnd : StAt w 5 na n nd) (hl : StAt w 4 la m l) :
  Calls Try.prog 28 #[.agg #[Vi gr, Vi hold, .slice na n nc], Vi t, .slice la m lc] w fun e w' => ∃ ra rn rc, e = .returned (.tuple #[.slice ra rn rc, Vi (playE gr hold nd t l)]) ∧ Ints w' ra rn (playAsk gr hold nd t l) ∧ Gr w w' := by
 have G := Gr.refl w
 refine Y.calls 26 Try.func28 rfl rfl ?_
 intro ac F0
 have F : Fr ac 26 [(0, .agg #[Vi gr, Vi hold, .slice na n nc]), (1, Vi t), (2, .slice la m lc)] := F0.sub _
 clear F0
 refine Y.seq ?_
 refine Y.lit (by kernel_rfl) ?_
 refine Y.pv F (X.box rfl (F.e 0 rfl) X.bx) ?_;clear F ac;intro ac F
 have g := Gr.alloc w (.cells #[Vi gr, Vi hold, .slice na n nc] 24)
 have hb := heap_alloc_new w (.cells #[Vi gr, Vi hold, .slice na n nc] 24)
 have hbl : w.heap.size < (w.alloc (.cells #[Vi gr, Vi hold, .slice na n nc] 24)).heap.size := by simp
 have hC2 : RCells (w.alloc (.cells #[Vi gr, Vi hold, .slice na n nc] 24)) [(Ad w.heap.size 0, Vi gr), (Ad w.heap.size 1, Vi hold), (Ad w.heap.size 2, .slice na n nc)] := (RCells.nil w).box (b := w.heap.size) #[Vi gr, Vi hold, .slice na n nc] 24 rfl
 generalize w.alloc (.cells #[Vi gr, Vi hold, .slice na n nc] 24) = w3 at *
 replace G := G.trans g
 have hC := hC2
 clear hC2
 replace hnd := hnd.gr g
 replace hl := hl.gr g
 clear g hb hbl
 refine Y.pv F (X.assign rfl (X.kc (.slice none 0 0) rfl)) ?_;clear F ac;intro ac F
 refine Y.pv F (X.assign rfl (X.kc (Vi 0) rfl)) ?_;clear F ac;intro ac F
 refine Y.nil ?_
 replace F : Fr ac 26 [(1, Vi t), (2, .slice la m lc), (3, Vp w.heap.size)] := F.sub _
 refine X.thenN ?_
 refine Y.seq ?_
 refine Y.seq ?_
 refine Y.lit (by kernel_rfl) ?_
 refine Y.pv F (X.load rfl (F.e 3 rfl) (X.ldN (Try.agg24 _) (Try.siz24 _) (Y.atz (⟨w.heap.size, 0, none⟩) (Y.AtFrom.cons (hC.at 0 rfl) (Y.AtFrom.cons (hC.at 1 rfl) (Y.AtFrom.cons (hC.at 2 rfl) (Y.AtFrom.nil _ _ _))))))) ?_;clear F ac;intro ac F
 refine Y.pv F (X.move rfl (F.e 1 rfl)) ?_;clear F ac;intro ac F
 refine Y.pv F (X.move rfl (F.e 2 rfl)) ?_;clear F ac;intro ac F
 refine Y.pcall F (X.w0 rfl) rfl (X.enter (F := 55) rfl (X.kc (.func (.func 55) #[] #[]) rfl) (X.a3 (F.e 11 rfl) (F.e 12 rfl) (F.e 13 rfl)) (enters_of Try.func55 (by kernel_rfl) rfl _)) (nudged2_any na la n nc m lc gr hold t nd l w3 hnd hl) ?_
 clear F ac
 rintro e w4 ⟨rfl, g⟩
 refine ⟨_, rfl, ?_⟩
 intro ac F
 replace G := G.trans g
 replace hC := hC.gr g
 replace hnd := hnd.gr g
 replace hl := hl.gr g
 clear g
 refine Y.pv F (X.assign rfl (F.e 14 rfl)) ?_;clear F ac;intro ac F
 refine Y.nil ?_
 replace F : Fr ac 26 [(1, Vi t), (2, .slice la m lc), (3, Vp w.heap.size), (8, Vi (playE gr hold nd t l))] := F.sub _
 refine X.thenN ?_
 refine Y.seq ?_
 refine Y.lit (by kernel_rfl) ?_
 refine Y.pv F (X.move rfl (F.e 8 rfl)) ?_;clear F ac;intro ac F
 refine Y.pv F (X.binop rfl (F.e 15 rfl) (X.kc (Vi 0) rfl) (X.neqI Try.underlying26 rfl)) ?_;clear F ac;intro ac F
 refine Y.nil ?_
 replace F : Fr ac 26 [(1, Vi t), (2, .slice la m lc), (3, Vp w.heap.size), (8, Vi (playE gr hold nd t l)), (16, .bool ((playE gr hold nd t l : Int) != 0))] := F.sub _
 refine X.thenN ?_
 cases h5 : ((playE gr hold nd t l : Int) != 0) with
 | false =>
  try rw [h5] at F
  have h5p : (playE gr hold nd t l : Int) = 0 := by simpa using h5
  have hE : playE gr hold nd t l = 0 := by simpa using h5p
  refine Y.condF (F.e 16 rfl) ?_
  refine Y.skip ?_
  refine X.thenN ?_
  refine Y.seq ?_
  refine Y.lit (by kernel_rfl) ?_
  refine Y.pv F (X.load rfl (F.e 3 rfl) (X.ldN (Try.agg24 _) (Try.siz24 _) (Y.atz (⟨w.heap.size, 0, none⟩) (Y.AtFrom.cons (hC.at 0 rfl) (Y.AtFrom.cons (hC.at 1 rfl) (Y.AtFrom.cons (hC.at 2 rfl) (Y.AtFrom.nil _ _ _))))))) ?_;clear F ac;intro ac F
  refine Y.pv F (X.move rfl (F.e 1 rfl)) ?_;clear F ac;intro ac F
  refine Y.pv F (X.move rfl (F.e 2 rfl)) ?_;clear F ac;intro ac F
  have hok := playE_ok hE
  have hc := hok.c
  have ht0 := hok.t0
  have ht1 := hok.t1
  have hln := hnd.len
  have hnu : NuAll gr nd t l := playOk_nus hok
  have hg1 := hc.g1
  have hg8 := hc.g8
  have h16 : n ≤ 16 := by have := hc.n16; omega
  have htt : ((t.toNat : Nat) : Int) = t := by omega
  have hgg : ((gr.toNat : Nat) : Int) = gr := by omega
  refine Y.pcall F (X.w0 rfl) rfl (X.enter (F := 56) rfl (X.kc (.func (.func 56) #[] #[]) rfl) (X.a3 (F.e 19 rfl) (F.e 20 rfl) (F.e 21 rfl)) (enters_of Try.func56 (by kernel_rfl) rfl _)) (by have h := play2_any na la n nc m lc t.toNat gr.toNat hold nd l w4 hnd hl (by rw [hgg]; exact hc) (by rw [hgg, htt]; exact hnu) (by omega); rw [hgg, htt] at h; exact h) ?_
  clear F ac
  rintro e w6 ⟨ra, rc, aa, ac1, rfl, hIr, hIa, g⟩
  refine ⟨_, rfl, ?_⟩
  intro ac F
  replace G := G.trans g
  replace hC := hC.gr g
  replace hnd := hnd.gr g
  replace hl := hl.gr g
  clear g
  have e1 : (runFrom hold gr.toNat n l (startS nd) t.toNat).rows = playRows gr hold nd t l := by unfold playRows playR; rw [if_pos hE, hln]
  have e2 : (runFrom hold gr.toNat n l (startS nd) t.toNat).asked = playAsk gr hold nd t l := by unfold playAsk playR; rw [if_pos hE, hln]
  rw [e1] at hIr
  rw [e2] at hIa
  clear e1 e2
  have hlr := hIr.len
  have hla := hIa.len
  refine Y.pv F (X.move rfl (F.e 22 rfl)) ?_;clear F ac;intro ac F
  refine Y.pv F (X.extract rfl (F.e 18 rfl) rfl) ?_;clear F ac;intro ac F
  refine Y.pv F (X.extract rfl (F.e 18 rfl) rfl) ?_;clear F ac;intro ac F
  refine Y.pv F (X.assign rfl (F.e 23 rfl)) ?_;clear F ac;intro ac F
  refine Y.pv F (X.assign rfl (F.e 24 rfl)) ?_;clear F ac;intro ac F
  refine Y.nil ?_
  replace F : Fr ac 26 [(10, .slice aa t.toNat ac1)] := F.sub _
  refine X.thenN ?_
  refine Y.seq ?_
  refine Y.lit (by kernel_rfl) ?_
  refine Y.pv F (X.move rfl (F.e 10 rfl)) ?_;clear F ac;intro ac F
  refine Y.pv F (X.assign rfl (F.e 25 rfl)) ?_;clear F ac;intro ac F
  refine Y.pv F (X.assign rfl (X.kc (Vi 0) rfl)) ?_;clear F ac;intro ac F
  refine Y.nil ?_
  replace F : Fr ac 26 [(6, .slice aa t.toNat ac1), (7, Vi 0)] := F.sub _
  refine X.thenN ?_
  refine Y.ret ?_
  exact Y.ret0 (v := .tuple #[.slice aa t.toNat ac1, Vi 0]) F (Y.rs2 F rfl (by kernel_rfl) (by kernel_rfl)) ⟨_, _, _, by rw [hE], hIa, G⟩
 | true =>
  try rw [h5] at F
  have h5p : ¬ (playE gr hold nd t l : Int) = 0 := by simpa using h5
  have hE : ¬ playE gr hold nd t l = 0 := by simpa using h5p
  refine Y.condT (F.e 16 rfl) ?_
  refine Y.seq ?_
  refine Y.lit (by kernel_rfl) ?_
  refine Y.pv F (X.move rfl (F.e 8 rfl)) ?_;clear F ac;intro ac F
  refine Y.pv F (X.assign rfl (X.kc (.slice none 0 0) rfl)) ?_;clear F ac;intro ac F
  refine Y.pv F (X.assign rfl (F.e 17 rfl)) ?_;clear F ac;intro ac F
  refine Y.nil ?_
  replace F : Fr ac 26 [(6, .slice none 0 0), (7, Vi (playE gr hold nd t l))] := F.sub _
  refine X.thenN ?_
  refine Y.ret ?_
  refine X.thenR ?_
  exact Y.ret0 (v := .tuple #[.slice none 0 0, Vi (playE gr hold nd t l)]) F (Y.rs2 F rfl (by kernel_rfl) (by kernel_rfl)) ⟨none, 0, 0, rfl, by unfold playAsk; rw [if_neg hE]; exact Ints.nil _, G⟩
set_option maxRecDepth 100000 in
set_option maxHeartbeats 1000000 in
theorem failR_any (na la : Option Addr) (n nc m lc : Nat) (gr hold t : Int) (nd l : List (List Int)) (w : World) (hnd : StAt w 5 na n nd) (hl : StAt w 4 la m l) :
  Calls Try.prog 30 #[.agg #[Vi gr, Vi hold, .slice na n nc], Vi t, .slice la m lc] w fun e w' => ∃ a b : Int, e = .returned (.tuple #[Vi a, Vi b, Vi (playE gr hold nd t l)]) ∧ (¬ playE gr hold nd t l = 0 → a = 0 ∧ b = 0) ∧ (playE gr hold nd t l = 0 → FailIs (fail2P nd (playAsk gr hold nd t l) (playRows gr hold nd t l)) t.toNat n a b) ∧ Gr w w' := by
 have G := Gr.refl w
 refine Y.calls 63 Try.func30 rfl rfl ?_
 intro ac F0
 have F : Fr ac 63 [(0, .agg #[Vi gr, Vi hold, .slice na n nc]), (1, Vi t), (2, .slice la m lc)] := F0.sub _
 clear F0
 refine Y.seq ?_
 refine Y.lit (by kernel_rfl) ?_
 refine Y.pv F (X.box rfl (F.e 0 rfl) X.bx) ?_;clear F ac;intro ac F
 have g := Gr.alloc w (.cells #[Vi gr, Vi hold, .slice na n nc] 24)
 have hb := heap_alloc_new w (.cells #[Vi gr, Vi hold, .slice na n nc] 24)
 have hbl : w.heap.size < (w.alloc (.cells #[Vi gr, Vi hold, .slice na n nc] 24)).heap.size := by simp
 have hC2 : RCells (w.alloc (.cells #[Vi gr, Vi hold, .slice na n nc] 24)) [(Ad w.heap.size 0, Vi gr), (Ad w.heap.size 1, Vi hold), (Ad w.heap.size 2, .slice na n nc)] := (RCells.nil w).box (b := w.heap.size) #[Vi gr, Vi hold, .slice na n nc] 24 rfl
 generalize w.alloc (.cells #[Vi gr, Vi hold, .slice na n nc] 24) = w3 at *
 replace G := G.trans g
 have hC := hC2
 clear hC2
 replace hnd := hnd.gr g
 replace hl := hl.gr g
 clear g hb hbl
 refine Y.pv F (X.assign rfl (X.kc (Vi 0) rfl)) ?_;clear F ac;intro ac F
 refine Y.pv F (X.assign rfl (X.kc (Vi 0) rfl)) ?_;clear F ac;intro ac F
 refine Y.pv F (X.assign rfl (X.kc (Vi 0) rfl)) ?_;clear F ac;intro ac F
 refine Y.nil ?_
 replace F : Fr ac 63 [(1, Vi t), (2, .slice la m lc), (3, Vp w.heap.size)] := F.sub _
 refine X.thenN ?_
 refine Y.seq ?_
 refine Y.seq ?_
 refine Y.lit (by kernel_rfl) ?_
 refine Y.pv F (X.load rfl (F.e 3 rfl) (X.ldN (Try.agg24 _) (Try.siz24 _) (Y.atz (⟨w.heap.size, 0, none⟩) (Y.AtFrom.cons (hC.at 0 rfl) (Y.AtFrom.cons (hC.at 1 rfl) (Y.AtFrom.cons (hC.at 2 rfl) (Y.AtFrom.nil _ _ _))))))) ?_;clear F ac;intro ac F
 refine Y.pv F (X.move rfl (F.e 1 rfl)) ?_;clear F ac;intro ac F
 refine Y.pv F (X.move rfl (F.e 2 rfl)) ?_;clear F ac;intro ac F
 refine Y.pcall F (X.w0 rfl) rfl (X.enter (F := 55) rfl (X.kc (.func (.func 55) #[] #[]) rfl) (X.a3 (F.e 14 rfl) (F.e 15 rfl) (F.e 16 rfl)) (enters_of Try.func55 (by kernel_rfl) rfl _)) (nudged2_any na la n nc m lc gr hold t nd l w3 hnd hl) ?_
 clear F ac
 rintro e w4 ⟨rfl, g⟩
 refine ⟨_, rfl, ?_⟩
 intro ac F
 replace G := G.trans g
 replace hC := hC.gr g
 replace hnd := hnd.gr g
 replace hl := hl.gr g
 clear g
 refine Y.pv F (X.assign rfl (F.e 17 rfl)) ?_;clear F ac;intro ac F
 refine Y.nil ?_
 replace F : Fr ac 63 [(1, Vi t), (2, .slice la m lc), (3, Vp w.heap.size), (9, Vi (playE gr hold nd t l))] := F.sub _
 refine X.thenN ?_
 refine Y.seq ?_
 refine Y.lit (by kernel_rfl) ?_
 refine Y.pv F (X.move rfl (F.e 9 rfl)) ?_;clear F ac;intro ac F
 refine Y.pv F (X.binop rfl (F.e 18 rfl) (X.kc (Vi 0) rfl) (X.neqI Try.underlying26 rfl)) ?_;clear F ac;intro ac F
 refine Y.nil ?_
 replace F : Fr ac 63 [(1, Vi t), (2, .slice la m lc), (3, Vp w.heap.size), (9, Vi (playE gr hold nd t l)), (19, .bool ((playE gr hold nd t l : Int) != 0))] := F.sub _
 refine X.thenN ?_
 cases h5 : ((playE gr hold nd t l : Int) != 0) with
 | false =>
  try rw [h5] at F
  have h5p : (playE gr hold nd t l : Int) = 0 := by simpa using h5
  have hE : playE gr hold nd t l = 0 := by simpa using h5p
  refine Y.condF (F.e 19 rfl) ?_
  refine Y.skip ?_
  refine X.thenN ?_
  refine Y.seq ?_
  refine Y.lit (by kernel_rfl) ?_
  refine Y.pv F (X.load rfl (F.e 3 rfl) (X.ldN (Try.agg24 _) (Try.siz24 _) (Y.atz (⟨w.heap.size, 0, none⟩) (Y.AtFrom.cons (hC.at 0 rfl) (Y.AtFrom.cons (hC.at 1 rfl) (Y.AtFrom.cons (hC.at 2 rfl) (Y.AtFrom.nil _ _ _))))))) ?_;clear F ac;intro ac F
  refine Y.pv F (X.move rfl (F.e 1 rfl)) ?_;clear F ac;intro ac F
  refine Y.pv F (X.move rfl (F.e 2 rfl)) ?_;clear F ac;intro ac F
  have hok := playE_ok hE
  have hc := hok.c
  have ht0 := hok.t0
  have ht1 := hok.t1
  have hln := hnd.len
  have hnu : NuAll gr nd t l := playOk_nus hok
  have hg1 := hc.g1
  have hg8 := hc.g8
  have h16 : n ≤ 16 := by have := hc.n16; omega
  have htt : ((t.toNat : Nat) : Int) = t := by omega
  have hgg : ((gr.toNat : Nat) : Int) = gr := by omega
  refine Y.pcall F (X.w0 rfl) rfl (X.enter (F := 56) rfl (X.kc (.func (.func 56) #[] #[]) rfl) (X.a3 (F.e 22 rfl) (F.e 23 rfl) (F.e 24 rfl)) (enters_of Try.func56 (by kernel_rfl) rfl _)) (by have h := play2_any na la n nc m lc t.toNat gr.toNat hold nd l w4 hnd hl (by rw [hgg]; exact hc) (by rw [hgg, htt]; exact hnu) (by omega); rw [hgg, htt] at h; exact h) ?_
  clear F ac
  rintro e w6 ⟨ra, rc, aa, ac1, rfl, hIr, hIa, g⟩
  refine ⟨_, rfl, ?_⟩
  intro ac F
  replace G := G.trans g
  replace hC := hC.gr g
  replace hnd := hnd.gr g
  replace hl := hl.gr g
  clear g
  have e1 : (runFrom hold gr.toNat n l (startS nd) t.toNat).rows = playRows gr hold nd t l := by unfold playRows playR; rw [if_pos hE, hln]
  have e2 : (runFrom hold gr.toNat n l (startS nd) t.toNat).asked = playAsk gr hold nd t l := by unfold playAsk playR; rw [if_pos hE, hln]
  rw [e1] at hIr
  rw [e2] at hIa
  clear e1 e2
  have hlr := hIr.len
  have hla := hIa.len
  refine Y.pv F (X.move rfl (F.e 25 rfl)) ?_;clear F ac;intro ac F
  refine Y.pv F (X.extract rfl (F.e 21 rfl) rfl) ?_;clear F ac;intro ac F
  refine Y.pv F (X.extract rfl (F.e 21 rfl) rfl) ?_;clear F ac;intro ac F
  refine Y.pv F (X.assign rfl (F.e 26 rfl)) ?_;clear F ac;intro ac F
  refine Y.pv F (X.assign rfl (F.e 27 rfl)) ?_;clear F ac;intro ac F
  refine Y.nil ?_
  replace F : Fr ac 63 [(1, Vi t), (3, Vp w.heap.size), (10, .slice ra t.toNat rc), (11, .slice aa t.toNat ac1)] := F.sub _
  refine X.thenN ?_
  refine Y.seq ?_
  refine Y.seq ?_
  refine Y.lit (by kernel_rfl) ?_
  refine Y.pv F (X.assign rfl (X.kc (Vi 0) rfl)) ?_;clear F ac;intro ac F
  refine Y.nil ?_
  replace F : Fr ac 63 [(1, Vi t), (3, Vp w.heap.size), (10, .slice ra t.toNat rc), (11, .slice aa t.toNat ac1), (12, Vi 0)] := F.sub _
  refine X.thenN ?_
  refine Y.block ?_
  have hndB := hnd
  have hlB := hl
  have hIrB := hIr
  have hIaB := hIa
  have hCB := hC
  have GB := G
  refine Y.loop (fun me_ ac wr => ∃ (k : Nat), me_ = t.toNat - k ∧ Gr w6 wr ∧ k ≤ t.toNat ∧ (∀ k2, k2 < k → ∀ i2, i2 < n → (fail2P nd (playAsk gr hold nd t l) (playRows gr hold nd t l)) k2 i2 = false) ∧ Fr ac 63 [(1, Vi t), (3, Vp w.heap.size), (10, .slice ra t.toNat rc), (11, .slice aa t.toNat ac1), (12, Vi k)]) _ ⟨0, rfl, Gr.refl _, Nat.zero_le _, fun k2 h => absurd h (Nat.not_lt_zero _), F.sub _⟩ ?_
  clear F
  intro me_ ac w7 hI
  obtain ⟨k, rfl, gr, hk0, hal, F⟩ := hI
  replace G := GB.trans gr
  replace hC := hCB.gr gr
  replace hnd := hndB.gr gr
  replace hl := hlB.gr gr
  replace hIr := hIrB.gr gr
  replace hIa := hIaB.gr gr
  have GB_ := gr
  clear gr
  refine Y.seq ?_
  refine Y.seq ?_
  refine Y.lit (by kernel_rfl) ?_
  refine Y.pv F (X.move rfl (F.e 12 rfl)) ?_;clear F ac;intro ac F
  refine Y.pv F (X.move rfl (F.e 1 rfl)) ?_;clear F ac;intro ac F
  refine Y.pv F (X.binop rfl (F.e 28 rfl) (F.e 29 rfl) (X.lssI Try.underlying3 rfl)) ?_;clear F ac;intro ac F
  refine Y.nil ?_
  replace F : Fr ac 63 [(1, Vi t), (3, Vp w.heap.size), (10, .slice ra t.toNat rc), (11, .slice aa t.toNat ac1), (12, Vi k), (30, .bool (decide ((k : Int) < t)))] := F.sub _
  refine X.thenN ?_
  cases h8 : decide ((k : Int) < t) with
  | false =>
   try rw [h8] at F
   have h8p : ¬ ((k : Int) < t) := of_decide_eq_false h8
   have hkt : k = t.toNat := by omega
   rw [hkt] at hal
   refine Y.condF (F.e 30 rfl) ?_
   refine Y.exit ?_
   refine X.thenX ?_
   refine X.thenX ?_
   refine X.blockX ?_
   refine X.thenN ?_
   refine Y.seq ?_
   refine Y.lit (by kernel_rfl) ?_
   refine Y.pv F (X.assign rfl (X.kc (Vi (-1)) rfl)) ?_;clear F ac;intro ac F
   refine Y.pv F (X.assign rfl (X.kc (Vi (-1)) rfl)) ?_;clear F ac;intro ac F
   refine Y.pv F (X.assign rfl (X.kc (Vi 0) rfl)) ?_;clear F ac;intro ac F
   refine Y.nil ?_
   replace F : Fr ac 63 [(6, Vi (-1)), (7, Vi (-1)), (8, Vi 0)] := F.sub _
   refine X.thenN ?_
   refine Y.ret ?_
   exact Y.ret0 (v := .tuple #[Vi (-1), Vi (-1), Vi 0]) F (Y.rs3 F rfl (by kernel_rfl) (by kernel_rfl) (by kernel_rfl)) ⟨-1, -1, by rw [hE], fun h => absurd hE h, fun _ => .inl ⟨rfl, rfl, hal⟩, G⟩
  | true =>
   try rw [h8] at F
   have h8p : ((k : Int) < t) := of_decide_eq_true h8
   have hk2 : k < t.toNat := by omega
   refine Y.condT (F.e 30 rfl) ?_
   refine Y.skip ?_
   refine X.thenN ?_
   refine Y.seq ?_
   refine Y.block ?_
   refine Y.seq ?_
   refine Y.lit (by kernel_rfl) ?_
   refine Y.pv F (X.assign rfl (X.kc (Vi 0) rfl)) ?_;clear F ac;intro ac F
   refine Y.nil ?_
   replace F : Fr ac 63 [(1, Vi t), (3, Vp w.heap.size), (10, .slice ra t.toNat rc), (11, .slice aa t.toNat ac1), (12, Vi k), (13, Vi 0)] := F.sub _
   refine X.thenN ?_
   refine Y.block ?_
   have hndBB := hnd
   have hlBB := hl
   have hIrBB := hIr
   have hIaBB := hIa
   have hCBB := hC
   have GBB := G
   refine Y.loop (fun me_ ac wr => ∃ (i : Nat), me_ = n - i ∧ Gr w7 wr ∧ i ≤ n ∧ (∀ i2, i2 < i → (fail2P nd (playAsk gr hold nd t l) (playRows gr hold nd t l)) k i2 = false) ∧ Fr ac 63 [(1, Vi t), (3, Vp w.heap.size), (10, .slice ra t.toNat rc), (11, .slice aa t.toNat ac1), (12, Vi k), (13, Vi i)]) _ ⟨0, rfl, Gr.refl _, Nat.zero_le _, fun k2 h => absurd h (Nat.not_lt_zero _), F.sub _⟩ ?_
   clear F
   intro me_ ac w9 hI
   obtain ⟨i, rfl, gr, hi0, hro, F⟩ := hI
   replace G := GBB.trans gr
   replace hC := hCBB.gr gr
   replace hnd := hndBB.gr gr
   replace hl := hlBB.gr gr
   replace hIr := hIrBB.gr gr
   replace hIa := hIaBB.gr gr
   replace GB_ := GB_.trans gr
   have GBB_ := gr
   clear gr
   refine Y.seq ?_
   refine Y.seq ?_
   refine Y.lit (by kernel_rfl) ?_
   refine Y.pv F (X.move rfl (F.e 13 rfl)) ?_;clear F ac;intro ac F
   refine Y.pv F (X.field rfl (F.e 3 rfl) (X.fld Try.underlying24 rfl (Try.siz22 _) rfl rfl)) ?_;clear F ac;intro ac F
   refine Y.pv F (X.load rfl (F.e 34 rfl) (X.ld1 (Try.agg22 _) (hC.at 2 rfl))) ?_;clear F ac;intro ac F
   refine Y.pv F (X.len1 Try.underlying22 rfl (F.e 35 rfl)) ?_;clear F ac;intro ac F
   refine Y.pv F (X.binop rfl (F.e 33 rfl) (F.e 36 rfl) (X.lssI Try.underlying3 rfl)) ?_;clear F ac;intro ac F
   refine Y.nil ?_
   replace F : Fr ac 63 [(1, Vi t), (3, Vp w.heap.size), (10, .slice ra t.toNat rc), (11, .slice aa t.toNat ac1), (12, Vi k), (13, Vi i), (37, .bool (decide ((i : Int) < n)))] := F.sub _
   refine X.thenN ?_
   cases h10 : decide ((i : Int) < n) with
   | false =>
    try rw [h10] at F
    have h10p : ¬ ((i : Int) < n) := of_decide_eq_false h10
    have hin : i = n := by omega
    have hrow : ∀ i2, i2 < n → (fail2P nd (playAsk gr hold nd t l) (playRows gr hold nd t l)) k i2 = false := by rw [← hin]; exact hro
    refine Y.condF (F.e 37 rfl) ?_
    refine Y.exit ?_
    refine X.thenX ?_
    refine X.thenX ?_
    refine X.blockX ?_
    refine X.blockN ?_
    refine X.thenN ?_
    refine Y.lit (by kernel_rfl) ?_
    refine Y.pv F (X.move rfl (F.e 12 rfl)) ?_;clear F ac;intro ac F
    refine Y.pv F (X.binop rfl (F.e 31 rfl) (X.kc (Vi 1) rfl) (X.addI Try.underlying3 rfl (by omega) (by omega))) ?_;clear F ac;intro ac F
    refine Y.pv F (X.assign rfl (F.e 32 rfl)) ?_;clear F ac;intro ac F
    refine Y.nil ?_
    replace F : Fr ac 63 [(1, Vi t), (3, Vp w.heap.size), (10, .slice ra t.toNat rc), (11, .slice aa t.toNat ac1), (12, Vi ((k : Int) + 1))] := F.sub _
    refine X.thenN ?_
    refine ⟨_, ?_, k + 1, rfl, GB_, by omega, fun k2 h2 i2 hi2 => by by_cases e : k2 = k; exact e ▸ hrow i2 hi2; exact hal k2 (by omega) i2 hi2, F.sub _⟩
    omega
   | true =>
    try rw [h10] at F
    have h10p : ((i : Int) < n) := of_decide_eq_true h10
    have hi2 : i < n := by omega
    refine Y.condT (F.e 37 rfl) ?_
    refine Y.skip ?_
    refine X.thenN ?_
    refine Y.seq ?_
    refine Y.block ?_
    refine Y.seq ?_
    obtain ⟨pd11, pe11, -, pc11⟩ := hIa.at (j := k) (by omega)
    subst pe11
    replace hC : RCells w9 [(Ad w.heap.size 0, Vi gr), (Ad w.heap.size 1, Vi hold), (Ad w.heap.size 2, .slice na n nc), (pd11.add k, Vi ((playAsk gr hold nd t l)[k]?.getD 0))] := hC.append ((RCells.cons pc11 (RCells.nil _)))
    clear pc11
    obtain ⟨pd12, pe12, -, -, pc12⟩ := hnd.at (j := i) (by omega)
    subst pe12
    replace hC : RCells w9 [(Ad w.heap.size 0, Vi gr), (Ad w.heap.size 1, Vi hold), (Ad w.heap.size 2, .slice (some pd12) n nc), (pd11.add k, Vi ((playAsk gr hold nd t l)[k]?.getD 0)), (pd12.add (i * 5), Vi (cv nd i 0)), (⟨(pd12.add (i * 5)).block, (pd12.add (i * 5)).off + 1, none⟩, Vi (cv nd i 1)), (⟨(pd12.add (i * 5)).block, (pd12.add (i * 5)).off + 2, none⟩, Vi (cv nd i 2)), (⟨(pd12.add (i * 5)).block, (pd12.add (i * 5)).off + 3, none⟩, Vi (cv nd i 3)), (⟨(pd12.add (i * 5)).block, (pd12.add (i * 5)).off + 4, none⟩, Vi (cv nd i 4))] := hC.append ((RCells.cons (pc12 0 (by decide)) (RCells.cons (pc12 1 (by decide)) (RCells.cons (pc12 2 (by decide)) (RCells.cons (pc12 3 (by decide)) (RCells.cons (pc12 4 (by decide)) (RCells.nil _)))))))
    clear pc12
    cases h13 : ((andV ((playAsk gr hold nd t l)[k]?.getD 0 : Int) (cv nd i 0 : Int) : Int) != 0) with
    | false =>
     try rw [h13] at F
     have h13p : (andV ((playAsk gr hold nd t l)[k]?.getD 0 : Int) (cv nd i 0 : Int) : Int) = 0 := by simpa using h13
     refine Y.region F [some (.slice (some pd11) t.toNat ac1), some (Vi k), some (.pointer (some (pd11.add k))), some (Vi ((playAsk gr hold nd t l)[k]?.getD 0)), some (.pointer (some ⟨w.heap.size, 2, none⟩)), some (.slice (some pd12) n nc), some (Vi i), some (.pointer (some (pd12.add (i * 5)))), some (.pointer (some (pd12.add (i * 5)))), some (Vi (cv nd i 0)), some (Vi (andV ((playAsk gr hold nd t l)[k]?.getD 0 : Int) (cv nd i 0 : Int))), some (.bool false), some (.bool false), none, none, none, none, none, none, none, some (.bool false)] [] rfl ⟨by kernel_rfl, of_decide_eq_true (by kernel_rfl), by kernel_rfl, by kernel_rfl, by kernel_rfl⟩ ⟨?_, ?_, ?_, ?_, ?_, ?_, ?_, ?_, ?_, ?_, ?_, ?_, ?_, ?_, ?_, ?_, ?_, ?_, ?_, ?_, ?_, trivial⟩ ?_
     ·intro ac done u W Sx hR
      exact X.vl (X.move rfl (Sx.ev 11 (.slice (some pd11) t.toNat ac1))) hR.st0
     ·intro ac done u W Sx hR
      exact X.vl (X.move rfl (Sx.ev 12 (Vi k))) hR.st0
     ·intro ac done u W Sx hR
      exact X.vl (X.index rfl (Sx.ev 40 (.slice (some pd11) t.toNat ac1)) (Sx.ev 41 (Vi k)) (X.idx (k := k) Try.underlying34 (Try.siz3 _) (by omega) (by omega) (by rw [Nat.mul_one]))) hR.st0
     ·intro ac done u W Sx hR
      have g : Gr w9 W := hR.1
      exact X.vl (X.load rfl (Sx.ev 42 (.pointer (some (pd11.add k)))) (X.ld1 (Try.agg3 _) ((hC.gr g).at 3 rfl))) hR.st0
     ·intro ac done u W Sx hR
      exact X.vl (X.field rfl (Sx.ev 3 (Vp w.heap.size)) (X.fld Try.underlying24 rfl (Try.siz22 _) rfl rfl)) hR.st0
     ·intro ac done u W Sx hR
      have g : Gr w9 W := hR.1
      exact X.vl (X.load rfl (Sx.ev 44 (.pointer (some ⟨w.heap.size, 2, none⟩))) (X.ld1 (Try.agg22 _) ((hC.gr g).at 2 rfl))) hR.st0
     ·intro ac done u W Sx hR
      exact X.vl (X.move rfl (Sx.ev 13 (Vi i))) hR.st0
     ·intro ac done u W Sx hR
      exact X.vl (X.index rfl (Sx.ev 45 (.slice (some pd12) n nc)) (Sx.ev 46 (Vi i)) (X.idx (k := i) Try.underlying22 (Try.siz31 _) (by omega) (by omega) rfl)) hR.st0
     ·intro ac done u W Sx hR
      exact X.vl (X.field rfl (Sx.ev 47 (.pointer (some (pd12.add (i * 5))))) (X.fld Try.underlying31 rfl (Try.siz3 _) rfl rfl)) hR.st0
     ·intro ac done u W Sx hR
      have g : Gr w9 W := hR.1
      exact X.vl (X.load rfl (Sx.ev 48 (.pointer (some (pd12.add (i * 5))))) (X.ld1 (Try.agg3 _) ((hC.gr g).at 4 rfl))) hR.st0
     ·intro ac done u W Sx hR
      exact X.vl (X.binop rfl (Sx.ev 43 (Vi ((playAsk gr hold nd t l)[k]?.getD 0))) (Sx.ev 49 (Vi (cv nd i 0))) (X.andI Try.underlying3 rfl)) hR.st0
     ·intro ac done u W Sx hR
      exact X.vl (X.binop rfl (Sx.ev 50 (Vi (andV ((playAsk gr hold nd t l)[k]?.getD 0 : Int) (cv nd i 0 : Int)))) (X.kc (Vi 0) rfl) (X.neqI Try.underlying3 h13)) hR.st0
     ·intro ac done u W Sx hR
      exact X.vl (X.move rfl (Sx.ev 51 (.bool false))) hR.st0
     ·intro ac done u W Sx hR
      exact X.skip (X.w2 rfl (Sx.yl 12 52 false (by kernel_rfl) rfl rfl) rfl) rfl (hR.skip rfl)
     ·intro ac done u W Sx hR
      exact X.skip (X.w2 rfl (Sx.yl 12 52 false (by kernel_rfl) rfl rfl) rfl) rfl (hR.skip rfl)
     ·intro ac done u W Sx hR
      exact X.skip (X.w2 rfl (Sx.yl 12 52 false (by kernel_rfl) rfl rfl) rfl) rfl (hR.skip rfl)
     ·intro ac done u W Sx hR
      exact X.skip (X.w2 rfl (Sx.yl 12 52 false (by kernel_rfl) rfl rfl) rfl) rfl (hR.skip rfl)
     ·intro ac done u W Sx hR
      exact X.skip (X.w2 rfl (Sx.yl 12 52 false (by kernel_rfl) rfl rfl) rfl) rfl (hR.skip rfl)
     ·intro ac done u W Sx hR
      exact X.skip (X.w2 rfl (Sx.yl 12 52 false (by kernel_rfl) rfl rfl) rfl) rfl (hR.skip rfl)
     ·intro ac done u W Sx hR
      exact X.skip (X.w2 rfl (Sx.yl 12 52 false (by kernel_rfl) rfl rfl) rfl) rfl (hR.skip rfl)
     ·intro ac done u W Sx hR
      exact X.vl (X.pickF rfl (Sx.ev 52 (.bool false)) (X.kc (.bool false) rfl)) hR.st0
     intro ac u w14 hs hd hl ho hR
     have g : Gr w9 w14 := hR.1
     replace F : Fr ac 63 [(1, Vi t), (3, Vp w.heap.size), (10, .slice ra t.toNat rc), (11, .slice (some pd11) t.toNat ac1), (12, Vi k), (13, Vi i), (60, .bool false)] := X.fr hs hd hl _ (by kernel_rfl)
     clear hs hd hl ho hR
     replace G := G.trans g
     replace hC := hC.gr g
     replace GB_ := GB_.trans g
     replace GBB_ := GBB_.trans g
     replace hnd := hnd.gr g
     replace hl := hl.gr g
     replace hIr := hIr.gr g
     replace hIa := hIa.gr g
     clear g
     refine X.thenN ?_
     refine Y.condF (F.e 60 rfl) ?_
     refine Y.skip ?_
     refine X.blockN ?_
     refine X.thenN ?_
     refine Y.lit (by kernel_rfl) ?_
     refine Y.pv F (X.move rfl (F.e 13 rfl)) ?_;clear F ac;intro ac F
     refine Y.pv F (X.binop rfl (F.e 38 rfl) (X.kc (Vi 1) rfl) (X.addI Try.underlying3 rfl (by omega) (by omega))) ?_;clear F ac;intro ac F
     refine Y.pv F (X.assign rfl (F.e 39 rfl)) ?_;clear F ac;intro ac F
     refine Y.nil ?_
     replace F : Fr ac 63 [(1, Vi t), (3, Vp w.heap.size), (10, .slice ra t.toNat rc), (11, .slice (some pd11) t.toNat ac1), (12, Vi k), (13, Vi ((i : Int) + 1))] := F.sub _
     refine X.thenN ?_
     refine ⟨_, ?_, i + 1, rfl, GBB_, by omega, fun i2 h2 => by by_cases e : i2 = i; exact e ▸ (by unfold fail2P; simp [h13]); exact hro i2 (by omega), F.sub _⟩
     omega
    | true =>
     try rw [h13] at F
     have h13p : ¬ (andV ((playAsk gr hold nd t l)[k]?.getD 0 : Int) (cv nd i 0 : Int) : Int) = 0 := by simpa using h13
     obtain ⟨pd15, pe15, -, pc15⟩ := hIr.at (j := k) (by omega)
     subst pe15
     replace hC : RCells w9 [(Ad w.heap.size 0, Vi gr), (Ad w.heap.size 1, Vi hold), (Ad w.heap.size 2, .slice (some pd12) n nc), (pd11.add k, Vi ((playAsk gr hold nd t l)[k]?.getD 0)), (pd12.add (i * 5), Vi (cv nd i 0)), (⟨(pd12.add (i * 5)).block, (pd12.add (i * 5)).off + 1, none⟩, Vi (cv nd i 1)), (⟨(pd12.add (i * 5)).block, (pd12.add (i * 5)).off + 2, none⟩, Vi (cv nd i 2)), (⟨(pd12.add (i * 5)).block, (pd12.add (i * 5)).off + 3, none⟩, Vi (cv nd i 3)), (⟨(pd12.add (i * 5)).block, (pd12.add (i * 5)).off + 4, none⟩, Vi (cv nd i 4)), (pd15.add k, Vi ((playRows gr hold nd t l)[k]?.getD 0))] := hC.append ((RCells.cons pc15 (RCells.nil _)))
     clear pc15
     refine Y.region F [some (.slice (some pd11) t.toNat ac1), some (Vi k), some (.pointer (some (pd11.add k))), some (Vi ((playAsk gr hold nd t l)[k]?.getD 0)), some (.pointer (some ⟨w.heap.size, 2, none⟩)), some (.slice (some pd12) n nc), some (Vi i), some (.pointer (some (pd12.add (i * 5)))), some (.pointer (some (pd12.add (i * 5)))), some (Vi (cv nd i 0)), some (Vi (andV ((playAsk gr hold nd t l)[k]?.getD 0 : Int) (cv nd i 0 : Int))), some (.bool true), some (.bool true), some (.slice (some pd15) t.toNat rc), some (Vi k), some (.pointer (some (pd15.add k))), some (Vi ((playRows gr hold nd t l)[k]?.getD 0)), some (Vi i), some (.bool (bitB ((playRows gr hold nd t l)[k]?.getD 0) i)), some (.bool (!(bitB ((playRows gr hold nd t l)[k]?.getD 0) i))), some (.bool (!(bitB ((playRows gr hold nd t l)[k]?.getD 0) i)))] [] rfl ⟨by kernel_rfl, of_decide_eq_true (by kernel_rfl), by kernel_rfl, by kernel_rfl, by kernel_rfl⟩ ⟨?_, ?_, ?_, ?_, ?_, ?_, ?_, ?_, ?_, ?_, ?_, ?_, ?_, ?_, ?_, ?_, ?_, ?_, ?_, ?_, ?_, trivial⟩ ?_
     ·intro ac done u W Sx hR
      exact X.vl (X.move rfl (Sx.ev 11 (.slice (some pd11) t.toNat ac1))) hR.st0
     ·intro ac done u W Sx hR
      exact X.vl (X.move rfl (Sx.ev 12 (Vi k))) hR.st0
     ·intro ac done u W Sx hR
      exact X.vl (X.index rfl (Sx.ev 40 (.slice (some pd11) t.toNat ac1)) (Sx.ev 41 (Vi k)) (X.idx (k := k) Try.underlying34 (Try.siz3 _) (by omega) (by omega) (by rw [Nat.mul_one]))) hR.st0
     ·intro ac done u W Sx hR
      have g : Gr w9 W := hR.1
      exact X.vl (X.load rfl (Sx.ev 42 (.pointer (some (pd11.add k)))) (X.ld1 (Try.agg3 _) ((hC.gr g).at 3 rfl))) hR.st0
     ·intro ac done u W Sx hR
      exact X.vl (X.field rfl (Sx.ev 3 (Vp w.heap.size)) (X.fld Try.underlying24 rfl (Try.siz22 _) rfl rfl)) hR.st0
     ·intro ac done u W Sx hR
      have g : Gr w9 W := hR.1
      exact X.vl (X.load rfl (Sx.ev 44 (.pointer (some ⟨w.heap.size, 2, none⟩))) (X.ld1 (Try.agg22 _) ((hC.gr g).at 2 rfl))) hR.st0
     ·intro ac done u W Sx hR
      exact X.vl (X.move rfl (Sx.ev 13 (Vi i))) hR.st0
     ·intro ac done u W Sx hR
      exact X.vl (X.index rfl (Sx.ev 45 (.slice (some pd12) n nc)) (Sx.ev 46 (Vi i)) (X.idx (k := i) Try.underlying22 (Try.siz31 _) (by omega) (by omega) rfl)) hR.st0
     ·intro ac done u W Sx hR
      exact X.vl (X.field rfl (Sx.ev 47 (.pointer (some (pd12.add (i * 5))))) (X.fld Try.underlying31 rfl (Try.siz3 _) rfl rfl)) hR.st0
     ·intro ac done u W Sx hR
      have g : Gr w9 W := hR.1
      exact X.vl (X.load rfl (Sx.ev 48 (.pointer (some (pd12.add (i * 5))))) (X.ld1 (Try.agg3 _) ((hC.gr g).at 4 rfl))) hR.st0
     ·intro ac done u W Sx hR
      exact X.vl (X.binop rfl (Sx.ev 43 (Vi ((playAsk gr hold nd t l)[k]?.getD 0))) (Sx.ev 49 (Vi (cv nd i 0))) (X.andI Try.underlying3 rfl)) hR.st0
     ·intro ac done u W Sx hR
      exact X.vl (X.binop rfl (Sx.ev 50 (Vi (andV ((playAsk gr hold nd t l)[k]?.getD 0 : Int) (cv nd i 0 : Int)))) (X.kc (Vi 0) rfl) (X.neqI Try.underlying3 h13)) hR.st0
     ·intro ac done u W Sx hR
      exact X.vl (X.move rfl (Sx.ev 51 (.bool true))) hR.st0
     ·intro ac done u W Sx hR
      exact X.val (X.w1 rfl (Sx.yl 12 52 true (by kernel_rfl) rfl rfl)) rfl (X.move rfl (Sx.ev 10 (.slice (some pd15) t.toNat rc))) hR.st0
     ·intro ac done u W Sx hR
      exact X.val (X.w1 rfl (Sx.yl 12 52 true (by kernel_rfl) rfl rfl)) rfl (X.move rfl (Sx.ev 12 (Vi k))) hR.st0
     ·intro ac done u W Sx hR
      exact X.val (X.w1 rfl (Sx.yl 12 52 true (by kernel_rfl) rfl rfl)) rfl (X.index rfl (Sx.ev 53 (.slice (some pd15) t.toNat rc)) (Sx.ev 54 (Vi k)) (X.idx (k := k) Try.underlying34 (Try.siz3 _) (by omega) (by omega) (by rw [Nat.mul_one]))) hR.st0
     ·intro ac done u W Sx hR
      have g : Gr w9 W := hR.1
      exact X.val (X.w1 rfl (Sx.yl 12 52 true (by kernel_rfl) rfl rfl)) rfl (X.load rfl (Sx.ev 55 (.pointer (some (pd15.add k)))) (X.ld1 (Try.agg3 _) ((hC.gr g).at 9 rfl))) hR.st0
     ·intro ac done u W Sx hR
      exact X.val (X.w1 rfl (Sx.yl 12 52 true (by kernel_rfl) rfl rfl)) rfl (X.move rfl (Sx.ev 13 (Vi i))) hR.st0
     ·intro ac done u W Sx hR
      refine X.call (X.w1 rfl (Sx.yl 12 52 true (by kernel_rfl) rfl rfl)) (X.enter (F := 58) rfl (X.kc (.func (.func 58) #[] #[]) rfl) (X.a2 (Sx.ev 56 (Vi ((playRows gr hold nd t l)[k]?.getD 0))) (Sx.ev 57 (Vi i))) (enters_of Try.func58 (by kernel_rfl) rfl _)) (bit2_any ((playRows gr hold nd t l)[k]?.getD 0) i W (by omega)) ?_
      rintro e W2 ⟨rfl, rfl⟩
      exact ⟨_, rfl, X.kn rfl, hR.step (Gr.refl _) rfl⟩
     ·intro ac done u W Sx hR
      exact X.val (X.w1 rfl (Sx.yl 12 52 true (by kernel_rfl) rfl rfl)) rfl (X.notB rfl (Sx.ev 58 (.bool (bitB ((playRows gr hold nd t l)[k]?.getD 0) i))) rfl) hR.st0
     ·intro ac done u W Sx hR
      exact X.vl (X.pickT rfl (Sx.ev 52 (.bool true)) (Sx.ev 59 (.bool (!(bitB ((playRows gr hold nd t l)[k]?.getD 0) i))))) hR.st0
     intro ac u w16 hs hd hl ho hR
     have g : Gr w9 w16 := hR.1
     replace F : Fr ac 63 [(1, Vi t), (3, Vp w.heap.size), (10, .slice (some pd15) t.toNat rc), (11, .slice (some pd11) t.toNat ac1), (12, Vi k), (13, Vi i), (60, .bool (!(bitB ((playRows gr hold nd t l)[k]?.getD 0) i)))] := X.fr hs hd hl _ (by kernel_rfl)
     clear hs hd hl ho hR
     replace G := G.trans g
     replace hC := hC.gr g
     replace GB_ := GB_.trans g
     replace GBB_ := GBB_.trans g
     replace hnd := hnd.gr g
     replace hl := hl.gr g
     replace hIr := hIr.gr g
     replace hIa := hIa.gr g
     clear g
     refine X.thenN ?_
     cases h17 : bitB ((playRows gr hold nd t l)[k]?.getD 0) i with
     | false =>
      try rw [h17] at F
      refine Y.condT (F.e 60 rfl) ?_
      refine Y.seq ?_
      refine Y.lit (by kernel_rfl) ?_
      refine Y.pv F (X.move rfl (F.e 12 rfl)) ?_;clear F ac;intro ac F
      refine Y.pv F (X.move rfl (F.e 13 rfl)) ?_;clear F ac;intro ac F
      refine Y.pv F (X.assign rfl (F.e 61 rfl)) ?_;clear F ac;intro ac F
      refine Y.pv F (X.assign rfl (F.e 62 rfl)) ?_;clear F ac;intro ac F
      refine Y.pv F (X.assign rfl (X.kc (Vi 0) rfl)) ?_;clear F ac;intro ac F
      refine Y.nil ?_
      replace F : Fr ac 63 [(6, Vi k), (7, Vi i), (8, Vi 0)] := F.sub _
      refine X.thenN ?_
      refine Y.ret ?_
      refine X.blockR ?_
      refine X.thenR ?_
      refine X.thenR ?_
      refine X.blockR ?_
      refine X.blockR ?_
      refine X.thenR ?_
      refine X.thenR ?_
      refine X.blockR ?_
      refine X.thenR ?_
      exact Y.ret0 (v := .tuple #[Vi k, Vi i, Vi 0]) F (Y.rs3 F rfl (by kernel_rfl) (by kernel_rfl) (by kernel_rfl)) ⟨_, _, by rw [hE], fun h => absurd hE h, fun _ => .inr ⟨k, i, rfl, rfl, hk2, hi2, (by unfold fail2P; simp [h13, h17]), hro, hal⟩, G⟩
     | true =>
      try rw [h17] at F
      refine Y.condF (F.e 60 rfl) ?_
      refine Y.skip ?_
      refine X.blockN ?_
      refine X.thenN ?_
      refine Y.lit (by kernel_rfl) ?_
      refine Y.pv F (X.move rfl (F.e 13 rfl)) ?_;clear F ac;intro ac F
      refine Y.pv F (X.binop rfl (F.e 38 rfl) (X.kc (Vi 1) rfl) (X.addI Try.underlying3 rfl (by omega) (by omega))) ?_;clear F ac;intro ac F
      refine Y.pv F (X.assign rfl (F.e 39 rfl)) ?_;clear F ac;intro ac F
      refine Y.nil ?_
      replace F : Fr ac 63 [(1, Vi t), (3, Vp w.heap.size), (10, .slice (some pd15) t.toNat rc), (11, .slice (some pd11) t.toNat ac1), (12, Vi k), (13, Vi ((i : Int) + 1))] := F.sub _
      refine X.thenN ?_
      refine ⟨_, ?_, i + 1, rfl, GBB_, by omega, fun i2 h2 => by by_cases e : i2 = i; exact e ▸ (by unfold fail2P; simp [h13, h17]); exact hro i2 (by omega), F.sub _⟩
      omega
 | true =>
  try rw [h5] at F
  have h5p : ¬ (playE gr hold nd t l : Int) = 0 := by simpa using h5
  have hE : ¬ playE gr hold nd t l = 0 := by simpa using h5p
  refine Y.condT (F.e 19 rfl) ?_
  refine Y.seq ?_
  refine Y.lit (by kernel_rfl) ?_
  refine Y.pv F (X.move rfl (F.e 9 rfl)) ?_;clear F ac;intro ac F
  refine Y.pv F (X.assign rfl (X.kc (Vi 0) rfl)) ?_;clear F ac;intro ac F
  refine Y.pv F (X.assign rfl (X.kc (Vi 0) rfl)) ?_;clear F ac;intro ac F
  refine Y.pv F (X.assign rfl (F.e 20 rfl)) ?_;clear F ac;intro ac F
  refine Y.nil ?_
  replace F : Fr ac 63 [(6, Vi 0), (7, Vi 0), (8, Vi (playE gr hold nd t l))] := F.sub _
  refine X.thenN ?_
  refine Y.ret ?_
  refine X.thenR ?_
  exact Y.ret0 (v := .tuple #[Vi 0, Vi 0, Vi (playE gr hold nd t l)]) F (Y.rs3 F rfl (by kernel_rfl) (by kernel_rfl) (by kernel_rfl)) ⟨0, 0, rfl, fun _ => ⟨rfl, rfl⟩, fun h => absurd h hE, G⟩
end
end Go.Proofs.Ytoalamakhjbedaa
