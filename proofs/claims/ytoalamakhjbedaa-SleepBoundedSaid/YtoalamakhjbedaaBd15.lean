/- Several texts of this claim in one file. (1) Contract: Play. (2) The chapter's example, in plain words; rows of structures that are written out. Nothing of the program is walked here. (3) Lists of nudges that a call makes. Nothing of the program is walked here. (4) More on lists of nudges that a call makes; remainders of any number. Nothing of the program is walked here. (5) A cluster with a node turned; a copy of a slice of structures. Nothing of the program is walked here. (6) Contract: without. (7) Contract: sameInts. (8) Contract: the look at the examples. -/
import Derived.Test.YtoalamakhjbedaaBd10
import Derived.Test.YtoalamakhjbedaaBd14
import Derived.Test.YtoalamakhjbedaaBd3
import Derived.Test.YtoalamakhjbedaaBd8
namespace Go.Proofs.Ytoalamakhjbedaa
section
open Go.RowKit

set_option maxRecDepth 100000 in
set_option maxHeartbeats 1000000 in
theorem play_any (na la : Option Addr) (n nc m lc : Nat) (gr hold t : Int) (nd l : List (List Int)) (w : World) (hnd : StAt w 5 na n nd) (hl : StAt w 4 la m l) :
  Calls Try.prog 18 #[.agg #[.int .i64 gr, .int .i64 hold, .slice na n nc], .int .i64 t, .slice la m lc] w fun e w' => ∃ ra rn rc ea en ec, e = .returned (.tuple #[.slice ra rn rc, .slice ea en ec, .int .i64 (playE gr hold nd t l)]) ∧ Ints w' ra rn (playRows gr hold nd t l) ∧ Ints w' ea en (playEn gr hold nd t l) ∧ Gr w w' := by
 have G := Gr.refl w
 have hnd0 := hnd
 have hl0 := hl
 have hlm := hl.lt
 have hlnn := hnd.lt
 refine Y.calls 73 Try.func18 rfl rfl ?_
 intro ac F0
 have F : Fr ac 73 [(0, .agg #[.int .i64 gr, .int .i64 hold, .slice na n nc]), (1, .int .i64 t), (2, .slice la m lc)] := F0.sub _
 clear F0
 refine Y.seq ?_
 refine Y.lit (by kernel_rfl) ?_
 refine Y.pval F (X.w0 rfl) rfl (X.box rfl (F.ev 0 (.agg #[.int .i64 gr, .int .i64 hold, .slice na n nc])) X.bx) ?_
 clear F ac
 intro ac F
 have g := Gr.alloc w (.cells #[.int .i64 gr, .int .i64 hold, .slice na n nc] 24)
 have hb := heap_alloc_new w (.cells #[.int .i64 gr, .int .i64 hold, .slice na n nc] 24)
 have hbl : w.heap.size < (w.alloc (.cells #[.int .i64 gr, .int .i64 hold, .slice na n nc] 24)).heap.size := by simp
 have hC2 : RCells (w.alloc (.cells #[.int .i64 gr, .int .i64 hold, .slice na n nc] 24)) [(⟨w.heap.size, 0, none⟩, .int .i64 gr), (⟨w.heap.size, 1, none⟩, .int .i64 hold), (⟨w.heap.size, 2, none⟩, .slice na n nc)] := (RCells.nil w).box (b := w.heap.size) #[.int .i64 gr, .int .i64 hold, .slice na n nc] 24 rfl
 generalize w.alloc (.cells #[.int .i64 gr, .int .i64 hold, .slice na n nc] 24) = w3 at *
 replace G := G.trans g
 have hC := hC2
 clear hC2
 replace hnd := hnd.gr g
 replace hl := hl.gr g
 clear g hb hbl
 have hC0 := hC
 refine Y.pval F (X.w0 rfl) rfl (X.assign rfl (X.kc (.slice none 0 0) rfl)) ?_
 clear F ac
 intro ac F
 refine Y.pval F (X.w0 rfl) rfl (X.assign rfl (X.kc (.slice none 0 0) rfl)) ?_
 clear F ac
 intro ac F
 refine Y.pval F (X.w0 rfl) rfl (X.assign rfl (X.kc (.int .i64 0) rfl)) ?_
 clear F ac
 intro ac F
 refine Y.nil ?_
 replace F : Fr ac 73 [(0, .agg #[.int .i64 gr, .int .i64 hold, .slice na n nc]), (1, .int .i64 t), (2, .slice la m lc), (3, .pointer (some ⟨w.heap.size, 0, none⟩)), (6, .slice none 0 0), (7, .slice none 0 0), (8, .int .i64 0)] := F.sub _
 refine X.thenN ?_
 refine Y.seq ?_
 refine Y.lit (by kernel_rfl) ?_
 refine Y.pval F (X.w0 rfl) rfl (X.load rfl (F.ev 3 (.pointer (some ⟨w.heap.size, 0, none⟩))) (X.ldN (Try.agg24 _) (Try.siz24 _) (Y.atz (⟨w.heap.size, 0, none⟩) (Y.AtFrom.cons (hC.at 0 rfl) (Y.AtFrom.cons (hC.at 1 rfl) (Y.AtFrom.cons (hC.at 2 rfl) (Y.AtFrom.nil _ _ _))))))) ?_
 clear F ac
 intro ac F
 refine Y.pval F (X.w0 rfl) rfl (X.move rfl (F.ev 1 (.int .i64 t))) ?_
 clear F ac
 intro ac F
 refine Y.pval F (X.w0 rfl) rfl (X.move rfl (F.ev 2 (.slice la m lc))) ?_
 clear F ac
 intro ac F
 by_cases hE : playE gr hold nd t l = 0
 ·have hE := hE
  refine Y.pcall F (X.w0 rfl) rfl (X.enter (F := 44) rfl (X.kc (.func (.func 44) #[] #[]) rfl) (X.a3 (F.ev 15 (.agg #[.int .i64 gr, .int .i64 hold, .slice na n nc])) (F.ev 16 (.int .i64 t)) (F.ev 17 (.slice la m lc))) (enters_of Try.func44 (by kernel_rfl) rfl _)) (begin_any na la n nc m lc gr hold t nd l w3 hnd hl) ?_
  clear F ac
  rintro e w5 ⟨-, g, h0⟩
  obtain ⟨bp, rfl, hBg⟩ := h0 hE
  clear h0
  refine ⟨_, rfl, ?_⟩
  intro ac F
  have hBsz : w3.heap.size = w3.heap.size := rfl
  replace G := G.trans g
  replace hC := hC.gr g
  replace hnd := hnd.gr g
  replace hl := hl.gr g
  clear g
  refine Y.pval F (X.w0 rfl) rfl (X.move rfl (F.ev 18 (.tuple #[.pointer (some ⟨bp, 0, none⟩), .int .i64 0]))) ?_
  clear F ac
  intro ac F
  refine Y.pval F (X.w0 rfl) rfl (X.extract rfl (F.ev 14 (.tuple #[.pointer (some ⟨bp, 0, none⟩), .int .i64 0])) rfl) ?_
  clear F ac
  intro ac F
  refine Y.pval F (X.w0 rfl) rfl (X.extract rfl (F.ev 14 (.tuple #[.pointer (some ⟨bp, 0, none⟩), .int .i64 0])) rfl) ?_
  clear F ac
  intro ac F
  refine Y.pval F (X.w0 rfl) rfl (X.assign rfl (F.ev 19 (.pointer (some ⟨bp, 0, none⟩)))) ?_
  clear F ac
  intro ac F
  refine Y.pval F (X.w0 rfl) rfl (X.assign rfl (F.ev 20 (.int .i64 0))) ?_
  clear F ac
  intro ac F
  refine Y.nil ?_
  replace F : Fr ac 73 [(0, .agg #[.int .i64 gr, .int .i64 hold, .slice na n nc]), (1, .int .i64 t), (2, .slice la m lc), (3, .pointer (some ⟨w.heap.size, 0, none⟩)), (6, .slice none 0 0), (7, .slice none 0 0), (8, .int .i64 0), (9, .pointer (some ⟨bp, 0, none⟩))] := F.sub _
  refine X.thenN ?_
  refine Y.seq ?_
  refine Y.seq ?_
  refine Y.lit (by kernel_rfl) ?_
  refine Y.pval F (X.w0 rfl) rfl (X.move rfl (F.ev 8 (.int .i64 0))) ?_
  clear F ac
  intro ac F
  refine Y.pval F (X.w0 rfl) rfl (X.binop rfl (F.ev 21 (.int .i64 0)) (X.kc (.int .i64 0) rfl) (X.neqI Try.underlying26 (show ((0 : Int) != 0) = false by simp))) ?_
  clear F ac
  intro ac F
  refine Y.nil ?_
  replace F : Fr ac 73 [(0, .agg #[.int .i64 gr, .int .i64 hold, .slice na n nc]), (1, .int .i64 t), (2, .slice la m lc), (3, .pointer (some ⟨w.heap.size, 0, none⟩)), (6, .slice none 0 0), (7, .slice none 0 0), (8, .int .i64 0), (9, .pointer (some ⟨bp, 0, none⟩)), (22, .bool false)] := F.sub _
  refine X.thenN ?_
  refine Y.condF (F.ev 22 (.bool false)) ?_
  refine Y.skip ?_
  refine X.thenN ?_
  refine Y.seq ?_
  refine Y.lit (by kernel_rfl) ?_
  refine Y.pval F (X.w0 rfl) rfl (X.move rfl (F.ev 9 (.pointer (some ⟨bp, 0, none⟩)))) ?_
  clear F ac
  intro ac F
  refine Y.pval F (X.w0 rfl) rfl (X.move rfl (F.ev 1 (.int .i64 t))) ?_
  clear F ac
  intro ac F
  have hok := playE_ok hE
  have hc := hok.c
  have ht0 := hok.t0
  have ht1 := hok.t1
  have hln := hnd.len
  have h16 : n ≤ 16 := by have := hc.n16; omega
  obtain ⟨bn, pa, cap, hP, hS⟩ := hBg
  have hpb := hP.pb
  have hnb := hP.nb
  have hg1 := hc.g1
  have hg8 := hc.g8
  have hSO : SOk n (startS nd) := by have := SOk.start hc; rwa [hln] at this
  have htt : t = ((t.toNat : Nat) : Int) := by omega
  have hgw := G.size
  have hnu : ∀ x ∈ l, NuOk gr nd t x := fun x hx => by obtain ⟨i, hi, rfl⟩ := List.getElem_of_mem hx; have := hok.nu i hi; rwa [List.getElem?_eq_getElem hi] at this
  refine Y.pcall F (X.w0 rfl) rfl (X.enter (F := 45) rfl (X.kc (.func (.func 45) #[] #[]) rfl) (X.a2 (F.ev 25 (.pointer (some ⟨bp, 0, none⟩))) (F.ev 26 (.int .i64 t))) (enters_of Try.func45 (by kernel_rfl) rfl _)) (by have h := run_any w3 w5 bp bn gr hold na la pa n nc m lc cap l (startS nd) t.toNat hP hS h16 ⟨nd, t, hln, hg8, hnu⟩ hSO hc.h1 hc.h100 (by omega) (by omega); rw [← htt] at h; exact h) ?_
  clear F ac
  rintro e w6 ⟨v1, v2, rfl, hon, -, hO1, hO2⟩
  refine ⟨_, rfl, ?_⟩
  intro ac F
  have hcb : w.heap.size < w3.heap.size := lt_cell (hC0.at 0 rfl)
  replace hC : RCells w6 [(⟨w.heap.size, 0, none⟩, .int .i64 gr), (⟨w.heap.size, 1, none⟩, .int .i64 hold), (⟨w.heap.size, 2, none⟩, .slice na n nc)] := (RCells.cons (hon.cell (hC.at 0 rfl) (by show ¬ w.heap.size = bn; omega)) (RCells.cons (hon.cell (hC.at 1 rfl) (by show ¬ w.heap.size = bn; omega)) (RCells.cons (hon.cell (hC.at 2 rfl) (by show ¬ w.heap.size = bn; omega)) (RCells.nil _))))
  replace G := Y.Only.up G hon (by omega)
  replace hnd := hnd0.gr G
  replace hl := hl0.gr G
  clear hon hS hP
  obtain ⟨aa, ac1, rfl, hIa, hIab⟩ := hO1.intsN (runFrom_len t.toNat).1 (by omega)
  obtain ⟨ra, rc, rfl, hIr, hIrb⟩ := hO2.intsN (runFrom_len t.toNat).2 (by omega)
  clear hO1 hO2
  refine Y.pval F (X.w0 rfl) rfl (X.move rfl (F.ev 27 (.tuple #[.slice aa t.toNat ac1, .slice ra t.toNat rc]))) ?_
  clear F ac
  intro ac F
  refine Y.pval F (X.w0 rfl) rfl (X.extract rfl (F.ev 24 (.tuple #[.slice aa t.toNat ac1, .slice ra t.toNat rc])) rfl) ?_
  clear F ac
  intro ac F
  refine Y.pval F (X.w0 rfl) rfl (X.extract rfl (F.ev 24 (.tuple #[.slice aa t.toNat ac1, .slice ra t.toNat rc])) rfl) ?_
  clear F ac
  intro ac F
  refine Y.pval F (X.w0 rfl) rfl (X.assign rfl (F.ev 29 (.slice ra t.toNat rc))) ?_
  clear F ac
  intro ac F
  refine Y.nil ?_
  replace F : Fr ac 73 [(0, .agg #[.int .i64 gr, .int .i64 hold, .slice na n nc]), (1, .int .i64 t), (2, .slice la m lc), (3, .pointer (some ⟨w.heap.size, 0, none⟩)), (6, .slice ra t.toNat rc), (7, .slice none 0 0), (8, .int .i64 0), (9, .pointer (some ⟨bp, 0, none⟩)), (22, .bool false)] := F.sub _
  refine X.thenN ?_
  refine Y.seq ?_
  refine Y.lit (by kernel_rfl) ?_
  refine Y.pval F (X.w0 rfl) rfl (X.field rfl (F.ev 3 (.pointer (some ⟨w.heap.size, 0, none⟩))) (X.fld Try.underlying24 rfl (Try.siz22 _) rfl rfl)) ?_
  clear F ac
  intro ac F
  refine Y.pval F (X.w0 rfl) rfl (X.load rfl (F.ev 30 (.pointer (some ⟨w.heap.size, 2, none⟩))) (X.ld1 (Try.agg22 _) (hC.at 2 rfl))) ?_
  clear F ac
  intro ac F
  refine Y.pval F (X.w0 rfl) rfl (X.len1 Try.underlying22 rfl (F.ev 31 (.slice na n nc))) ?_
  clear F ac
  intro ac F
  have hq8 : w.heap.size < w6.heap.size := lt_cell (hC.at 0 rfl)
  have hgsw7 := G.size
  refine Y.pval F (X.w0 rfl) rfl (Y.mk rfl (F.ev 32 (.int .i64 n)) (F.ev 32 (.int .i64 n)) (Try.mk34 n _ (by omega))) ?_
  clear F ac
  intro ac F
  have g := Gr.alloc w6 (.cells (List.replicate n (.int .i64 0)).toArray 3)
  have hS := zeros_own w6 n
  generalize w6.alloc (.cells (List.replicate n (.int .i64 0)).toArray 3) = w7 at *
  replace G := G.trans g
  replace hC := hC.gr g
  replace hnd := hnd.gr g
  replace hl := hl.gr g
  replace hIa := hIa.gr g
  replace hIr := hIr.gr g
  clear g
  have hml : w6.heap.size < w7.heap.size := hS.lt
  have hS := hS
  refine Y.pval F (X.w0 rfl) rfl (X.assign rfl (F.ev 33 (.slice (some ⟨w6.heap.size, 0, none⟩) n n))) ?_
  clear F ac
  intro ac F
  refine Y.nil ?_
  replace F : Fr ac 73 [(0, .agg #[.int .i64 gr, .int .i64 hold, .slice na n nc]), (1, .int .i64 t), (2, .slice la m lc), (3, .pointer (some ⟨w.heap.size, 0, none⟩)), (6, .slice ra t.toNat rc), (7, .slice (some ⟨w6.heap.size, 0, none⟩) n n), (8, .int .i64 0), (9, .pointer (some ⟨bp, 0, none⟩)), (22, .bool false)] := F.sub _
  refine X.thenN ?_
  refine Y.seq ?_
  refine Y.seq ?_
  refine Y.lit (by kernel_rfl) ?_
  refine Y.pval F (X.w0 rfl) rfl (X.move rfl (F.ev 6 (.slice ra t.toNat rc))) ?_
  clear F ac
  intro ac F
  refine Y.pval F (X.w0 rfl) rfl (X.len1 Try.underlying34 rfl (F.ev 34 (.slice ra t.toNat rc))) ?_
  clear F ac
  intro ac F
  refine Y.pval F (X.w0 rfl) rfl (X.move rfl (X.kc (.int .i64 0) rfl)) ?_
  clear F ac
  intro ac F
  refine Y.nil ?_
  replace F : Fr ac 73 [(0, .agg #[.int .i64 gr, .int .i64 hold, .slice na n nc]), (1, .int .i64 t), (2, .slice la m lc), (3, .pointer (some ⟨w.heap.size, 0, none⟩)), (6, .slice ra t.toNat rc), (7, .slice (some ⟨w6.heap.size, 0, none⟩) n n), (8, .int .i64 0), (9, .pointer (some ⟨bp, 0, none⟩)), (22, .bool false), (34, .slice ra t.toNat rc), (35, .int .i64 t.toNat), (36, .int .i64 0)] := F.sub _
  refine X.thenN ?_
  refine Y.block ?_
  have hIa_1 := hIa
  have hIr_1 := hIr
  have G_1 := G
  have hC_1 := hC
  refine Y.loop (fun me_ ac wr => ∃ (k : Nat), me_ = t.toNat - k ∧ k ≤ t.toNat ∧ Only (fun b => b = w6.heap.size) w7 wr ∧ OwnP wr w6.heap.size (n) (EV (enS nd ((runFrom hold gr.toNat n l (startS nd) t.toNat).rows.take k))) ∧ Fr ac 73 [(0, .agg #[.int .i64 gr, .int .i64 hold, .slice na n nc]), (1, .int .i64 t), (2, .slice la m lc), (3, .pointer (some ⟨w.heap.size, 0, none⟩)), (6, .slice ra t.toNat rc), (7, .slice (some ⟨w6.heap.size, 0, none⟩) n n), (8, .int .i64 0), (9, .pointer (some ⟨bp, 0, none⟩)), (22, .bool false), (34, .slice ra t.toNat rc), (35, .int .i64 t.toNat), (36, .int .i64 k)]) _ ⟨0, rfl, Nat.zero_le _, Only.refl _ _, hS, F.sub _⟩ ?_
  clear F G ac hC hS hIa hIr hnd hl
  intro me_ ac w9 hI
  obtain ⟨k, rfl, hk, hI1, hS, F⟩ := hI
  have G := Y.Only.up G_1 hI1 (by omega)
  have hnd := hnd0.gr G
  have hl := hl0.gr G
  have hIa := hIa_1.onlyAt hI1 (fun ad e h => by have := hIab ad e; omega)
  have hIr := hIr_1.onlyAt hI1 (fun ad e h => by have := hIrb ad e; omega)
  have hC : RCells w9 [(⟨w.heap.size, 0, none⟩, .int .i64 gr), (⟨w.heap.size, 1, none⟩, .int .i64 hold), (⟨w.heap.size, 2, none⟩, .slice na n nc)] := (RCells.cons (hI1.cell (hC_1.at 0 rfl) (by show ¬ w.heap.size = w6.heap.size; omega)) (RCells.cons (hI1.cell (hC_1.at 1 rfl) (by show ¬ w.heap.size = w6.heap.size; omega)) (RCells.cons (hI1.cell (hC_1.at 2 rfl) (by show ¬ w.heap.size = w6.heap.size; omega)) (RCells.nil _))))
  refine Y.seq ?_
  refine Y.lit (by kernel_rfl) ?_
  refine Y.pval F (X.w0 rfl) rfl (X.binop rfl (F.ev 36 (.int .i64 k)) (F.ev 35 (.int .i64 t.toNat)) (X.lssI Try.underlying3 rfl)) ?_
  clear F ac
  intro ac F
  refine Y.nil ?_
  replace F : Fr ac 73 [(0, .agg #[.int .i64 gr, .int .i64 hold, .slice na n nc]), (1, .int .i64 t), (2, .slice la m lc), (3, .pointer (some ⟨w.heap.size, 0, none⟩)), (6, .slice ra t.toNat rc), (7, .slice (some ⟨w6.heap.size, 0, none⟩) n n), (8, .int .i64 0), (9, .pointer (some ⟨bp, 0, none⟩)), (22, .bool false), (34, .slice ra t.toNat rc), (35, .int .i64 t.toNat), (36, .int .i64 k), (37, .bool (decide ((k : Int) < t.toNat)))] := F.sub _
  refine X.thenN ?_
  refine Y.seq ?_
  cases h10 : decide ((k : Int) < t.toNat) with
  | false =>
   try rw [h10] at F
   have h10p : ¬ ((k : Int) < t.toNat) := of_decide_eq_false h10
   have hkt : k = t.toNat := by omega
   subst hkt
   refine Y.condF (F.ev 37 (.bool false)) ?_
   refine Y.exit ?_
   refine X.thenX ?_
   refine X.thenX ?_
   refine X.blockX ?_
   refine X.thenN ?_
   refine Y.seq ?_
   refine Y.lit (by kernel_rfl) ?_
   refine Y.pval F (X.w0 rfl) rfl (X.move rfl (F.ev 6 (.slice ra t.toNat rc))) ?_
   clear F ac
   intro ac F
   refine Y.pval F (X.w0 rfl) rfl (X.move rfl (F.ev 7 (.slice (some ⟨w6.heap.size, 0, none⟩) n n))) ?_
   clear F ac
   intro ac F
   refine Y.pval F (X.w0 rfl) rfl (X.assign rfl (F.ev 71 (.slice ra t.toNat rc))) ?_
   clear F ac
   intro ac F
   refine Y.pval F (X.w0 rfl) rfl (X.assign rfl (F.ev 72 (.slice (some ⟨w6.heap.size, 0, none⟩) n n))) ?_
   clear F ac
   intro ac F
   refine Y.pval F (X.w0 rfl) rfl (X.assign rfl (X.kc (.int .i64 0) rfl)) ?_
   clear F ac
   intro ac F
   refine Y.nil ?_
   replace F : Fr ac 73 [(0, .agg #[.int .i64 gr, .int .i64 hold, .slice na n nc]), (1, .int .i64 t), (2, .slice la m lc), (3, .pointer (some ⟨w.heap.size, 0, none⟩)), (6, .slice ra t.toNat rc), (7, .slice (some ⟨w6.heap.size, 0, none⟩) n n), (8, .int .i64 0), (9, .pointer (some ⟨bp, 0, none⟩)), (22, .bool false), (34, .slice ra t.toNat rc), (35, .int .i64 t.toNat), (36, .int .i64 t.toNat), (37, .bool false)] := F.sub _
   refine X.thenN ?_
   refine Y.ret ?_
   have e1 : playRows gr hold nd t l = (runFrom hold gr.toNat n l (startS nd) t.toNat).rows := by unfold playRows playR; rw [if_pos hE, hln]
   have e2 : playEn gr hold nd t l = (List.range n).map (enS nd (runFrom hold gr.toNat n l (startS nd) t.toNat).rows) := by unfold playEn playR; rw [if_pos hE, hln]
   have e3 : (runFrom hold gr.toNat n l (startS nd) t.toNat).rows.take t.toNat = (runFrom hold gr.toNat n l (startS nd) t.toNat).rows := List.take_of_length_le (by rw [(runFrom_len t.toNat).2]; omega)
   rw [e3] at hS
   exact Y.ret0 (v := .tuple #[.slice ra t.toNat rc, .slice (some ⟨w6.heap.size, 0, none⟩) n n, .int .i64 0]) F (Y.rs3 F rfl (by kernel_rfl) (by kernel_rfl) (by kernel_rfl)) ⟨_, _, _, _, _, _, by rw [hE], by rw [e1]; exact hIr, by rw [e2]; exact ownP_ints hS (by omega), G⟩
  | true =>
   try rw [h10] at F
   have h10p : ((k : Int) < t.toNat) := of_decide_eq_true h10
   have hk2 : k < t.toNat := by omega
   have hrl := (runFrom_len (n := n) (gr := gr.toNat) (s := startS nd) (hold := hold) (l := l) t.toNat).2
   refine Y.condT (F.ev 37 (.bool true)) ?_
   refine Y.skip ?_
   refine X.thenN ?_
   refine Y.seq ?_
   refine Y.block ?_
   refine Y.seq ?_
   refine Y.lit (by kernel_rfl) ?_
   obtain ⟨pd11, pe11, -, pc11⟩ := hIr.at (j := k) (by omega)
   subst pe11
   replace hC : RCells w9 [(⟨w.heap.size, 0, none⟩, .int .i64 gr), (⟨w.heap.size, 1, none⟩, .int .i64 hold), (⟨w.heap.size, 2, none⟩, .slice na n nc), (pd11.add k, .int .i64 (((runFrom hold gr.toNat n l (startS nd) t.toNat).rows)[k]?.getD 0))] := hC.append ((RCells.cons pc11 (RCells.nil _)))
   clear pc11
   refine Y.pval F (X.w0 rfl) rfl (X.index rfl (F.ev 34 (.slice (some pd11) t.toNat rc)) (F.ev 36 (.int .i64 k)) (X.idx (k := k) Try.underlying34 (Try.siz3 _) (by omega) (by omega) (by rw [Nat.mul_one]))) ?_
   clear F ac
   intro ac F
   refine Y.pval F (X.w0 rfl) rfl (X.load rfl (F.ev 38 (.pointer (some (pd11.add k)))) (X.ld1 (Try.agg3 _) (hC.at 3 rfl))) ?_
   clear F ac
   intro ac F
   refine Y.pval F (X.w0 rfl) rfl (X.assign rfl (F.ev 39 (.int .i64 (((runFrom hold gr.toNat n l (startS nd) t.toNat).rows)[k]?.getD 0)))) ?_
   clear F ac
   intro ac F
   refine Y.nil ?_
   replace F : Fr ac 73 [(0, .agg #[.int .i64 gr, .int .i64 hold, .slice na n nc]), (1, .int .i64 t), (2, .slice la m lc), (3, .pointer (some ⟨w.heap.size, 0, none⟩)), (6, .slice (some pd11) t.toNat rc), (7, .slice (some ⟨w6.heap.size, 0, none⟩) n n), (8, .int .i64 0), (9, .pointer (some ⟨bp, 0, none⟩)), (11, .int .i64 (((runFrom hold gr.toNat n l (startS nd) t.toNat).rows)[k]?.getD 0)), (22, .bool false), (34, .slice (some pd11) t.toNat rc), (35, .int .i64 t.toNat), (36, .int .i64 k), (37, .bool true)] := F.sub _
   refine X.thenN ?_
   refine Y.seq ?_
   refine Y.lit (by kernel_rfl) ?_
   refine Y.pval F (X.w0 rfl) rfl (X.field rfl (F.ev 3 (.pointer (some ⟨w.heap.size, 0, none⟩))) (X.fld Try.underlying24 rfl (Try.siz22 _) rfl rfl)) ?_
   clear F ac
   intro ac F
   refine Y.pval F (X.w0 rfl) rfl (X.load rfl (F.ev 40 (.pointer (some ⟨w.heap.size, 2, none⟩))) (X.ld1 (Try.agg22 _) (hC.at 2 rfl))) ?_
   clear F ac
   intro ac F
   refine Y.pval F (X.w0 rfl) rfl (X.len1 Try.underlying22 rfl (F.ev 41 (.slice na n nc))) ?_
   clear F ac
   intro ac F
   refine Y.pval F (X.w0 rfl) rfl (X.move rfl (X.kc (.int .i64 0) rfl)) ?_
   clear F ac
   intro ac F
   refine Y.nil ?_
   replace F : Fr ac 73 [(0, .agg #[.int .i64 gr, .int .i64 hold, .slice na n nc]), (1, .int .i64 t), (2, .slice la m lc), (3, .pointer (some ⟨w.heap.size, 0, none⟩)), (6, .slice (some pd11) t.toNat rc), (7, .slice (some ⟨w6.heap.size, 0, none⟩) n n), (8, .int .i64 0), (9, .pointer (some ⟨bp, 0, none⟩)), (11, .int .i64 (((runFrom hold gr.toNat n l (startS nd) t.toNat).rows)[k]?.getD 0)), (22, .bool false), (34, .slice (some pd11) t.toNat rc), (35, .int .i64 t.toNat), (36, .int .i64 k), (37, .bool true), (41, .slice na n nc), (42, .int .i64 n), (43, .int .i64 0)] := F.sub _
   refine X.thenN ?_
   refine Y.block ?_
   have hI1_2 := hI1
   have hIa_2 := hIa
   have hIr_2 := hIr
   have G_2 := G
   have hC_2 := hC
   refine Y.loop (fun me_ ac wr => ∃ (i : Nat), me_ = n - i ∧ i ≤ n ∧ Only (fun b => b = w6.heap.size) w9 wr ∧ OwnP wr w6.heap.size (n) (EV (enP nd ((runFrom hold gr.toNat n l (startS nd) t.toNat).rows[k]?.getD 0) i (enS nd ((runFrom hold gr.toNat n l (startS nd) t.toNat).rows.take k)))) ∧ Fr ac 73 [(0, .agg #[.int .i64 gr, .int .i64 hold, .slice na n nc]), (1, .int .i64 t), (2, .slice la m lc), (3, .pointer (some ⟨w.heap.size, 0, none⟩)), (6, .slice (some pd11) t.toNat rc), (7, .slice (some ⟨w6.heap.size, 0, none⟩) n n), (8, .int .i64 0), (9, .pointer (some ⟨bp, 0, none⟩)), (11, .int .i64 (((runFrom hold gr.toNat n l (startS nd) t.toNat).rows)[k]?.getD 0)), (22, .bool false), (34, .slice (some pd11) t.toNat rc), (35, .int .i64 t.toNat), (36, .int .i64 k), (37, .bool true), (41, .slice na n nc), (42, .int .i64 n), (43, .int .i64 i)]) _ ⟨0, rfl, Nat.zero_le _, Only.refl _ _, (by rw [enP_zero]; exact hS), F.sub _⟩ ?_
   clear F G ac hC hS hI1 hIa hIr hnd hl
   intro me_ ac w12 hI
   obtain ⟨i, rfl, hi, hI2, hS, F⟩ := hI
   have G := Y.Only.up G_2 hI2 (by omega)
   have hI1 := hI1_2.trans hI2
   have hnd := hnd0.gr G
   have hl := hl0.gr G
   have hIa := hIa_2.onlyAt hI2 (fun ad e h => by have := hIab ad e; omega)
   have hIr := hIr_2.onlyAt hI2 (fun ad e h => by have := hIrb ad e; omega)
   have hC : RCells w12 [(⟨w.heap.size, 0, none⟩, .int .i64 gr), (⟨w.heap.size, 1, none⟩, .int .i64 hold), (⟨w.heap.size, 2, none⟩, .slice na n nc)] := (RCells.cons (hI2.cell (hC_2.at 0 rfl) (by show ¬ w.heap.size = w6.heap.size; omega)) (RCells.cons (hI2.cell (hC_2.at 1 rfl) (by show ¬ w.heap.size = w6.heap.size; omega)) (RCells.cons (hI2.cell (hC_2.at 2 rfl) (by show ¬ w.heap.size = w6.heap.size; omega)) (RCells.nil _))))
   refine Y.seq ?_
   refine Y.lit (by kernel_rfl) ?_
   refine Y.pval F (X.w0 rfl) rfl (X.binop rfl (F.ev 43 (.int .i64 i)) (F.ev 42 (.int .i64 n)) (X.lssI Try.underlying3 rfl)) ?_
   clear F ac
   intro ac F
   refine Y.nil ?_
   replace F : Fr ac 73 [(0, .agg #[.int .i64 gr, .int .i64 hold, .slice na n nc]), (1, .int .i64 t), (2, .slice la m lc), (3, .pointer (some ⟨w.heap.size, 0, none⟩)), (6, .slice (some pd11) t.toNat rc), (7, .slice (some ⟨w6.heap.size, 0, none⟩) n n), (8, .int .i64 0), (9, .pointer (some ⟨bp, 0, none⟩)), (11, .int .i64 (((runFrom hold gr.toNat n l (startS nd) t.toNat).rows)[k]?.getD 0)), (22, .bool false), (34, .slice (some pd11) t.toNat rc), (35, .int .i64 t.toNat), (36, .int .i64 k), (37, .bool true), (41, .slice na n nc), (42, .int .i64 n), (43, .int .i64 i), (44, .bool (decide ((i : Int) < n)))] := F.sub _
   refine X.thenN ?_
   refine Y.seq ?_
   cases h13 : decide ((i : Int) < n) with
   | false =>
    try rw [h13] at F
    have h13p : ¬ ((i : Int) < n) := of_decide_eq_false h13
    obtain rfl : n = i := by omega
    refine Y.condF (F.ev 44 (.bool false)) ?_
    refine Y.exit ?_
    refine X.thenX ?_
    refine X.thenX ?_
    refine X.blockX ?_
    refine X.blockN ?_
    refine X.thenN ?_
    refine Y.lit (by kernel_rfl) ?_
    refine Y.pval F (X.w0 rfl) rfl (X.binop rfl (F.ev 36 (.int .i64 k)) (X.kc (.int .i64 1) rfl) (X.addI Try.underlying3 rfl (by omega) (by omega))) ?_
    clear F ac
    intro ac F
    refine Y.pval F (X.w0 rfl) rfl (X.move rfl (F.ev 70 (.int .i64 ((k : Int) + 1)))) ?_
    clear F ac
    intro ac F
    refine Y.nil ?_
    replace F : Fr ac 73 [(0, .agg #[.int .i64 gr, .int .i64 hold, .slice na n nc]), (1, .int .i64 t), (2, .slice la m lc), (3, .pointer (some ⟨w.heap.size, 0, none⟩)), (6, .slice (some pd11) t.toNat rc), (7, .slice (some ⟨w6.heap.size, 0, none⟩) n n), (8, .int .i64 0), (9, .pointer (some ⟨bp, 0, none⟩)), (11, .int .i64 (((runFrom hold gr.toNat n l (startS nd) t.toNat).rows)[k]?.getD 0)), (22, .bool false), (34, .slice (some pd11) t.toNat rc), (35, .int .i64 t.toNat), (36, .int .i64 ((k : Int) + 1)), (37, .bool true), (41, .slice na n nc), (42, .int .i64 n), (43, .int .i64 n), (44, .bool false)] := F.sub _
    refine X.thenN ?_
    refine ⟨_, ?_, k + 1, rfl, by omega, hI1, hS.congr (fun j hj => by unfold EV; rw [enS_take (by omega) j]; unfold enP; rw [if_pos hj]), F.sub _⟩
    omega
   | true =>
    try rw [h13] at F
    have h13p : ((i : Int) < n) := of_decide_eq_true h13
    have hi2 : i < n := by omega
    have hb1 := enS_bd hc (j := i) (by omega) ((runFrom hold gr.toNat n l (startS nd) t.toNat).rows.take k)
    have hb2 := enP_at nd ((runFrom hold gr.toNat n l (startS nd) t.toNat).rows[k]?.getD 0) i (enS nd ((runFrom hold gr.toNat n l (startS nd) t.toNat).rows.take k))
    have hb3 : ((runFrom hold gr.toNat n l (startS nd) t.toNat).rows.take k).length ≤ 1000 := by rw [List.length_take]; omega
    have hb4 := hc.awk i (by omega)
    have hb5 := hc.asl i (by omega)
    refine Y.condT (F.ev 44 (.bool true)) ?_
    refine Y.skip ?_
    refine X.thenN ?_
    refine Y.seq ?_
    refine Y.block ?_
    refine Y.seq ?_
    refine Y.lit (by kernel_rfl) ?_
    refine Y.pval F (X.w0 rfl) rfl (X.move rfl (F.ev 43 (.int .i64 i))) ?_
    clear F ac
    intro ac F
    obtain ⟨pd14, pe14, -, -, pc14⟩ := hnd.at (j := i) (by omega)
    subst pe14
    replace hC : RCells w12 [(⟨w.heap.size, 0, none⟩, .int .i64 gr), (⟨w.heap.size, 1, none⟩, .int .i64 hold), (⟨w.heap.size, 2, none⟩, .slice (some pd14) n nc), (pd14.add (i * 5), .int .i64 (cv nd i 0)), (⟨(pd14.add (i * 5)).block, (pd14.add (i * 5)).off + 1, none⟩, .int .i64 (cv nd i 1)), (⟨(pd14.add (i * 5)).block, (pd14.add (i * 5)).off + 2, none⟩, .int .i64 (cv nd i 2)), (⟨(pd14.add (i * 5)).block, (pd14.add (i * 5)).off + 3, none⟩, .int .i64 (cv nd i 3)), (⟨(pd14.add (i * 5)).block, (pd14.add (i * 5)).off + 4, none⟩, .int .i64 (cv nd i 4))] := hC.append ((RCells.cons (pc14 0 (by decide)) (RCells.cons (pc14 1 (by decide)) (RCells.cons (pc14 2 (by decide)) (RCells.cons (pc14 3 (by decide)) (RCells.cons (pc14 4 (by decide)) (RCells.nil _)))))))
    clear pc14
    refine Y.pval F (X.w0 rfl) rfl (X.index rfl (F.ev 41 (.slice (some pd14) n nc)) (F.ev 43 (.int .i64 i)) (X.idx (k := i) Try.underlying22 (Try.siz31 _) (by omega) (by omega) rfl)) ?_
    clear F ac
    intro ac F
    refine Y.pval F (X.w0 rfl) rfl (X.load rfl (F.ev 46 (.pointer (some (pd14.add (i * 5))))) (X.ldN (Try.agg31 _) (Try.siz31 _) (Y.atz (pd14.add (i * 5)) (Y.AtFrom.cons (hC.at 3 rfl) (Y.AtFrom.cons (hC.at 4 rfl) (Y.AtFrom.cons (hC.at 5 rfl) (Y.AtFrom.cons (hC.at 6 rfl) (Y.AtFrom.cons (hC.at 7 rfl) (Y.AtFrom.nil _ _ _))))))))) ?_
    clear F ac
    intro ac F
    refine Y.pval F (X.w0 rfl) rfl (Y.al rfl (Try.new31 _)) ?_
    clear F ac
    intro ac F
    refine Y.pval F (X.w0 rfl) rfl (X.assign rfl (F.ev 45 (.int .i64 i))) ?_
    clear F ac
    intro ac F
    refine Y.punit F (X.w0 rfl) rfl (X.store rfl (F.ev 13 (.pointer (some ⟨w12.heap.size, 0, none⟩))) (F.ev 47 (.agg #[.int .i64 (cv nd i 0), .int .i64 (cv nd i 1), .int .i64 (cv nd i 2), .int .i64 (cv nd i 3), .int .i64 (cv nd i 4)])) (Y.stNew [.int .i64 (cv nd i 0), .int .i64 (cv nd i 1), .int .i64 (cv nd i 2), .int .i64 (cv nd i 3), .int .i64 (cv nd i 4)] [.int .i64 0, .int .i64 0, .int .i64 0, .int .i64 0, .int .i64 0] (Try.siz31 _) rfl rfl)) ?_
    clear F ac
    intro ac F
    have hq15 : w6.heap.size < w12.heap.size := hS.lt
    have hq16 : w.heap.size < w12.heap.size := lt_cell (hC.at 0 rfl)
    have g := Gr.alloc w12 (.cells #[.int .i64 (cv nd i 0), .int .i64 (cv nd i 1), .int .i64 (cv nd i 2), .int .i64 (cv nd i 3), .int .i64 (cv nd i 4)] 31)
    have hb := heap_alloc_new w12 (.cells #[.int .i64 (cv nd i 0), .int .i64 (cv nd i 1), .int .i64 (cv nd i 2), .int .i64 (cv nd i 3), .int .i64 (cv nd i 4)] 31)
    have hbl : w12.heap.size < (w12.alloc (.cells #[.int .i64 (cv nd i 0), .int .i64 (cv nd i 1), .int .i64 (cv nd i 2), .int .i64 (cv nd i 3), .int .i64 (cv nd i 4)] 31)).heap.size := by simp
    have hC2 : RCells (w12.alloc (.cells #[.int .i64 (cv nd i 0), .int .i64 (cv nd i 1), .int .i64 (cv nd i 2), .int .i64 (cv nd i 3), .int .i64 (cv nd i 4)] 31)) [(⟨w.heap.size, 0, none⟩, .int .i64 gr), (⟨w.heap.size, 1, none⟩, .int .i64 hold), (⟨w.heap.size, 2, none⟩, .slice (some pd14) n nc), (pd14.add (i * 5), .int .i64 (cv nd i 0)), (⟨(pd14.add (i * 5)).block, (pd14.add (i * 5)).off + 1, none⟩, .int .i64 (cv nd i 1)), (⟨(pd14.add (i * 5)).block, (pd14.add (i * 5)).off + 2, none⟩, .int .i64 (cv nd i 2)), (⟨(pd14.add (i * 5)).block, (pd14.add (i * 5)).off + 3, none⟩, .int .i64 (cv nd i 3)), (⟨(pd14.add (i * 5)).block, (pd14.add (i * 5)).off + 4, none⟩, .int .i64 (cv nd i 4)), (⟨w12.heap.size, 0, none⟩, .int .i64 (cv nd i 0)), (⟨w12.heap.size, 1, none⟩, .int .i64 (cv nd i 1)), (⟨w12.heap.size, 2, none⟩, .int .i64 (cv nd i 2)), (⟨w12.heap.size, 3, none⟩, .int .i64 (cv nd i 3)), (⟨w12.heap.size, 4, none⟩, .int .i64 (cv nd i 4))] := hC.box (b := w12.heap.size) #[.int .i64 (cv nd i 0), .int .i64 (cv nd i 1), .int .i64 (cv nd i 2), .int .i64 (cv nd i 3), .int .i64 (cv nd i 4)] 31 rfl
    generalize w12.alloc (.cells #[.int .i64 (cv nd i 0), .int .i64 (cv nd i 1), .int .i64 (cv nd i 2), .int .i64 (cv nd i 3), .int .i64 (cv nd i 4)] 31) = w17 at *
    replace G := G.trans g
    replace hC := hC2
    clear hC2
    replace hI1 := hI1.thenGr g
    replace hI2 := hI2.thenGr g
    replace hnd := hnd.gr g
    replace hl := hl.gr g
    replace hIa := hIa.gr g
    replace hIr := hIr.gr g
    replace hS := hS.gr g
    clear g hb hbl
    refine Y.nil ?_
    replace F : Fr ac 73 [(0, .agg #[.int .i64 gr, .int .i64 hold, .slice (some pd14) n nc]), (1, .int .i64 t), (2, .slice la m lc), (3, .pointer (some ⟨w.heap.size, 0, none⟩)), (6, .slice (some pd11) t.toNat rc), (7, .slice (some ⟨w6.heap.size, 0, none⟩) n n), (8, .int .i64 0), (9, .pointer (some ⟨bp, 0, none⟩)), (11, .int .i64 (((runFrom hold gr.toNat n l (startS nd) t.toNat).rows)[k]?.getD 0)), (12, .int .i64 i), (13, .pointer (some ⟨w12.heap.size, 0, none⟩)), (22, .bool false), (34, .slice (some pd11) t.toNat rc), (35, .int .i64 t.toNat), (36, .int .i64 k), (37, .bool true), (41, .slice (some pd14) n nc), (42, .int .i64 n), (43, .int .i64 i), (44, .bool true)] := F.sub _
    refine X.thenN ?_
    refine Y.seq ?_
    refine Y.lit (by kernel_rfl) ?_
    refine Y.pval F (X.w0 rfl) rfl (X.move rfl (F.ev 11 (.int .i64 (((runFrom hold gr.toNat n l (startS nd) t.toNat).rows)[k]?.getD 0)))) ?_
    clear F ac
    intro ac F
    refine Y.pval F (X.w0 rfl) rfl (X.move rfl (F.ev 12 (.int .i64 i))) ?_
    clear F ac
    intro ac F
    refine Y.pval F (X.w0 rfl) rfl (X.binop rfl (F.ev 48 (.int .i64 (((runFrom hold gr.toNat n l (startS nd) t.toNat).rows)[k]?.getD 0))) (F.ev 49 (.int .i64 i)) (X.shrI Try.underlying3 rfl (by omega))) ?_
    clear F ac
    intro ac F
    refine Y.pval F (X.w0 rfl) rfl (X.binop rfl (F.ev 50 (.int .i64 (shrV (((runFrom hold gr.toNat n l (startS nd) t.toNat).rows)[k]?.getD 0 : Int) (i : Int)))) (X.kc (.int .i64 1) rfl) (X.andI Try.underlying3 rfl)) ?_
    clear F ac
    intro ac F
    refine Y.pval F (X.w0 rfl) rfl (X.binop rfl (F.ev 51 (.int .i64 (andV (shrV (((runFrom hold gr.toNat n l (startS nd) t.toNat).rows)[k]?.getD 0 : Int) (i : Int) : Int) 1))) (X.kc (.int .i64 1) rfl) (X.eqlI Try.underlying3 rfl)) ?_
    clear F ac
    intro ac F
    refine Y.nil ?_
    replace F : Fr ac 73 [(0, .agg #[.int .i64 gr, .int .i64 hold, .slice (some pd14) n nc]), (1, .int .i64 t), (2, .slice la m lc), (3, .pointer (some ⟨w.heap.size, 0, none⟩)), (6, .slice (some pd11) t.toNat rc), (7, .slice (some ⟨w6.heap.size, 0, none⟩) n n), (8, .int .i64 0), (9, .pointer (some ⟨bp, 0, none⟩)), (11, .int .i64 (((runFrom hold gr.toNat n l (startS nd) t.toNat).rows)[k]?.getD 0)), (12, .int .i64 i), (13, .pointer (some ⟨w12.heap.size, 0, none⟩)), (22, .bool false), (34, .slice (some pd11) t.toNat rc), (35, .int .i64 t.toNat), (36, .int .i64 k), (37, .bool true), (41, .slice (some pd14) n nc), (42, .int .i64 n), (43, .int .i64 i), (44, .bool true), (52, .bool ((andV (shrV (((runFrom hold gr.toNat n l (startS nd) t.toNat).rows)[k]?.getD 0 : Int) (i : Int) : Int) 1 : Int) == 1))] := F.sub _
    refine X.thenN ?_
    cases h18 : ((andV (shrV (((runFrom hold gr.toNat n l (startS nd) t.toNat).rows)[k]?.getD 0 : Int) (i : Int) : Int) 1 : Int) == 1) with
    | false =>
     try rw [h18] at F
     have h18p : ¬ (andV (shrV (((runFrom hold gr.toNat n l (startS nd) t.toNat).rows)[k]?.getD 0 : Int) (i : Int) : Int) 1 : Int) = 1 := by simpa using h18
     refine Y.condF (F.ev 52 (.bool false)) ?_
     replace hC : RCells w17 [(⟨w.heap.size, 0, none⟩, .int .i64 gr), (⟨w.heap.size, 1, none⟩, .int .i64 hold), (⟨w.heap.size, 2, none⟩, .slice (some pd14) n nc), (pd14.add (i * 5), .int .i64 (cv nd i 0)), (⟨(pd14.add (i * 5)).block, (pd14.add (i * 5)).off + 1, none⟩, .int .i64 (cv nd i 1)), (⟨(pd14.add (i * 5)).block, (pd14.add (i * 5)).off + 2, none⟩, .int .i64 (cv nd i 2)), (⟨(pd14.add (i * 5)).block, (pd14.add (i * 5)).off + 3, none⟩, .int .i64 (cv nd i 3)), (⟨(pd14.add (i * 5)).block, (pd14.add (i * 5)).off + 4, none⟩, .int .i64 (cv nd i 4)), (⟨w12.heap.size, 0, none⟩, .int .i64 (cv nd i 0)), (⟨w12.heap.size, 1, none⟩, .int .i64 (cv nd i 1)), (⟨w12.heap.size, 2, none⟩, .int .i64 (cv nd i 2)), (⟨w12.heap.size, 3, none⟩, .int .i64 (cv nd i 3)), (⟨w12.heap.size, 4, none⟩, .int .i64 (cv nd i 4)), (⟨w6.heap.size, i, none⟩, .int .i64 ((enP nd ((runFrom hold gr.toNat n l (startS nd) t.toNat).rows[k]?.getD 0) i (enS nd ((runFrom hold gr.toNat n l (startS nd) t.toNat).rows.take k))) i))] := hC.append ((RCells.cons (hS.cell (k := i) (by omega)) (RCells.nil _)))
     refine Y.regionS F [some (.slice (some ⟨w6.heap.size, 0, none⟩) n n), some (.int .i64 i), some (.pointer (some ⟨w6.heap.size, i, none⟩)), some (.int .i64 ((enP nd ((runFrom hold gr.toNat n l (startS nd) t.toNat).rows[k]?.getD 0) i (enS nd ((runFrom hold gr.toNat n l (startS nd) t.toNat).rows.take k))) i)), some (.pointer (some ⟨w12.heap.size, 2, none⟩)), some (.int .i64 (cv nd i 2)), some (.int .i64 (((enP nd ((runFrom hold gr.toNat n l (startS nd) t.toNat).rows[k]?.getD 0) i (enS nd ((runFrom hold gr.toNat n l (startS nd) t.toNat).rows.take k))) i : Int) + (cv nd i 2))), some (.pointer (some ⟨w6.heap.size, i, none⟩)), none] [] 8 (fun _ W => Only (fun x => x = w6.heap.size) w17 W ∧ OwnP W w6.heap.size (n) (EV ((fun z_ => if z_ = i then ((enP nd ((runFrom hold gr.toNat n l (startS nd) t.toNat).rows[k]?.getD 0) i (enS nd ((runFrom hold gr.toNat n l (startS nd) t.toNat).rows.take k))) i : Int) + (cv nd i 2) else (enP nd ((runFrom hold gr.toNat n l (startS nd) t.toNat).rows[k]?.getD 0) i (enS nd ((runFrom hold gr.toNat n l (startS nd) t.toNat).rows.take k))) z_)))) rfl ⟨by kernel_rfl, of_decide_eq_true (by kernel_rfl), by kernel_rfl, by kernel_rfl, by kernel_rfl⟩ (of_decide_eq_true (by kernel_rfl)) ⟨?_, ?_, ?_, ?_, ?_, ?_, ?_, ?_, ?_, trivial⟩ ?_
     ·intro ac done u W Sx hT
      have hs := Sx.no 8 (by kernel_rfl)
      have hR := hT.1 hs
      exact X.val (X.w0 rfl) rfl (X.move rfl (Sx.ev 7 (.slice (some ⟨w6.heap.size, 0, none⟩) n n))) (Y.RT.of hs rfl (hR.step (Gr.refl _) rfl))
     ·intro ac done u W Sx hT
      have hs := Sx.no 8 (by kernel_rfl)
      have hR := hT.1 hs
      exact X.val (X.w0 rfl) rfl (X.move rfl (Sx.ev 12 (.int .i64 i))) (Y.RT.of hs rfl (hR.step (Gr.refl _) rfl))
     ·intro ac done u W Sx hT
      have hs := Sx.no 8 (by kernel_rfl)
      have hR := hT.1 hs
      exact X.val (X.w0 rfl) rfl (X.index rfl (Sx.ev 61 (.slice (some ⟨w6.heap.size, 0, none⟩) n n)) (Sx.ev 62 (.int .i64 i)) (X.idx (k := i) Try.underlying34 (Try.siz3 _) (by omega) (by omega) (by rw [Nat.mul_one]; exact addr_add0 _ _))) (Y.RT.of hs rfl (hR.step (Gr.refl _) rfl))
     ·intro ac done u W Sx hT
      have hs := Sx.no 8 (by kernel_rfl)
      have hR := hT.1 hs
      have g : Gr w17 W := hR.1
      exact X.val (X.w0 rfl) rfl (X.load rfl (Sx.ev 63 (.pointer (some ⟨w6.heap.size, i, none⟩))) (X.ld1 (Try.agg3 _) ((hC.gr g).at 13 rfl))) (Y.RT.of hs rfl (hR.step (Gr.refl _) rfl))
     ·intro ac done u W Sx hT
      have hs := Sx.no 8 (by kernel_rfl)
      have hR := hT.1 hs
      exact X.val (X.w0 rfl) rfl (X.field rfl (Sx.ev 13 (.pointer (some ⟨w12.heap.size, 0, none⟩))) (X.fld Try.underlying31 rfl (Try.siz3 _) rfl rfl)) (Y.RT.of hs rfl (hR.step (Gr.refl _) rfl))
     ·intro ac done u W Sx hT
      have hs := Sx.no 8 (by kernel_rfl)
      have hR := hT.1 hs
      have g : Gr w17 W := hR.1
      exact X.val (X.w0 rfl) rfl (X.load rfl (Sx.ev 65 (.pointer (some ⟨w12.heap.size, 2, none⟩))) (X.ld1 (Try.agg3 _) ((hC.gr g).at 10 rfl))) (Y.RT.of hs rfl (hR.step (Gr.refl _) rfl))
     ·intro ac done u W Sx hT
      have hs := Sx.no 8 (by kernel_rfl)
      have hR := hT.1 hs
      exact X.val (X.w0 rfl) rfl (X.binop rfl (Sx.ev 64 (.int .i64 ((enP nd ((runFrom hold gr.toNat n l (startS nd) t.toNat).rows[k]?.getD 0) i (enS nd ((runFrom hold gr.toNat n l (startS nd) t.toNat).rows.take k))) i))) (Sx.ev 66 (.int .i64 (cv nd i 2))) (X.addI Try.underlying3 rfl (by omega) (by omega))) (Y.RT.of hs rfl (hR.step (Gr.refl _) rfl))
     ·intro ac done u W Sx hT
      have hs := Sx.no 8 (by kernel_rfl)
      have hR := hT.1 hs
      exact X.val (X.w0 rfl) rfl (X.index rfl (Sx.ev 61 (.slice (some ⟨w6.heap.size, 0, none⟩) n n)) (Sx.ev 62 (.int .i64 i)) (X.idx (k := i) Try.underlying34 (Try.siz3 _) (by omega) (by omega) (by rw [Nat.mul_one]; exact addr_add0 _ _))) (Y.RT.of hs rfl (hR.step (Gr.refl _) rfl))
     ·intro ac done u W Sx hT
      have hR := hT.1 Sx.nd
      have g : Gr w17 W := hR.1
      have hS2 := (hS.gr g).set (k := i) (.int .i64 (((enP nd ((runFrom hold gr.toNat n l (startS nd) t.toNat).rows[k]?.getD 0) i (enS nd ((runFrom hold gr.toNat n l (startS nd) t.toNat).rows.take k))) i : Int) + (cv nd i 2)))
      rw [EV_up] at hS2
      exact X.unit (X.w0 rfl) rfl (X.store rfl (Sx.ev 68 (.pointer (some ⟨w6.heap.size, i, none⟩))) (Sx.ev 67 (.int .i64 (((enP nd ((runFrom hold gr.toNat n l (startS nd) t.toNat).rows[k]?.getD 0) i (enS nd ((runFrom hold gr.toNat n l (startS nd) t.toNat).rows.take k))) i : Int) + (cv nd i 2)))) ((hS.gr g).st1 (Try.siz3 _) rfl rfl (by omega))) (Y.RT.fin ⟨(g.only _).trans (Y.set_only _ _ _ _), hS2⟩)
     rintro ac u w19 hs hd hl_ ho ⟨hon, hS2⟩
     replace F : Fr ac 73 [(0, .agg #[.int .i64 gr, .int .i64 hold, .slice (some pd14) n nc]), (1, .int .i64 t), (2, .slice la m lc), (3, .pointer (some ⟨w.heap.size, 0, none⟩)), (6, .slice (some pd11) t.toNat rc), (7, .slice (some ⟨w6.heap.size, 0, none⟩) n n), (8, .int .i64 0), (9, .pointer (some ⟨bp, 0, none⟩)), (11, .int .i64 (((runFrom hold gr.toNat n l (startS nd) t.toNat).rows)[k]?.getD 0)), (12, .int .i64 i), (13, .pointer (some ⟨w12.heap.size, 0, none⟩)), (22, .bool false), (34, .slice (some pd11) t.toNat rc), (35, .int .i64 t.toNat), (36, .int .i64 k), (37, .bool true), (41, .slice (some pd14) n nc), (42, .int .i64 n), (43, .int .i64 i), (44, .bool true), (52, .bool false)] := X.fr hs hd hl_ _ (by kernel_rfl)
     clear hs hd hl_ ho
     replace G := Y.Only.up G hon (by omega)
     replace hnd := hnd0.gr G
     replace hl := hl0.gr G
     replace hIa := hIa.onlyAt hon (fun ad e h => by have := hIab ad e; omega)
     replace hIr := hIr.onlyAt hon (fun ad e h => by have := hIrb ad e; omega)
     replace hC : RCells w19 [(⟨w.heap.size, 0, none⟩, .int .i64 gr), (⟨w.heap.size, 1, none⟩, .int .i64 hold), (⟨w.heap.size, 2, none⟩, .slice (some pd14) n nc), (⟨w12.heap.size, 0, none⟩, .int .i64 (cv nd i 0)), (⟨w12.heap.size, 1, none⟩, .int .i64 (cv nd i 1)), (⟨w12.heap.size, 2, none⟩, .int .i64 (cv nd i 2)), (⟨w12.heap.size, 3, none⟩, .int .i64 (cv nd i 3)), (⟨w12.heap.size, 4, none⟩, .int .i64 (cv nd i 4))] := (RCells.cons (hon.cell (hC.at 0 rfl) (by show ¬ w.heap.size = w6.heap.size; omega)) (RCells.cons (hon.cell (hC.at 1 rfl) (by show ¬ w.heap.size = w6.heap.size; omega)) (RCells.cons (hon.cell (hC.at 2 rfl) (by show ¬ w.heap.size = w6.heap.size; omega)) (RCells.cons (hon.cell (hC.at 8 rfl) (by show ¬ w12.heap.size = w6.heap.size; omega)) (RCells.cons (hon.cell (hC.at 9 rfl) (by show ¬ w12.heap.size = w6.heap.size; omega)) (RCells.cons (hon.cell (hC.at 10 rfl) (by show ¬ w12.heap.size = w6.heap.size; omega)) (RCells.cons (hon.cell (hC.at 11 rfl) (by show ¬ w12.heap.size = w6.heap.size; omega)) (RCells.cons (hon.cell (hC.at 12 rfl) (by show ¬ w12.heap.size = w6.heap.size; omega)) (RCells.nil _)))))))))
     replace hI1 := hI1.step hon (.inl rfl)
     replace hI2 := hI2.step hon (.inl rfl)
     replace hS : OwnP w19 w6.heap.size (n) (EV ((fun z_ => if z_ = i then ((enP nd ((runFrom hold gr.toNat n l (startS nd) t.toNat).rows[k]?.getD 0) i (enS nd ((runFrom hold gr.toNat n l (startS nd) t.toNat).rows.take k))) i : Int) + (cv nd i 2) else (enP nd ((runFrom hold gr.toNat n l (startS nd) t.toNat).rows[k]?.getD 0) i (enS nd ((runFrom hold gr.toNat n l (startS nd) t.toNat).rows.take k))) z_))) := hS2
     clear hS2 hon
     refine X.blockN ?_
     refine X.thenN ?_
     refine Y.lit (by kernel_rfl) ?_
     refine Y.pval F (X.w0 rfl) rfl (X.binop rfl (F.ev 43 (.int .i64 i)) (X.kc (.int .i64 1) rfl) (X.addI Try.underlying3 rfl (by omega) (by omega))) ?_
     clear F ac
     intro ac F
     refine Y.pval F (X.w0 rfl) rfl (X.move rfl (F.ev 69 (.int .i64 ((i : Int) + 1)))) ?_
     clear F ac
     intro ac F
     refine Y.nil ?_
     replace F : Fr ac 73 [(0, .agg #[.int .i64 gr, .int .i64 hold, .slice (some pd14) n nc]), (1, .int .i64 t), (2, .slice la m lc), (3, .pointer (some ⟨w.heap.size, 0, none⟩)), (6, .slice (some pd11) t.toNat rc), (7, .slice (some ⟨w6.heap.size, 0, none⟩) n n), (8, .int .i64 0), (9, .pointer (some ⟨bp, 0, none⟩)), (11, .int .i64 (((runFrom hold gr.toNat n l (startS nd) t.toNat).rows)[k]?.getD 0)), (12, .int .i64 i), (13, .pointer (some ⟨w12.heap.size, 0, none⟩)), (22, .bool false), (34, .slice (some pd11) t.toNat rc), (35, .int .i64 t.toNat), (36, .int .i64 k), (37, .bool true), (41, .slice (some pd14) n nc), (42, .int .i64 n), (43, .int .i64 ((i : Int) + 1)), (44, .bool true), (52, .bool false)] := F.sub _
     refine X.thenN ?_
     refine ⟨_, ?_, i + 1, rfl, by omega, hI2, (by rw [enP_succ nd _ i _ (by unfold en1 bitB; simp [h18])] at hS; exact hS), F.sub _⟩
     omega
    | true =>
     try rw [h18] at F
     have h18p : (andV (shrV (((runFrom hold gr.toNat n l (startS nd) t.toNat).rows)[k]?.getD 0 : Int) (i : Int) : Int) 1 : Int) = 1 := by simpa using h18
     refine Y.condT (F.ev 52 (.bool true)) ?_
     replace hC : RCells w17 [(⟨w.heap.size, 0, none⟩, .int .i64 gr), (⟨w.heap.size, 1, none⟩, .int .i64 hold), (⟨w.heap.size, 2, none⟩, .slice (some pd14) n nc), (pd14.add (i * 5), .int .i64 (cv nd i 0)), (⟨(pd14.add (i * 5)).block, (pd14.add (i * 5)).off + 1, none⟩, .int .i64 (cv nd i 1)), (⟨(pd14.add (i * 5)).block, (pd14.add (i * 5)).off + 2, none⟩, .int .i64 (cv nd i 2)), (⟨(pd14.add (i * 5)).block, (pd14.add (i * 5)).off + 3, none⟩, .int .i64 (cv nd i 3)), (⟨(pd14.add (i * 5)).block, (pd14.add (i * 5)).off + 4, none⟩, .int .i64 (cv nd i 4)), (⟨w12.heap.size, 0, none⟩, .int .i64 (cv nd i 0)), (⟨w12.heap.size, 1, none⟩, .int .i64 (cv nd i 1)), (⟨w12.heap.size, 2, none⟩, .int .i64 (cv nd i 2)), (⟨w12.heap.size, 3, none⟩, .int .i64 (cv nd i 3)), (⟨w12.heap.size, 4, none⟩, .int .i64 (cv nd i 4)), (⟨w6.heap.size, i, none⟩, .int .i64 ((enP nd ((runFrom hold gr.toNat n l (startS nd) t.toNat).rows[k]?.getD 0) i (enS nd ((runFrom hold gr.toNat n l (startS nd) t.toNat).rows.take k))) i))] := hC.append ((RCells.cons (hS.cell (k := i) (by omega)) (RCells.nil _)))
     refine Y.regionS F [some (.slice (some ⟨w6.heap.size, 0, none⟩) n n), some (.int .i64 i), some (.pointer (some ⟨w6.heap.size, i, none⟩)), some (.int .i64 ((enP nd ((runFrom hold gr.toNat n l (startS nd) t.toNat).rows[k]?.getD 0) i (enS nd ((runFrom hold gr.toNat n l (startS nd) t.toNat).rows.take k))) i)), some (.pointer (some ⟨w12.heap.size, 1, none⟩)), some (.int .i64 (cv nd i 1)), some (.int .i64 (((enP nd ((runFrom hold gr.toNat n l (startS nd) t.toNat).rows[k]?.getD 0) i (enS nd ((runFrom hold gr.toNat n l (startS nd) t.toNat).rows.take k))) i : Int) + (cv nd i 1))), some (.pointer (some ⟨w6.heap.size, i, none⟩)), none] [] 8 (fun _ W => Only (fun x => x = w6.heap.size) w17 W ∧ OwnP W w6.heap.size (n) (EV ((fun z_ => if z_ = i then ((enP nd ((runFrom hold gr.toNat n l (startS nd) t.toNat).rows[k]?.getD 0) i (enS nd ((runFrom hold gr.toNat n l (startS nd) t.toNat).rows.take k))) i : Int) + (cv nd i 1) else (enP nd ((runFrom hold gr.toNat n l (startS nd) t.toNat).rows[k]?.getD 0) i (enS nd ((runFrom hold gr.toNat n l (startS nd) t.toNat).rows.take k))) z_)))) rfl ⟨by kernel_rfl, of_decide_eq_true (by kernel_rfl), by kernel_rfl, by kernel_rfl, by kernel_rfl⟩ (of_decide_eq_true (by kernel_rfl)) ⟨?_, ?_, ?_, ?_, ?_, ?_, ?_, ?_, ?_, trivial⟩ ?_
     ·intro ac done u W Sx hT
      have hs := Sx.no 8 (by kernel_rfl)
      have hR := hT.1 hs
      exact X.val (X.w0 rfl) rfl (X.move rfl (Sx.ev 7 (.slice (some ⟨w6.heap.size, 0, none⟩) n n))) (Y.RT.of hs rfl (hR.step (Gr.refl _) rfl))
     ·intro ac done u W Sx hT
      have hs := Sx.no 8 (by kernel_rfl)
      have hR := hT.1 hs
      exact X.val (X.w0 rfl) rfl (X.move rfl (Sx.ev 12 (.int .i64 i))) (Y.RT.of hs rfl (hR.step (Gr.refl _) rfl))
     ·intro ac done u W Sx hT
      have hs := Sx.no 8 (by kernel_rfl)
      have hR := hT.1 hs
      exact X.val (X.w0 rfl) rfl (X.index rfl (Sx.ev 53 (.slice (some ⟨w6.heap.size, 0, none⟩) n n)) (Sx.ev 54 (.int .i64 i)) (X.idx (k := i) Try.underlying34 (Try.siz3 _) (by omega) (by omega) (by rw [Nat.mul_one]; exact addr_add0 _ _))) (Y.RT.of hs rfl (hR.step (Gr.refl _) rfl))
     ·intro ac done u W Sx hT
      have hs := Sx.no 8 (by kernel_rfl)
      have hR := hT.1 hs
      have g : Gr w17 W := hR.1
      exact X.val (X.w0 rfl) rfl (X.load rfl (Sx.ev 55 (.pointer (some ⟨w6.heap.size, i, none⟩))) (X.ld1 (Try.agg3 _) ((hC.gr g).at 13 rfl))) (Y.RT.of hs rfl (hR.step (Gr.refl _) rfl))
     ·intro ac done u W Sx hT
      have hs := Sx.no 8 (by kernel_rfl)
      have hR := hT.1 hs
      exact X.val (X.w0 rfl) rfl (X.field rfl (Sx.ev 13 (.pointer (some ⟨w12.heap.size, 0, none⟩))) (X.fld Try.underlying31 rfl (Try.siz3 _) rfl rfl)) (Y.RT.of hs rfl (hR.step (Gr.refl _) rfl))
     ·intro ac done u W Sx hT
      have hs := Sx.no 8 (by kernel_rfl)
      have hR := hT.1 hs
      have g : Gr w17 W := hR.1
      exact X.val (X.w0 rfl) rfl (X.load rfl (Sx.ev 57 (.pointer (some ⟨w12.heap.size, 1, none⟩))) (X.ld1 (Try.agg3 _) ((hC.gr g).at 9 rfl))) (Y.RT.of hs rfl (hR.step (Gr.refl _) rfl))
     ·intro ac done u W Sx hT
      have hs := Sx.no 8 (by kernel_rfl)
      have hR := hT.1 hs
      exact X.val (X.w0 rfl) rfl (X.binop rfl (Sx.ev 56 (.int .i64 ((enP nd ((runFrom hold gr.toNat n l (startS nd) t.toNat).rows[k]?.getD 0) i (enS nd ((runFrom hold gr.toNat n l (startS nd) t.toNat).rows.take k))) i))) (Sx.ev 58 (.int .i64 (cv nd i 1))) (X.addI Try.underlying3 rfl (by omega) (by omega))) (Y.RT.of hs rfl (hR.step (Gr.refl _) rfl))
     ·intro ac done u W Sx hT
      have hs := Sx.no 8 (by kernel_rfl)
      have hR := hT.1 hs
      exact X.val (X.w0 rfl) rfl (X.index rfl (Sx.ev 53 (.slice (some ⟨w6.heap.size, 0, none⟩) n n)) (Sx.ev 54 (.int .i64 i)) (X.idx (k := i) Try.underlying34 (Try.siz3 _) (by omega) (by omega) (by rw [Nat.mul_one]; exact addr_add0 _ _))) (Y.RT.of hs rfl (hR.step (Gr.refl _) rfl))
     ·intro ac done u W Sx hT
      have hR := hT.1 Sx.nd
      have g : Gr w17 W := hR.1
      have hS2 := (hS.gr g).set (k := i) (.int .i64 (((enP nd ((runFrom hold gr.toNat n l (startS nd) t.toNat).rows[k]?.getD 0) i (enS nd ((runFrom hold gr.toNat n l (startS nd) t.toNat).rows.take k))) i : Int) + (cv nd i 1)))
      rw [EV_up] at hS2
      exact X.unit (X.w0 rfl) rfl (X.store rfl (Sx.ev 60 (.pointer (some ⟨w6.heap.size, i, none⟩))) (Sx.ev 59 (.int .i64 (((enP nd ((runFrom hold gr.toNat n l (startS nd) t.toNat).rows[k]?.getD 0) i (enS nd ((runFrom hold gr.toNat n l (startS nd) t.toNat).rows.take k))) i : Int) + (cv nd i 1)))) ((hS.gr g).st1 (Try.siz3 _) rfl rfl (by omega))) (Y.RT.fin ⟨(g.only _).trans (Y.set_only _ _ _ _), hS2⟩)
     rintro ac u w20 hs hd hl_ ho ⟨hon, hS2⟩
     replace F : Fr ac 73 [(0, .agg #[.int .i64 gr, .int .i64 hold, .slice (some pd14) n nc]), (1, .int .i64 t), (2, .slice la m lc), (3, .pointer (some ⟨w.heap.size, 0, none⟩)), (6, .slice (some pd11) t.toNat rc), (7, .slice (some ⟨w6.heap.size, 0, none⟩) n n), (8, .int .i64 0), (9, .pointer (some ⟨bp, 0, none⟩)), (11, .int .i64 (((runFrom hold gr.toNat n l (startS nd) t.toNat).rows)[k]?.getD 0)), (12, .int .i64 i), (13, .pointer (some ⟨w12.heap.size, 0, none⟩)), (22, .bool false), (34, .slice (some pd11) t.toNat rc), (35, .int .i64 t.toNat), (36, .int .i64 k), (37, .bool true), (41, .slice (some pd14) n nc), (42, .int .i64 n), (43, .int .i64 i), (44, .bool true), (52, .bool true)] := X.fr hs hd hl_ _ (by kernel_rfl)
     clear hs hd hl_ ho
     replace G := Y.Only.up G hon (by omega)
     replace hnd := hnd0.gr G
     replace hl := hl0.gr G
     replace hIa := hIa.onlyAt hon (fun ad e h => by have := hIab ad e; omega)
     replace hIr := hIr.onlyAt hon (fun ad e h => by have := hIrb ad e; omega)
     replace hC : RCells w20 [(⟨w.heap.size, 0, none⟩, .int .i64 gr), (⟨w.heap.size, 1, none⟩, .int .i64 hold), (⟨w.heap.size, 2, none⟩, .slice (some pd14) n nc), (⟨w12.heap.size, 0, none⟩, .int .i64 (cv nd i 0)), (⟨w12.heap.size, 1, none⟩, .int .i64 (cv nd i 1)), (⟨w12.heap.size, 2, none⟩, .int .i64 (cv nd i 2)), (⟨w12.heap.size, 3, none⟩, .int .i64 (cv nd i 3)), (⟨w12.heap.size, 4, none⟩, .int .i64 (cv nd i 4))] := (RCells.cons (hon.cell (hC.at 0 rfl) (by show ¬ w.heap.size = w6.heap.size; omega)) (RCells.cons (hon.cell (hC.at 1 rfl) (by show ¬ w.heap.size = w6.heap.size; omega)) (RCells.cons (hon.cell (hC.at 2 rfl) (by show ¬ w.heap.size = w6.heap.size; omega)) (RCells.cons (hon.cell (hC.at 8 rfl) (by show ¬ w12.heap.size = w6.heap.size; omega)) (RCells.cons (hon.cell (hC.at 9 rfl) (by show ¬ w12.heap.size = w6.heap.size; omega)) (RCells.cons (hon.cell (hC.at 10 rfl) (by show ¬ w12.heap.size = w6.heap.size; omega)) (RCells.cons (hon.cell (hC.at 11 rfl) (by show ¬ w12.heap.size = w6.heap.size; omega)) (RCells.cons (hon.cell (hC.at 12 rfl) (by show ¬ w12.heap.size = w6.heap.size; omega)) (RCells.nil _)))))))))
     replace hI1 := hI1.step hon (.inl rfl)
     replace hI2 := hI2.step hon (.inl rfl)
     replace hS : OwnP w20 w6.heap.size (n) (EV ((fun z_ => if z_ = i then ((enP nd ((runFrom hold gr.toNat n l (startS nd) t.toNat).rows[k]?.getD 0) i (enS nd ((runFrom hold gr.toNat n l (startS nd) t.toNat).rows.take k))) i : Int) + (cv nd i 1) else (enP nd ((runFrom hold gr.toNat n l (startS nd) t.toNat).rows[k]?.getD 0) i (enS nd ((runFrom hold gr.toNat n l (startS nd) t.toNat).rows.take k))) z_))) := hS2
     clear hS2 hon
     refine X.blockN ?_
     refine X.thenN ?_
     refine Y.lit (by kernel_rfl) ?_
     refine Y.pval F (X.w0 rfl) rfl (X.binop rfl (F.ev 43 (.int .i64 i)) (X.kc (.int .i64 1) rfl) (X.addI Try.underlying3 rfl (by omega) (by omega))) ?_
     clear F ac
     intro ac F
     refine Y.pval F (X.w0 rfl) rfl (X.move rfl (F.ev 69 (.int .i64 ((i : Int) + 1)))) ?_
     clear F ac
     intro ac F
     refine Y.nil ?_
     replace F : Fr ac 73 [(0, .agg #[.int .i64 gr, .int .i64 hold, .slice (some pd14) n nc]), (1, .int .i64 t), (2, .slice la m lc), (3, .pointer (some ⟨w.heap.size, 0, none⟩)), (6, .slice (some pd11) t.toNat rc), (7, .slice (some ⟨w6.heap.size, 0, none⟩) n n), (8, .int .i64 0), (9, .pointer (some ⟨bp, 0, none⟩)), (11, .int .i64 (((runFrom hold gr.toNat n l (startS nd) t.toNat).rows)[k]?.getD 0)), (12, .int .i64 i), (13, .pointer (some ⟨w12.heap.size, 0, none⟩)), (22, .bool false), (34, .slice (some pd11) t.toNat rc), (35, .int .i64 t.toNat), (36, .int .i64 k), (37, .bool true), (41, .slice (some pd14) n nc), (42, .int .i64 n), (43, .int .i64 ((i : Int) + 1)), (44, .bool true), (52, .bool true)] := F.sub _
     refine X.thenN ?_
     refine ⟨_, ?_, i + 1, rfl, by omega, hI2, (by rw [enP_succ nd _ i _ (by unfold en1 bitB; simp [h18])] at hS; exact hS), F.sub _⟩
     omega
 ·have hE := hE
  refine Y.pcall F (X.w0 rfl) rfl (X.enter (F := 44) rfl (X.kc (.func (.func 44) #[] #[]) rfl) (X.a3 (F.ev 15 (.agg #[.int .i64 gr, .int .i64 hold, .slice na n nc])) (F.ev 16 (.int .i64 t)) (F.ev 17 (.slice la m lc))) (enters_of Try.func44 (by kernel_rfl) rfl _)) (begin_any na la n nc m lc gr hold t nd l w3 hnd hl) ?_
  clear F ac
  rintro e w21 ⟨h1, g, -⟩
  obtain rfl := h1 hE
  refine ⟨_, rfl, ?_⟩
  intro ac F
  replace G := G.trans g
  replace hC := hC.gr g
  replace hnd := hnd.gr g
  replace hl := hl.gr g
  clear g
  refine Y.pval F (X.w0 rfl) rfl (X.move rfl (F.ev 18 (.tuple #[.pointer none, .int .i64 (playE gr hold nd t l)]))) ?_
  clear F ac
  intro ac F
  refine Y.pval F (X.w0 rfl) rfl (X.extract rfl (F.ev 14 (.tuple #[.pointer none, .int .i64 (playE gr hold nd t l)])) rfl) ?_
  clear F ac
  intro ac F
  refine Y.pval F (X.w0 rfl) rfl (X.extract rfl (F.ev 14 (.tuple #[.pointer none, .int .i64 (playE gr hold nd t l)])) rfl) ?_
  clear F ac
  intro ac F
  refine Y.pval F (X.w0 rfl) rfl (X.assign rfl (F.ev 19 (.pointer none))) ?_
  clear F ac
  intro ac F
  refine Y.pval F (X.w0 rfl) rfl (X.assign rfl (F.ev 20 (.int .i64 (playE gr hold nd t l)))) ?_
  clear F ac
  intro ac F
  refine Y.nil ?_
  replace F : Fr ac 73 [(0, .agg #[.int .i64 gr, .int .i64 hold, .slice na n nc]), (1, .int .i64 t), (2, .slice la m lc), (3, .pointer (some ⟨w.heap.size, 0, none⟩)), (6, .slice none 0 0), (7, .slice none 0 0), (8, .int .i64 (playE gr hold nd t l)), (9, .pointer none)] := F.sub _
  refine X.thenN ?_
  refine Y.seq ?_
  refine Y.seq ?_
  refine Y.lit (by kernel_rfl) ?_
  refine Y.pval F (X.w0 rfl) rfl (X.move rfl (F.ev 8 (.int .i64 (playE gr hold nd t l)))) ?_
  clear F ac
  intro ac F
  refine Y.pval F (X.w0 rfl) rfl (X.binop rfl (F.ev 21 (.int .i64 (playE gr hold nd t l))) (X.kc (.int .i64 0) rfl) (X.neqI Try.underlying26 rfl)) ?_
  clear F ac
  intro ac F
  refine Y.nil ?_
  replace F : Fr ac 73 [(0, .agg #[.int .i64 gr, .int .i64 hold, .slice na n nc]), (1, .int .i64 t), (2, .slice la m lc), (3, .pointer (some ⟨w.heap.size, 0, none⟩)), (6, .slice none 0 0), (7, .slice none 0 0), (8, .int .i64 (playE gr hold nd t l)), (9, .pointer none), (22, .bool ((playE gr hold nd t l : Int) != 0))] := F.sub _
  refine X.thenN ?_
  have h23 : ((playE gr hold nd t l : Int) != 0) = true := by simpa using hE
  try rw [h23] at F
  refine Y.condT (F.ev 22 (.bool true)) ?_
  refine Y.seq ?_
  refine Y.lit (by kernel_rfl) ?_
  refine Y.pval F (X.w0 rfl) rfl (X.move rfl (F.ev 8 (.int .i64 (playE gr hold nd t l)))) ?_
  clear F ac
  intro ac F
  refine Y.pval F (X.w0 rfl) rfl (X.assign rfl (X.kc (.slice none 0 0) rfl)) ?_
  clear F ac
  intro ac F
  refine Y.pval F (X.w0 rfl) rfl (X.assign rfl (X.kc (.slice none 0 0) rfl)) ?_
  clear F ac
  intro ac F
  refine Y.pval F (X.w0 rfl) rfl (X.assign rfl (F.ev 23 (.int .i64 (playE gr hold nd t l)))) ?_
  clear F ac
  intro ac F
  refine Y.nil ?_
  replace F : Fr ac 73 [(0, .agg #[.int .i64 gr, .int .i64 hold, .slice na n nc]), (1, .int .i64 t), (2, .slice la m lc), (3, .pointer (some ⟨w.heap.size, 0, none⟩)), (6, .slice none 0 0), (7, .slice none 0 0), (8, .int .i64 (playE gr hold nd t l)), (9, .pointer none), (22, .bool true)] := F.sub _
  refine X.thenN ?_
  refine Y.ret ?_
  refine X.thenR ?_
  exact Y.ret0 (v := .tuple #[.slice none 0 0, .slice none 0 0, .int .i64 (playE gr hold nd t l)]) F (Y.rs3 F rfl (by kernel_rfl) (by kernel_rfl) (by kernel_rfl)) ⟨none, 0, 0, none, 0, 0, rfl, by unfold playRows; rw [if_neg hE]; exact Ints.nil _, by unfold playEn; rw [if_neg hE]; exact Ints.nil _, G⟩
end
section
set_option linter.unusedVariables false
open Go.RowKit
theorem stc {P : Program} {b n : Nat} : ∀ (rest : List Value) (i : Nat) (W : World) (val : Nat → Value), OwnP W b n val → i + rest.length ≤ n → (rest.all fun v => v.oneCell') = true →
    ∃ W', (storeCells ⟨b, 0, none⟩ rest i).run P W = .ok () W' ∧ OwnP W' b n (fun k => if i ≤ k ∧ k < i + rest.length then rest.getD (k - i) undef else val k) ∧ Only (fun z => z = b) W W' := by
  intro rest
  induction rest with
  | nil => intro i W val h _ _; exact ⟨W, by simp [storeCells, go_sem], h.congr (fun k _ => by rw [if_neg (by simp only [List.length_nil]; omega)]), Only.refl _ _⟩
  | cons v rest ih =>
    intro i W val h hi h1
    simp only [List.all_cons, Bool.and_eq_true, List.length_cons] at h1 hi
    have hs := run_store P W ⟨b, i, none⟩ v .plain h1.1
    rw [h.cell (k := i) (by omega), h.fz] at hs
    simp only [Bool.false_eq_true, if_false] at hs
    obtain ⟨W', hr, hO, hon⟩ := ih (i + 1) _ _ (h.set (k := i) v) (by omega) h1.2
    refine ⟨W', ?_, hO.congr (fun k hk => ?_), (Y.set_only _ _ _ _).trans hon⟩
    · have e : (⟨b, 0, none⟩ : Addr).add i = ⟨b, i, none⟩ := addr_add0 _ _
      simp [storeCells, e, hs, go_sem]
      exact hr
    · simp only [List.length_cons]
      by_cases e : k = i
      · subst e; rw [if_neg (by omega), if_pos rfl, if_pos (by omega)]; simp
      · by_cases e2 : i + 1 ≤ k ∧ k < i + 1 + rest.length
        · rw [if_pos e2, if_pos (by omega), show k - i = (k - (i + 1)) + 1 by omega]; simp
        · rw [if_neg e2, if_neg e, if_neg (by omega)]
theorem OwnP.stL {P : Program} {W : World} {b n : Nat} {val : Nat → Value} {t : TypeId} (vs : List Value) (h : OwnP W b n val) (hn : vs.length = n) (hS : ∀ W, (sizeOf t).run P W = .ok vs.length W) (h1 : (vs.all fun v => v.oneCell') = true) :
    ∃ W', (Instr.storeAt t (.pointer (some ⟨b, 0, none⟩)) (.agg vs.toArray)).run P W = .ok () W' ∧ OwnP W' b n (VL vs) ∧ Only (fun z => z = b) W W' := by
  obtain ⟨W', hr, hO, hon⟩ := stc (P := P) vs 0 W val h (by omega) h1
  refine ⟨W', ?_, hO.congr (fun k hk => ?_), hon⟩
  · simp [Instr.storeAt, storeVar, Instr.sureAddr, hS, Value.cells, go_sem]
    exact hr
  · rw [if_pos (by omega)]; rfl
theorem stAt_own {W : World} {b n k : Nat} {L : List (List Int)} (h : OwnP W b (n * k) (fun j => .int .i64 (cv L (j / k) (j % k)))) (hl : L.length = n) (hk : ∀ j, j < n → (L[j]?.getD []).length = k) (hn : n * k * 8 ≤ 140737488351232) : StAt W k (some ⟨b, 0, none⟩) n L :=
  ⟨hl, hn, fun j hj => ⟨_, rfl, h.lt, hk j hj, fun r hr => by
    rw [addr_add0, Y.addr_add]
    have h1 : (j * k + r) / k = j := by
      rw [Nat.mul_comm, Nat.mul_add_div (by omega), Nat.div_eq_of_lt hr, Nat.add_zero]
    have h2 : (j * k + r) % k = r := by
      rw [Nat.mul_comm, Nat.mul_add_mod, Nat.mod_eq_of_lt hr]
    have h3 : j * k + r < n * k := by
      have := Nat.mul_le_mul_right k (show j + 1 ≤ n by omega)
      rw [Nat.add_mul, Nat.one_mul] at this
      omega
    rw [h.cell h3]
    show some (Value.int .i64 (cv L ((j * k + r) / k) ((j * k + r) % k))) = _
    rw [h1, h2]; rfl⟩⟩
def exN : List (List Int) := [[1, 10, 1, 1, 5], [3, 20, 2, 2, 10], [2, 30, 0, 0, 1]]
def exL : List (List Int) := [[1, 1, 1, 0], [2, 2, 1, 0]]
set_option maxRecDepth 100000 in
theorem ex_e : playE 2 3 exN 6 exL = 0 := by decide +kernel
set_option maxRecDepth 100000 in
theorem ex_t : ticksE 2 3 exN 8 = 0 := by decide +kernel
set_option maxRecDepth 100000 in
theorem ex_p : parkV 2 3 exN 8 = 186 := by decide +kernel
set_option maxRecDepth 100000 in
theorem ex_pr : playRows 2 3 exN 6 exL = [0, 3, 3, 3, 0, 0] := by decide +kernel
set_option maxRecDepth 100000 in
theorem ex_en : playEn 2 3 exN 6 exL = [33, 66, 0] := by decide +kernel
theorem exN_at {W : World} {b : Nat} {t : TypeId} (h : W.heap[b]? = some (.cells #[.int .i64 1, .int .i64 10, .int .i64 1, .int .i64 1, .int .i64 5, .int .i64 3, .int .i64 20, .int .i64 2, .int .i64 2, .int .i64 10, .int .i64 2, .int .i64 30, .int .i64 0, .int .i64 0, .int .i64 1] t)) : StAt W 5 (some ⟨b, 0, none⟩) 3 exN :=
  stAt_own ⟨_, _, h, by simp, fun k hk => by
    match k, hk with
    | 0, _ | 1, _ | 2, _ | 3, _ | 4, _ | 5, _ | 6, _ | 7, _ | 8, _ | 9, _ | 10, _ | 11, _ | 12, _ | 13, _ | 14, _ => rfl⟩ rfl (fun j hj => by
    match j, hj with
    | 0, _ | 1, _ | 2, _ => rfl) (by decide)
theorem exL_at {W : World} {b : Nat} {t : TypeId} (h : W.heap[b]? = some (.cells #[.int .i64 1, .int .i64 1, .int .i64 1, .int .i64 0, .int .i64 2, .int .i64 2, .int .i64 1, .int .i64 0] t)) : StAt W 4 (some ⟨b, 0, none⟩) 2 exL :=
  stAt_own ⟨_, _, h, by simp, fun k hk => by
    match k, hk with
    | 0, _ | 1, _ | 2, _ | 3, _ | 4, _ | 5, _ | 6, _ | 7, _ => rfl⟩ rfl (fun j hj => by
    match j, hj with
    | 0, _ | 1, _ => rfl) (by decide)
theorem Try.exb1 (W : World) : (Instr.build 31 #[(0, .int .i64 1), (1, .int .i64 10), (2, .int .i64 1), (3, .int .i64 1), (4, .int .i64 5)]).run Try.prog W = .ok (.agg #[.int .i64 1, .int .i64 10, .int .i64 1, .int .i64 1, .int .i64 5]) W := by kernel_rfl
theorem Try.exb2 (W : World) : (Instr.build 31 #[(0, .int .i64 3), (1, .int .i64 20), (2, .int .i64 2), (3, .int .i64 2), (4, .int .i64 10)]).run Try.prog W = .ok (.agg #[.int .i64 3, .int .i64 20, .int .i64 2, .int .i64 2, .int .i64 10]) W := by kernel_rfl
theorem Try.exb3 (W : World) : (Instr.build 31 #[(0, .int .i64 2), (1, .int .i64 30), (4, .int .i64 1)]).run Try.prog W = .ok (.agg #[.int .i64 2, .int .i64 30, .int .i64 0, .int .i64 0, .int .i64 1]) W := by kernel_rfl
theorem Try.exs (W : World) : (Instr.buildSlice 22 3 #[(0, .agg #[.int .i64 1, .int .i64 10, .int .i64 1, .int .i64 1, .int .i64 5]), (1, .agg #[.int .i64 3, .int .i64 20, .int .i64 2, .int .i64 2, .int .i64 10]), (2, .agg #[.int .i64 2, .int .i64 30, .int .i64 0, .int .i64 0, .int .i64 1])]).run Try.prog W = .ok (.slice (some ⟨W.heap.size, 0, none⟩) 3 3) (W.alloc (.cells #[.int .i64 1, .int .i64 10, .int .i64 1, .int .i64 1, .int .i64 5, .int .i64 3, .int .i64 20, .int .i64 2, .int .i64 2, .int .i64 10, .int .i64 2, .int .i64 30, .int .i64 0, .int .i64 0, .int .i64 1] 31)) := by kernel_rfl
theorem Try.exc (a : Option Addr) (n c : Nat) (g h : Int) (W : World) : (Instr.build 24 #[(0, .int .i64 g), (1, .int .i64 h), (2, .slice a n c)]).run Try.prog W = .ok (.agg #[.int .i64 g, .int .i64 h, .slice a n c]) W := by kernel_rfl
theorem Try.exn1 (W : World) : (Instr.build 33 #[(0, .int .i64 1), (1, .int .i64 1), (2, .int .i64 1)]).run Try.prog W = .ok (.agg #[.int .i64 1, .int .i64 1, .int .i64 1, .int .i64 0]) W := by kernel_rfl
theorem Try.exn2 (W : World) : (Instr.build 33 #[(0, .int .i64 2), (1, .int .i64 2), (2, .int .i64 1)]).run Try.prog W = .ok (.agg #[.int .i64 2, .int .i64 2, .int .i64 1, .int .i64 0]) W := by kernel_rfl
theorem Try.exm (W : World) : (Instr.buildSlice 25 2 #[(0, .agg #[.int .i64 1, .int .i64 1, .int .i64 1, .int .i64 0]), (1, .agg #[.int .i64 2, .int .i64 2, .int .i64 1, .int .i64 0])]).run Try.prog W = .ok (.slice (some ⟨W.heap.size, 0, none⟩) 2 2) (W.alloc (.cells #[.int .i64 1, .int .i64 1, .int .i64 1, .int .i64 0, .int .i64 2, .int .i64 2, .int .i64 1, .int .i64 0] 33)) := by kernel_rfl
theorem Try.exr (W : World) : (Instr.buildSlice 34 6 #[(0, .int .i64 0), (1, .int .i64 3), (2, .int .i64 3), (3, .int .i64 3), (4, .int .i64 0), (5, .int .i64 0)]).run Try.prog W = .ok (.slice (some ⟨W.heap.size, 0, none⟩) 6 6) (W.alloc (.cells #[.int .i64 0, .int .i64 3, .int .i64 3, .int .i64 3, .int .i64 0, .int .i64 0] 3)) := by kernel_rfl
theorem Try.exq (W : World) : (Instr.buildSlice 34 3 #[(0, .int .i64 33), (1, .int .i64 66), (2, .int .i64 0)]).run Try.prog W = .ok (.slice (some ⟨W.heap.size, 0, none⟩) 3 3) (W.alloc (.cells #[.int .i64 33, .int .i64 66, .int .i64 0] 3)) := by kernel_rfl
theorem exr_at {W : World} {b : Nat} {t : TypeId} (h : W.heap[b]? = some (.cells #[.int .i64 0, .int .i64 3, .int .i64 3, .int .i64 3, .int .i64 0, .int .i64 0] t)) : Ints W (some ⟨b, 0, none⟩) 6 [0, 3, 3, 3, 0, 0] :=
  ⟨rfl, by decide, fun j hj => ⟨_, rfl, (Array.getElem?_eq_some_iff.1 h).1, by
    rw [addr_add0]
    exact cell_at h (by
      match j, hj with
      | 0, _ | 1, _ | 2, _ | 3, _ | 4, _ | 5, _ => rfl)⟩⟩
theorem exq_at {W : World} {b : Nat} {t : TypeId} (h : W.heap[b]? = some (.cells #[.int .i64 33, .int .i64 66, .int .i64 0] t)) : Ints W (some ⟨b, 0, none⟩) 3 [33, 66, 0] :=
  ⟨rfl, by decide, fun j hj => ⟨_, rfl, (Array.getElem?_eq_some_iff.1 h).1, by
    rw [addr_add0]
    exact cell_at h (by
      match j, hj with
      | 0, _ | 1, _ | 2, _ => rfl)⟩⟩
theorem Y.rc13 {P : Program} {A : Act} {W : World} {n : Nat} {L : List (Nat × Value)} {D : List Deferred} {fn : Func} {s b : Nat} {t : TypeId} {x y z : Value} (F : Fr A n L D) (hr : fn.results = #[.cell s t]) (hA : (isAgg t).run P W = .ok true W) (hS : (sizeOf t).run P W = .ok 3 W) (hp : lookS L s = some (.pointer (some ⟨b, 0, none⟩))) (h : OwnP W b 3 (VL [x, y, z])) : (results fn A.tmps).run P W = .ok (.agg #[x, y, z]) W := by
  have e := F.look hp
  have hl : W.cell? ⟨b, 0, none⟩ = some x := h.cell (k := 0) (by decide)
  have hl1 : W.cell? ⟨b, 1, none⟩ = some y := h.cell (k := 1) (by decide)
  have hl2 : W.cell? ⟨b, 2, none⟩ = some z := h.cell (k := 2) (by decide)
  simp [results, hr, e, asAddr, hl, hl1, hl2, hA, hS, go_sem]
theorem same_no {xs ys : List Int} {j : Nat} (hj : j < xs.length) (hl : xs.length = ys.length) (h : ¬ xs[j]?.getD 0 = ys[j]?.getD 0) : decide (xs = ys) = false := by
  simp only [decide_eq_false_iff_not]
  intro e; subst e; exact h rfl
theorem same_yes {xs ys : List Int} (hl : xs.length = ys.length) (h : ∀ j, j < xs.length → xs[j]?.getD 0 = ys[j]?.getD 0) : decide (xs = ys) = true := by
  simp only [decide_eq_true_eq]
  apply List.ext_getElem hl
  intro i h1 h2
  have := h i h1
  rw [List.getElem?_eq_getElem h1, List.getElem?_eq_getElem h2] at this
  simpa using this
end
section
set_option linter.unusedVariables false
open Go.RowKit
/-- what was there before stays -/
theorem Gr.own {wb W W' : World} {v : Value} (g : Gr wb W) (h : Only (fun b => v.ownBlock = some b) W W') (hb : ∀ b, v.ownBlock = some b → wb.heap.size ≤ b) : Gr wb W' :=
  ((g.only (fun x => wb.heap.size ≤ x)).trans (h.mono' (fun i e => hb i e))).gr (fun i hi e => by omega)
/-- the cells of nudges -/
def nu4 (x : List Int) : List Value := [.int .i64 (nv x 0), .int .i64 (nv x 1), .int .i64 (nv x 2), .int .i64 (nv x 3)]
def flat4 (l : List (List Int)) : List Value := l.flatMap nu4
theorem flat4_snoc (l : List (List Int)) (x : List Int) : flat4 (l ++ [x]) = flat4 l ++ nu4 x := by
  unfold flat4; rw [List.flatMap_append]; simp
theorem flat4_at : ∀ (l : List (List Int)) (j : Nat) (u : Value), (flat4 l)[j]? = some u → u = .int .i64 (cv l (j / 4) (j % 4))
  | [], j, u, h => by simp [flat4] at h
  | x :: l, j, u, h => by
    have e : flat4 (x :: l) = nu4 x ++ flat4 l := by simp [flat4]
    rw [e] at h
    by_cases hj : j < 4
    · rw [List.getElem?_append_left (by simpa [nu4] using hj)] at h
      have h0 : j / 4 = 0 := by omega
      have h1 : j % 4 = j := by omega
      rw [h0, h1]
      obtain rfl | rfl | rfl | rfl : j = 0 ∨ j = 1 ∨ j = 2 ∨ j = 3 := by omega
      all_goals (simp [nu4] at h; rw [← h]; rfl)
    · rw [List.getElem?_append_right (by simp [nu4]; omega)] at h
      have := flat4_at l (j - 4) u (by simpa [nu4] using h)
      have h0 : j / 4 = (j - 4) / 4 + 1 := by omega
      have h1 : j % 4 = (j - 4) % 4 := by omega
      rw [h0, h1, this]; rfl
theorem OwnR.nudges {w : World} {B e n : Nat} {v : Value} {l : List (List Int)} (h : OwnR w B e 4 v n (flat4 l)) (hn : l.length = n) (h4 : ∀ x ∈ l, x.length = 4) (hm : n ≤ 1000000) :
    ∃ a c, v = .slice a n c ∧ StAt w 4 a n l := by
  have h4' : ∀ j, j < n → (l[j]?.getD []).length = 4 := fun j hj => by
    rw [List.getElem?_eq_getElem (by omega)]; exact h4 _ (List.getElem_mem _)
  rcases h.shape with ⟨rfl, h0⟩ | ⟨g, c, rfl, _, _⟩
  · subst h0
    exact ⟨none, 0, rfl, hn, by omega, fun j hj => by omega⟩
  · exact ⟨_, c, rfl, stAt_own (h.ownP (fun j u hu => flat4_at l j u hu)) hn h4' (by omega)⟩
theorem Try.bs25 (a b c d : Int) (w : World) : (Instr.buildSlice 25 1 #[(0, .agg #[.int .i64 a, .int .i64 b, .int .i64 c, .int .i64 d])]).run Try.prog w = .ok (.slice (some ⟨w.heap.size, 0, none⟩) 1 1) (w.alloc (.cells #[.int .i64 a, .int .i64 b, .int .i64 c, .int .i64 d] 33)) := by kernel_rfl
/-- nudges without those of a kind -/
def withoutL (l : List (List Int)) (k : Int) : List (List Int) := l.filter (fun x => nv x 1 != k)
theorem withoutL_take {l : List (List Int)} {k : Int} {i : Nat} (h : i < l.length) : withoutL (l.take (i + 1)) k = withoutL (l.take i) k ++ (if nv (l[i]?.getD []) 1 != k then [l[i]?.getD []] else []) := by
  unfold withoutL
  rw [List.take_succ_eq_append_getElem h, List.filter_append, List.getElem?_eq_getElem h, List.filter_cons, List.filter_nil]
  rfl
end
section
set_option linter.unusedVariables false
open Go.RowKit
end
section
set_option linter.unusedVariables false
open Go.RowKit
/-- what a node takes at the most, tick by tick -/
theorem worst_enF {gr hold T : Int} {nd : List (List Int)} {i : Nat} (hc : cluE gr hold nd = 0) (hi : i < nd.length) (h0 : 0 ≤ T) (h1 : T ≤ 1000) : nodeE gr hold nd i T = 0 ∧ worstV gr hold nd i T = enF (ndV nd hold i T) T.toNat 0 (cv nd i 3) 0 := by
  have hk := cluE_ok hc
  have hT : ticksE gr hold nd T = 0 := by
    unfold ticksE
    rw [if_neg (fun e => e hc), withinB_of h0 h1]; rfl
  have hN := nodeE_of (i := (i : Int)) hT (by omega) (by omega)
  have hb := hk.bud i hi
  refine ⟨hN, ?_⟩
  unfold worstV
  rw [if_pos hN, Int.toNat_natCast, best_enF (ndOk_of hk hi h0 (by omega)) T.toNat 0 (cv nd i 3) (by omega) (by show T - 0 = _; omega) hb.1 (Int.le_refl _)]
theorem worst_bd {gr hold T : Int} {nd : List (List Int)} {i : Nat} (hc : cluE gr hold nd = 0) (hi : i < nd.length) (h0 : 0 ≤ T) (h1 : T ≤ 1000) : 0 ≤ worstV gr hold nd i T ∧ worstV gr hold nd i T ≤ 11000000 := by
  have hk := cluE_ok hc
  have hb := hk.bud i hi
  have hN := (worst_enF hc hi h0 h1).1
  unfold worstV
  rw [if_pos hN, Int.toNat_natCast]
  exact (bestV_bd (ndOk_of hk hi h0 (by omega)) (t := 0) (x := cv nd i 3) (by omega) hb.1 (Int.le_refl _)).1
end
section
open Go.RowKit

theorem wo_room {l : List (List Int)} {k : Int} {i m : Nat} (hl : l.length = m) (hm : m ≤ 500000) : (withoutL (l.take i) k).length + 1 ≤ 1000000 := by
  have h1 : (withoutL (l.take i) k).length ≤ (l.take i).length := List.length_filter_le _ _
  have h2 : (l.take i).length ≤ l.length := by rw [List.length_take]; omega
  omega

set_option maxRecDepth 100000 in
set_option maxHeartbeats 1000000 in
theorem without_any (la : Option Addr) (m lc : Nat) (k : Int) (l : List (List Int)) (w : World) (hl : StAt w 4 la m l) (hm9 : m ≤ 500000) :
  Calls Try.prog 31 #[.slice la m lc, .int .i64 k] w fun e w' => ∃ a n c, e = .returned (.slice a n c) ∧ StAt w' 4 a n (withoutL l k) ∧ Gr w w' := by
 have G := Gr.refl w
 have hlen := hl.len
 have hlm := hl.lt
 have hl4 : ∀ x ∈ l, x.length = 4 := fun x hx => by obtain ⟨i, hi, rfl⟩ := List.getElem_of_mem hx; have := (hl.at (j := i) (by omega)); obtain ⟨_, _, _, h4, _⟩ := this; rwa [List.getElem?_eq_getElem hi] at h4
 have hO := OwnR.nil w w.heap.size 33 4
 have hl0 := hl
 have G0_ := G
 have GW := Gr.refl w
 refine Y.calls 28 Try.func31 rfl rfl ?_
 intro ac F0
 have F : Fr ac 28 [(0, .slice la m lc), (1, .int .i64 k)] := F0.sub _
 clear F0
 refine Y.seq ?_
 refine Y.lit (by kernel_rfl) ?_
 refine Y.pval F (X.w0 rfl) rfl (X.assign rfl (X.kc (.slice none 0 0) rfl)) ?_
 clear F ac
 intro ac F
 refine Y.nil ?_
 replace F : Fr ac 28 [(0, .slice la m lc), (1, .int .i64 k), (4, .slice none 0 0)] := F.sub _
 refine X.thenN ?_
 refine Y.seq ?_
 refine Y.lit (by kernel_rfl) ?_
 refine Y.pval F (X.w0 rfl) rfl (X.assign rfl (X.kc (.slice none 0 0) rfl)) ?_
 clear F ac
 intro ac F
 refine Y.nil ?_
 replace F : Fr ac 28 [(0, .slice la m lc), (1, .int .i64 k), (4, .slice none 0 0), (5, .slice none 0 0)] := F.sub _
 refine X.thenN ?_
 refine Y.seq ?_
 refine Y.seq ?_
 refine Y.lit (by kernel_rfl) ?_
 refine Y.pval F (X.w0 rfl) rfl (X.assign rfl (X.kc (.int .i64 0) rfl)) ?_
 clear F ac
 intro ac F
 refine Y.nil ?_
 replace F : Fr ac 28 [(0, .slice la m lc), (1, .int .i64 k), (4, .slice none 0 0), (5, .slice none 0 0), (6, .int .i64 0)] := F.sub _
 refine X.thenN ?_
 refine Y.block ?_
 refine Y.loop (fun me_ ac wr => ∃ (i : Nat), ∃ v : Value, me_ = m - i ∧ Gr w wr ∧ i ≤ m ∧ OwnR wr w.heap.size 33 4 v (withoutL (l.take i) k).length (flat4 (withoutL (l.take i) k)) ∧ Fr ac 28 [(0, .slice la m lc), (1, .int .i64 k), (4, .slice none 0 0), (5, v), (6, .int .i64 i)]) _ ⟨0, _, rfl, GW, Nat.zero_le _, (OwnR.nil _ _ _ _), F.sub _⟩ ?_
 clear F GW hl hO
 intro me_ ac w3 hI
 obtain ⟨i, v, rfl, GW, hi, hO, F⟩ := hI
 replace G := G0_.trans GW
 have hl := hl0.gr GW
 refine Y.seq ?_
 refine Y.seq ?_
 refine Y.lit (by kernel_rfl) ?_
 refine Y.pval F (X.w0 rfl) rfl (X.move rfl (F.ev 6 (.int .i64 i))) ?_
 clear F ac
 intro ac F
 refine Y.pval F (X.w0 rfl) rfl (X.move rfl (F.ev 0 (.slice la m lc))) ?_
 clear F ac
 intro ac F
 refine Y.pval F (X.w0 rfl) rfl (X.len1 Try.underlying25 rfl (F.ev 8 (.slice la m lc))) ?_
 clear F ac
 intro ac F
 refine Y.pval F (X.w0 rfl) rfl (X.binop rfl (F.ev 7 (.int .i64 i)) (F.ev 9 (.int .i64 m)) (X.lssI Try.underlying3 rfl)) ?_
 clear F ac
 intro ac F
 refine Y.nil ?_
 replace F : Fr ac 28 [(0, .slice la m lc), (1, .int .i64 k), (4, .slice none 0 0), (5, v), (6, .int .i64 i), (10, .bool (decide ((i : Int) < m)))] := F.sub _
 refine X.thenN ?_
 cases h4 : decide ((i : Int) < m) with
 | false =>
  try rw [h4] at F
  have h4p : ¬ ((i : Int) < m) := of_decide_eq_false h4
  obtain rfl : m = i := by omega
  refine Y.condF (F.ev 10 (.bool false)) ?_
  refine Y.exit ?_
  refine X.thenX ?_
  refine X.thenX ?_
  refine X.blockX ?_
  refine X.thenN ?_
  refine Y.seq ?_
  refine Y.lit (by kernel_rfl) ?_
  refine Y.pval F (X.w0 rfl) rfl (X.move rfl (F.ev 5 (v))) ?_
  clear F ac
  intro ac F
  refine Y.pval F (X.w0 rfl) rfl (X.assign rfl (F.ev 27 (v))) ?_
  clear F ac
  intro ac F
  refine Y.nil ?_
  replace F : Fr ac 28 [(0, .slice la m lc), (1, .int .i64 k), (4, v), (5, v), (6, .int .i64 m), (10, .bool false)] := F.sub _
  refine X.thenN ?_
  refine Y.ret ?_
  rw [List.take_of_length_le (by omega)] at hO
  obtain ⟨a, c, rfl, hR⟩ := hO.nudges rfl (fun x hx => hl4 x (List.mem_filter.1 hx).1) (by have := List.length_filter_le (fun x : List Int => nv x 1 != k) l; unfold withoutL; omega)
  exact Y.ret0 (v := .slice a (withoutL l k).length c) F (Y.rs1 F rfl (by kernel_rfl)) ⟨a, _, c, rfl, hR, G⟩
 | true =>
  try rw [h4] at F
  have h4p : ((i : Int) < m) := of_decide_eq_true h4
  refine Y.condT (F.ev 10 (.bool true)) ?_
  refine Y.skip ?_
  refine X.thenN ?_
  refine Y.seq ?_
  refine Y.block ?_
  refine Y.seq ?_
  refine Y.lit (by kernel_rfl) ?_
  refine Y.pval F (X.w0 rfl) rfl (X.move rfl (F.ev 0 (.slice la m lc))) ?_
  clear F ac
  intro ac F
  refine Y.pval F (X.w0 rfl) rfl (X.move rfl (F.ev 6 (.int .i64 i))) ?_
  clear F ac
  intro ac F
  obtain ⟨pd5, pe5, -, -, pc5⟩ := hl.at (j := i) (by omega)
  subst pe5
  have hC : RCells w3 [(pd5.add (i * 4), .int .i64 (cv l i 0)), (⟨(pd5.add (i * 4)).block, (pd5.add (i * 4)).off + 1, none⟩, .int .i64 (cv l i 1)), (⟨(pd5.add (i * 4)).block, (pd5.add (i * 4)).off + 2, none⟩, .int .i64 (cv l i 2)), (⟨(pd5.add (i * 4)).block, (pd5.add (i * 4)).off + 3, none⟩, .int .i64 (cv l i 3))] := (RCells.cons (pc5 0 (by decide)) (RCells.cons (pc5 1 (by decide)) (RCells.cons (pc5 2 (by decide)) (RCells.cons (pc5 3 (by decide)) (RCells.nil _)))))
  clear pc5
  refine Y.pval F (X.w0 rfl) rfl (X.index rfl (F.ev 13 (.slice (some pd5) m lc)) (F.ev 14 (.int .i64 i)) (X.idx (k := i) Try.underlying25 (Try.siz33 _) (by omega) (by omega) rfl)) ?_
  clear F ac
  intro ac F
  refine Y.pval F (X.w0 rfl) rfl (X.field rfl (F.ev 15 (.pointer (some (pd5.add (i * 4))))) (X.fld Try.underlying33 rfl (Try.siz3 _) rfl rfl)) ?_
  clear F ac
  intro ac F
  refine Y.pval F (X.w0 rfl) rfl (X.load rfl (F.ev 16 (.pointer (some (⟨(pd5.add (i * 4)).block, (pd5.add (i * 4)).off + 1, none⟩)))) (X.ld1 (Try.agg3 _) (hC.at 1 rfl))) ?_
  clear F ac
  intro ac F
  refine Y.pval F (X.w0 rfl) rfl (X.move rfl (F.ev 1 (.int .i64 k))) ?_
  clear F ac
  intro ac F
  refine Y.pval F (X.w0 rfl) rfl (X.binop rfl (F.ev 17 (.int .i64 (cv l i 1))) (F.ev 18 (.int .i64 k)) (X.neqI Try.underlying3 rfl)) ?_
  clear F ac
  intro ac F
  refine Y.nil ?_
  replace F : Fr ac 28 [(0, .slice (some pd5) m lc), (1, .int .i64 k), (4, .slice none 0 0), (5, v), (6, .int .i64 i), (10, .bool true), (19, .bool ((cv l i 1 : Int) != k))] := F.sub _
  refine X.thenN ?_
  cases h6 : ((cv l i 1 : Int) != k) with
  | false =>
   try rw [h6] at F
   have h6p : (cv l i 1 : Int) = k := by simpa using h6
   refine Y.condF (F.ev 19 (.bool false)) ?_
   refine Y.skip ?_
   refine X.blockN ?_
   refine X.thenN ?_
   refine Y.lit (by kernel_rfl) ?_
   refine Y.pval F (X.w0 rfl) rfl (X.move rfl (F.ev 6 (.int .i64 i))) ?_
   clear F ac
   intro ac F
   refine Y.pval F (X.w0 rfl) rfl (X.binop rfl (F.ev 11 (.int .i64 i)) (X.kc (.int .i64 1) rfl) (X.addI Try.underlying3 rfl (by omega) (by omega))) ?_
   clear F ac
   intro ac F
   refine Y.pval F (X.w0 rfl) rfl (X.assign rfl (F.ev 12 (.int .i64 ((i : Int) + 1)))) ?_
   clear F ac
   intro ac F
   refine Y.nil ?_
   replace F : Fr ac 28 [(0, .slice (some pd5) m lc), (1, .int .i64 k), (4, .slice none 0 0), (5, v), (6, .int .i64 ((i : Int) + 1)), (10, .bool true), (19, .bool false)] := F.sub _
   refine X.thenN ?_
   have hw := withoutL_take (l := l) (k := k) (i := i) (by omega)
   refine ⟨_, ?_, i + 1, _, rfl, GW, by omega, (by rw [if_neg (show ¬ (nv (l[i]?.getD []) 1 != k) = true from by rw [show (nv (l[i]?.getD []) 1 != k) = false from h6]; simp), List.append_nil] at hw; rw [hw]; exact hO), F.sub _⟩
   omega
  | true =>
   try rw [h6] at F
   have h6p : ¬ (cv l i 1 : Int) = k := by simpa using h6
   refine Y.condT (F.ev 19 (.bool true)) ?_
   refine Y.lit (by kernel_rfl) ?_
   refine Y.pval F (X.w0 rfl) rfl (X.move rfl (F.ev 5 (v))) ?_
   clear F ac
   intro ac F
   refine Y.pval F (X.w0 rfl) rfl (X.move rfl (F.ev 0 (.slice (some pd5) m lc))) ?_
   clear F ac
   intro ac F
   refine Y.pval F (X.w0 rfl) rfl (X.move rfl (F.ev 6 (.int .i64 i))) ?_
   clear F ac
   intro ac F
   refine Y.pval F (X.w0 rfl) rfl (X.index rfl (F.ev 21 (.slice (some pd5) m lc)) (F.ev 22 (.int .i64 i)) (X.idx (k := i) Try.underlying25 (Try.siz33 _) (by omega) (by omega) rfl)) ?_
   clear F ac
   intro ac F
   refine Y.pval F (X.w0 rfl) rfl (X.load rfl (F.ev 23 (.pointer (some (pd5.add (i * 4))))) (X.ldN (Try.agg33 _) (Try.siz33 _) (Y.atz (pd5.add (i * 4)) (Y.AtFrom.cons (hC.at 0 rfl) (Y.AtFrom.cons (hC.at 1 rfl) (Y.AtFrom.cons (hC.at 2 rfl) (Y.AtFrom.cons (hC.at 3 rfl) (Y.AtFrom.nil _ _ _)))))))) ?_
   clear F ac
   intro ac F
   refine Y.pval F (X.w0 rfl) rfl (X.bs rfl (X.b1 (F.ev 24 (.agg #[.int .i64 (cv l i 0), .int .i64 (cv l i 1), .int .i64 (cv l i 2), .int .i64 (cv l i 3)]))) (Try.bs25 (cv l i 0) (cv l i 1) (cv l i 2) (cv l i 3) _)) ?_
   clear F ac
   intro ac F
   have g := Gr.alloc w3 (.cells #[.int .i64 (cv l i 0), .int .i64 (cv l i 1), .int .i64 (cv l i 2), .int .i64 (cv l i 3)] 33)
   have hb := heap_alloc_new w3 (.cells #[.int .i64 (cv l i 0), .int .i64 (cv l i 1), .int .i64 (cv l i 2), .int .i64 (cv l i 3)] 33)
   have hbl : w3.heap.size < (w3.alloc (.cells #[.int .i64 (cv l i 0), .int .i64 (cv l i 1), .int .i64 (cv l i 2), .int .i64 (cv l i 3)] 33)).heap.size := by simp
   generalize w3.alloc (.cells #[.int .i64 (cv l i 0), .int .i64 (cv l i 1), .int .i64 (cv l i 2), .int .i64 (cv l i 3)] 33) = w7 at *
   replace G := G.trans g
   replace hC := hC.gr g
   replace GW := GW.trans g
   replace hl := hl.gr g
   replace hO := hO.gr g
   have hbk := hb
   clear g hb hbl
   refine Y.wpL_plain rfl fun _ hK => wp_pushV Try.underlying25 Try.info33 rfl (by decide) rfl (F.ev 20 (v)) (F.ev 25 (.slice (some ⟨w3.heap.size, 0, none⟩) 1 1)) hO (m := 1) (news := [.int .i64 (cv l i 0), .int .i64 (cv l i 1), .int .i64 (cv l i 2), .int .i64 (cv l i 3)]) rfl (cells_at (vs := [.int .i64 (cv l i 0), .int .i64 (cv l i 1), .int .i64 (cv l i 2), .int .i64 (cv l i 3)]) hbk) rfl (wo_room hlen hm9) (by decide) GW.size (fun v_w8 w8 hO' hon hat => hK _ _ ?_)
   refine Y.pput F rfl ?_
   clear F ac hbk
   intro ac F
   have hge := fun b e => (hO.ge (b := b) e).1
   replace GW := GW.own hon hge
   clear hO hge hon hat
   have hO := hO'
   clear hO'
   replace G := G0_.trans GW
   have hl := hl0.gr GW
   refine Y.pval F (X.w0 rfl) rfl (X.assign rfl (F.ev 26 (v_w8))) ?_
   clear F ac
   intro ac F
   refine Y.nil ?_
   replace F : Fr ac 28 [(0, .slice (some pd5) m lc), (1, .int .i64 k), (4, .slice none 0 0), (5, v_w8), (6, .int .i64 i), (10, .bool true), (19, .bool true)] := F.sub _
   refine X.blockN ?_
   refine X.thenN ?_
   refine Y.lit (by kernel_rfl) ?_
   refine Y.pval F (X.w0 rfl) rfl (X.move rfl (F.ev 6 (.int .i64 i))) ?_
   clear F ac
   intro ac F
   refine Y.pval F (X.w0 rfl) rfl (X.binop rfl (F.ev 11 (.int .i64 i)) (X.kc (.int .i64 1) rfl) (X.addI Try.underlying3 rfl (by omega) (by omega))) ?_
   clear F ac
   intro ac F
   refine Y.pval F (X.w0 rfl) rfl (X.assign rfl (F.ev 12 (.int .i64 ((i : Int) + 1)))) ?_
   clear F ac
   intro ac F
   refine Y.nil ?_
   replace F : Fr ac 28 [(0, .slice (some pd5) m lc), (1, .int .i64 k), (4, .slice none 0 0), (5, v_w8), (6, .int .i64 ((i : Int) + 1)), (10, .bool true), (19, .bool true)] := F.sub _
   refine X.thenN ?_
   have hw := withoutL_take (l := l) (k := k) (i := i) (by omega)
   refine ⟨_, ?_, i + 1, _, rfl, GW, by omega, (by rw [if_pos (show (nv (l[i]?.getD []) 1 != k) = true from h6)] at hw; rw [hw, flat4_snoc, List.length_append]; exact hO), F.sub _⟩
   omega
end
section
open Go.RowKit

set_option maxRecDepth 100000 in
set_option maxHeartbeats 400000 in
theorem same_any (a b : Option Addr) (n c m d : Nat) (xs ys : List Int) (w : World) (hx : Ints w a n xs) (hy : Ints w b m ys) :
  Calls Try.prog 27 #[.slice a n c, .slice b m d] w fun e w' => e = .returned (.bool (decide (xs = ys))) ∧ Gr w w' := by
 have G := Gr.refl w
 have hxl := hx.len
 have hyl := hy.len
 have hlt := hx.lt
 have hlt2 := hy.lt
 refine Y.calls 26 Try.func27 rfl rfl ?_
 intro ac F0
 have F : Fr ac 26 [(0, .slice a n c), (1, .slice b m d)] := F0.sub _
 clear F0
 refine Y.seq ?_
 refine Y.lit (by kernel_rfl) ?_
 refine Y.pval F (X.w0 rfl) rfl (X.assign rfl (X.kc (.bool false) rfl)) ?_
 clear F ac
 intro ac F
 refine Y.nil ?_
 replace F : Fr ac 26 [(0, .slice a n c), (1, .slice b m d), (4, .bool false)] := F.sub _
 refine X.thenN ?_
 refine Y.seq ?_
 refine Y.seq ?_
 refine Y.lit (by kernel_rfl) ?_
 refine Y.pval F (X.w0 rfl) rfl (X.move rfl (F.ev 0 (.slice a n c))) ?_
 clear F ac
 intro ac F
 refine Y.pval F (X.w0 rfl) rfl (X.len1 Try.underlying34 rfl (F.ev 6 (.slice a n c))) ?_
 clear F ac
 intro ac F
 refine Y.pval F (X.w0 rfl) rfl (X.move rfl (F.ev 1 (.slice b m d))) ?_
 clear F ac
 intro ac F
 refine Y.pval F (X.w0 rfl) rfl (X.len1 Try.underlying34 rfl (F.ev 8 (.slice b m d))) ?_
 clear F ac
 intro ac F
 refine Y.pval F (X.w0 rfl) rfl (X.binop rfl (F.ev 7 (.int .i64 n)) (F.ev 9 (.int .i64 m)) (X.neqI Try.underlying3 rfl)) ?_
 clear F ac
 intro ac F
 refine Y.nil ?_
 replace F : Fr ac 26 [(0, .slice a n c), (1, .slice b m d), (4, .bool false), (10, .bool ((n : Int) != m))] := F.sub _
 refine X.thenN ?_
 cases h3 : ((n : Int) != m) with
 | false =>
  try rw [h3] at F
  have h3p : (n : Int) = m := by simpa using h3
  have hnm : m = n := by omega
  have hl2 : xs.length = ys.length := by omega
  refine Y.condF (F.ev 10 (.bool false)) ?_
  refine Y.skip ?_
  refine X.thenN ?_
  refine Y.seq ?_
  refine Y.seq ?_
  refine Y.lit (by kernel_rfl) ?_
  refine Y.pval F (X.w0 rfl) rfl (X.assign rfl (X.kc (.int .i64 0) rfl)) ?_
  clear F ac
  intro ac F
  refine Y.nil ?_
  replace F : Fr ac 26 [(0, .slice a n c), (1, .slice b m d), (4, .bool false), (5, .int .i64 0), (10, .bool false)] := F.sub _
  refine X.thenN ?_
  refine Y.block ?_
  have hxB := hx
  have hyB := hy
  have GB := G
  refine Y.loop (fun me_ ac wr => ∃ (i : Nat), me_ = n - i ∧ Gr w wr ∧ i ≤ n ∧ (∀ j, j < i → xs[j]?.getD 0 = ys[j]?.getD 0) ∧ Fr ac 26 [(0, .slice a n c), (1, .slice b m d), (5, .int .i64 i), (10, .bool false)]) _ ⟨0, rfl, Gr.refl _, Nat.zero_le _, fun j h => by omega, F.sub _⟩ ?_
  clear F
  intro me_ ac w4 hI
  obtain ⟨i, rfl, gr, hi, hsame, F⟩ := hI
  replace G := GB.trans gr
  replace hx := hxB.gr gr
  replace hy := hyB.gr gr
  have GB_ := gr
  clear gr
  refine Y.seq ?_
  refine Y.seq ?_
  refine Y.lit (by kernel_rfl) ?_
  refine Y.pval F (X.w0 rfl) rfl (X.move rfl (F.ev 5 (.int .i64 i))) ?_
  clear F ac
  intro ac F
  refine Y.pval F (X.w0 rfl) rfl (X.move rfl (F.ev 0 (.slice a n c))) ?_
  clear F ac
  intro ac F
  refine Y.pval F (X.w0 rfl) rfl (X.len1 Try.underlying34 rfl (F.ev 12 (.slice a n c))) ?_
  clear F ac
  intro ac F
  refine Y.pval F (X.w0 rfl) rfl (X.binop rfl (F.ev 11 (.int .i64 i)) (F.ev 13 (.int .i64 n)) (X.lssI Try.underlying3 rfl)) ?_
  clear F ac
  intro ac F
  refine Y.nil ?_
  replace F : Fr ac 26 [(0, .slice a n c), (1, .slice b m d), (5, .int .i64 i), (10, .bool false), (14, .bool (decide ((i : Int) < n)))] := F.sub _
  refine X.thenN ?_
  cases h5 : decide ((i : Int) < n) with
  | false =>
   try rw [h5] at F
   have h5p : ¬ ((i : Int) < n) := of_decide_eq_false h5
   have hin : i = n := by omega
   refine Y.condF (F.ev 14 (.bool false)) ?_
   refine Y.exit ?_
   refine X.thenX ?_
   refine X.thenX ?_
   refine X.blockX ?_
   refine X.thenN ?_
   refine Y.seq ?_
   refine Y.lit (by kernel_rfl) ?_
   refine Y.pval F (X.w0 rfl) rfl (X.assign rfl (X.kc (.bool true) rfl)) ?_
   clear F ac
   intro ac F
   refine Y.nil ?_
   replace F : Fr ac 26 [(0, .slice a n c), (1, .slice b m d), (4, .bool true), (5, .int .i64 i), (10, .bool false), (14, .bool false)] := F.sub _
   refine X.thenN ?_
   refine Y.ret ?_
   exact Y.ret0 (v := .bool true) F (Y.rs1 F rfl (by kernel_rfl)) ⟨by rw [same_yes hl2 (fun j hj => hsame j (by omega))], G⟩
  | true =>
   try rw [h5] at F
   have h5p : ((i : Int) < n) := of_decide_eq_true h5
   refine Y.condT (F.ev 14 (.bool true)) ?_
   refine Y.skip ?_
   refine X.thenN ?_
   refine Y.seq ?_
   refine Y.block ?_
   refine Y.seq ?_
   obtain ⟨pd6, pe6, -, pc6⟩ := hx.at (j := i) (by omega)
   subst pe6
   have hC : RCells w4 [(pd6.add i, .int .i64 (xs[i]?.getD 0))] := (RCells.cons pc6 (RCells.nil _))
   clear pc6
   obtain ⟨pd7, pe7, -, pc7⟩ := hy.at (j := i) (by omega)
   subst pe7
   replace hC : RCells w4 [(pd6.add i, .int .i64 (xs[i]?.getD 0)), (pd7.add i, .int .i64 (ys[i]?.getD 0))] := hC.append ((RCells.cons pc7 (RCells.nil _)))
   clear pc7
   refine Y.region F [some (.slice (some pd6) n c), some (.int .i64 i), some (.pointer (some (pd6.add i))), some (.int .i64 (xs[i]?.getD 0)), some (.slice (some pd7) m d), some (.int .i64 i), some (.pointer (some (pd7.add i))), some (.int .i64 (ys[i]?.getD 0)), some (.bool ((xs[i]?.getD 0 : Int) != (ys[i]?.getD 0)))] [] rfl ⟨by kernel_rfl, of_decide_eq_true (by kernel_rfl), by kernel_rfl, by kernel_rfl, by kernel_rfl⟩ ⟨?_, ?_, ?_, ?_, ?_, ?_, ?_, ?_, ?_, trivial⟩ ?_
   ·intro ac done u W Sx hR
    exact X.val (X.w0 rfl) rfl (X.move rfl (Sx.ev 0 (.slice (some pd6) n c))) (hR.step (Gr.refl _) rfl)
   ·intro ac done u W Sx hR
    exact X.val (X.w0 rfl) rfl (X.move rfl (Sx.ev 5 (.int .i64 i))) (hR.step (Gr.refl _) rfl)
   ·intro ac done u W Sx hR
    exact X.val (X.w0 rfl) rfl (X.index rfl (Sx.ev 17 (.slice (some pd6) n c)) (Sx.ev 18 (.int .i64 i)) (X.idx (k := i) Try.underlying34 (Try.siz3 _) (by omega) (by omega) (by rw [Nat.mul_one]))) (hR.step (Gr.refl _) rfl)
   ·intro ac done u W Sx hR
    have g : Gr w4 W := hR.1
    exact X.val (X.w0 rfl) rfl (X.load rfl (Sx.ev 19 (.pointer (some (pd6.add i)))) (X.ld1 (Try.agg3 _) ((hC.gr g).at 0 rfl))) (hR.step (Gr.refl _) rfl)
   ·intro ac done u W Sx hR
    exact X.val (X.w0 rfl) rfl (X.move rfl (Sx.ev 1 (.slice (some pd7) m d))) (hR.step (Gr.refl _) rfl)
   ·intro ac done u W Sx hR
    exact X.val (X.w0 rfl) rfl (X.move rfl (Sx.ev 5 (.int .i64 i))) (hR.step (Gr.refl _) rfl)
   ·intro ac done u W Sx hR
    exact X.val (X.w0 rfl) rfl (X.index rfl (Sx.ev 21 (.slice (some pd7) m d)) (Sx.ev 22 (.int .i64 i)) (X.idx (k := i) Try.underlying34 (Try.siz3 _) (by omega) (by omega) (by rw [Nat.mul_one]))) (hR.step (Gr.refl _) rfl)
   ·intro ac done u W Sx hR
    have g : Gr w4 W := hR.1
    exact X.val (X.w0 rfl) rfl (X.load rfl (Sx.ev 23 (.pointer (some (pd7.add i)))) (X.ld1 (Try.agg3 _) ((hC.gr g).at 1 rfl))) (hR.step (Gr.refl _) rfl)
   ·intro ac done u W Sx hR
    exact X.val (X.w0 rfl) rfl (X.binop rfl (Sx.ev 20 (.int .i64 (xs[i]?.getD 0))) (Sx.ev 24 (.int .i64 (ys[i]?.getD 0))) (X.neqI Try.underlying3 rfl)) (hR.step (Gr.refl _) rfl)
   intro ac u w8 hs hd hl ho hR
   have g : Gr w4 w8 := hR.1
   replace F : Fr ac 26 [(0, .slice (some pd6) n c), (1, .slice (some pd7) m d), (5, .int .i64 i), (10, .bool false), (14, .bool true), (25, .bool ((xs[i]?.getD 0 : Int) != (ys[i]?.getD 0)))] := X.fr hs hd hl _ (by kernel_rfl)
   clear hs hd hl ho hR
   replace G := G.trans g
   replace hC := hC.gr g
   replace GB_ := GB_.trans g
   replace hx := hx.gr g
   replace hy := hy.gr g
   clear g
   refine X.thenN ?_
   cases h9 : ((xs[i]?.getD 0 : Int) != (ys[i]?.getD 0)) with
   | false =>
    try rw [h9] at F
    have h9p : (xs[i]?.getD 0 : Int) = (ys[i]?.getD 0) := by simpa using h9
    refine Y.condF (F.ev 25 (.bool false)) ?_
    refine Y.skip ?_
    refine X.blockN ?_
    refine X.thenN ?_
    refine Y.lit (by kernel_rfl) ?_
    refine Y.pval F (X.w0 rfl) rfl (X.move rfl (F.ev 5 (.int .i64 i))) ?_
    clear F ac
    intro ac F
    refine Y.pval F (X.w0 rfl) rfl (X.binop rfl (F.ev 15 (.int .i64 i)) (X.kc (.int .i64 1) rfl) (X.addI Try.underlying3 rfl (by omega) (by omega))) ?_
    clear F ac
    intro ac F
    refine Y.pval F (X.w0 rfl) rfl (X.assign rfl (F.ev 16 (.int .i64 ((i : Int) + 1)))) ?_
    clear F ac
    intro ac F
    refine Y.nil ?_
    replace F : Fr ac 26 [(0, .slice (some pd6) n c), (1, .slice (some pd7) m d), (5, .int .i64 ((i : Int) + 1)), (10, .bool false), (14, .bool true), (25, .bool false)] := F.sub _
    refine X.thenN ?_
    refine ⟨_, ?_, i + 1, rfl, GB_, by omega, fun j hj => if e : j = i then by rw [e]; exact h9p else hsame j (by omega), F.sub _⟩
    omega
   | true =>
    try rw [h9] at F
    have h9p : ¬ (xs[i]?.getD 0 : Int) = (ys[i]?.getD 0) := by simpa using h9
    refine Y.condT (F.ev 25 (.bool true)) ?_
    refine Y.seq ?_
    refine Y.lit (by kernel_rfl) ?_
    refine Y.pval F (X.w0 rfl) rfl (X.assign rfl (X.kc (.bool false) rfl)) ?_
    clear F ac
    intro ac F
    refine Y.nil ?_
    replace F : Fr ac 26 [(0, .slice (some pd6) n c), (1, .slice (some pd7) m d), (4, .bool false), (5, .int .i64 i), (10, .bool false), (14, .bool true), (25, .bool true)] := F.sub _
    refine X.thenN ?_
    refine Y.ret ?_
    refine X.blockR ?_
    refine X.thenR ?_
    refine X.thenR ?_
    refine X.blockR ?_
    refine X.thenR ?_
    exact Y.ret0 (v := .bool false) F (Y.rs1 F rfl (by kernel_rfl)) ⟨by rw [same_no (by omega) hl2 h9p], G⟩
 | true =>
  try rw [h3] at F
  have h3p : ¬ (n : Int) = m := by simpa using h3
  refine Y.condT (F.ev 10 (.bool true)) ?_
  refine Y.seq ?_
  refine Y.lit (by kernel_rfl) ?_
  refine Y.pval F (X.w0 rfl) rfl (X.assign rfl (X.kc (.bool false) rfl)) ?_
  clear F ac
  intro ac F
  refine Y.nil ?_
  replace F : Fr ac 26 [(0, .slice a n c), (1, .slice b m d), (4, .bool false), (10, .bool true)] := F.sub _
  refine X.thenN ?_
  refine Y.ret ?_
  refine X.thenR ?_
  exact Y.ret0 (v := .bool false) F (Y.rs1 F rfl (by kernel_rfl)) ⟨by rw [show decide (xs = ys) = false by simp only [decide_eq_false_iff_not]; intro e; subst e; omega], G⟩
end
section
open Go.RowKit

theorem st_only {S : Nat → Prop} {w w' : World} {k : Nat} {a : Option Addr} {n : Nat} {L : List (List Int)} (h : StAt w k a n L) (g : Only S w w') (hn : ∀ ad, a = some ad → ¬ S ad.block) : StAt w' k a n L :=
  ⟨h.1, h.2.1, fun j hj => by
    obtain ⟨ad, e, hb, hl, hc⟩ := h.2.2 j hj
    exact ⟨ad, e, Nat.lt_of_lt_of_le hb g.size, hl, fun r hr => g.cell (hc r hr) (by rw [add_block, add_block]; exact hn ad e)⟩⟩
set_option maxRecDepth 100000 in
set_option maxHeartbeats 400000 in
theorem example_any (w : World) :
  Calls Try.prog 43 #[] w fun e w' => ∃ a, e = .returned (.agg #[.int .i64 2, .int .i64 3, .slice a 3 3]) ∧ StAt w' 5 a 3 exN ∧ Gr w w' := by
 have G := Gr.refl w
 refine Y.calls 6 Try.func43 rfl rfl ?_
 intro ac F0
 have F : Fr ac 6 [] := F0.sub _
 clear F0
 refine Y.seq ?_
 refine Y.lit (by kernel_rfl) ?_
 refine Y.pval F (X.w0 rfl) rfl (Y.al rfl (Try.new24 _)) ?_
 clear F ac
 intro ac F
 have g := Gr.alloc w (.cells #[.int .i64 0, .int .i64 0, .slice none 0 0] 24)
 have hb := heap_alloc_new w (.cells #[.int .i64 0, .int .i64 0, .slice none 0 0] 24)
 have hbl : w.heap.size < (w.alloc (.cells #[.int .i64 0, .int .i64 0, .slice none 0 0] 24)).heap.size := by simp
 generalize w.alloc (.cells #[.int .i64 0, .int .i64 0, .slice none 0 0] 24) = w3 at *
 replace G := G.trans g
 have hV := ownP_box (vs := [.int .i64 0, .int .i64 0, .slice none 0 0]) hb
 clear g hb hbl
 have hVl : w.heap.size < w3.heap.size := hV.lt
 refine Y.nil ?_
 replace F : Fr ac 6 [(0, .pointer (some ⟨w.heap.size, 0, none⟩))] := F.sub _
 refine X.thenN ?_
 refine Y.seq ?_
 refine Y.lit (by kernel_rfl) ?_
 refine Y.pval F (X.w0 rfl) rfl (Y.bd rfl rfl (Try.exb1 _)) ?_
 clear F ac
 intro ac F
 refine Y.pval F (X.w0 rfl) rfl (Y.bd rfl rfl (Try.exb2 _)) ?_
 clear F ac
 intro ac F
 refine Y.pval F (X.w0 rfl) rfl (Y.bd rfl rfl (Try.exb3 _)) ?_
 clear F ac
 intro ac F
 refine Y.pval F (X.w0 rfl) rfl (X.bs rfl (Y.b3 (F.ev 1 (.agg #[.int .i64 1, .int .i64 10, .int .i64 1, .int .i64 1, .int .i64 5])) (F.ev 2 (.agg #[.int .i64 3, .int .i64 20, .int .i64 2, .int .i64 2, .int .i64 10])) (F.ev 3 (.agg #[.int .i64 2, .int .i64 30, .int .i64 0, .int .i64 0, .int .i64 1]))) (Try.exs _)) ?_
 clear F ac
 intro ac F
 have g := Gr.alloc w3 (.cells #[.int .i64 1, .int .i64 10, .int .i64 1, .int .i64 1, .int .i64 5, .int .i64 3, .int .i64 20, .int .i64 2, .int .i64 2, .int .i64 10, .int .i64 2, .int .i64 30, .int .i64 0, .int .i64 0, .int .i64 1] 31)
 have hb := heap_alloc_new w3 (.cells #[.int .i64 1, .int .i64 10, .int .i64 1, .int .i64 1, .int .i64 5, .int .i64 3, .int .i64 20, .int .i64 2, .int .i64 2, .int .i64 10, .int .i64 2, .int .i64 30, .int .i64 0, .int .i64 0, .int .i64 1] 31)
 have hbl : w3.heap.size < (w3.alloc (.cells #[.int .i64 1, .int .i64 10, .int .i64 1, .int .i64 1, .int .i64 5, .int .i64 3, .int .i64 20, .int .i64 2, .int .i64 2, .int .i64 10, .int .i64 2, .int .i64 30, .int .i64 0, .int .i64 0, .int .i64 1] 31)).heap.size := by simp
 generalize w3.alloc (.cells #[.int .i64 1, .int .i64 10, .int .i64 1, .int .i64 1, .int .i64 5, .int .i64 3, .int .i64 20, .int .i64 2, .int .i64 2, .int .i64 10, .int .i64 2, .int .i64 30, .int .i64 0, .int .i64 0, .int .i64 1] 31) = w4 at *
 replace G := G.trans g
 replace hV := hV.gr g
 have hexN := exN_at hb
 clear g hb hbl
 refine Y.pval F (X.w0 rfl) rfl (Y.bd rfl (Y.b3 (X.kc (.int .i64 2) rfl) (X.kc (.int .i64 3) rfl) (F.ev 4 (.slice (some ⟨w3.heap.size, 0, none⟩) 3 3))) (Try.exc _ _ _ _ _ _)) ?_
 clear F ac
 intro ac F
 obtain ⟨w5, hrun, hS2, hon⟩ := hV.stL (P := Try.prog) (t := 24) [.int .i64 2, .int .i64 3, .slice (some ⟨w3.heap.size, 0, none⟩) 3 3] rfl (fun W => Try.siz24 W) rfl
 refine Y.punit F (X.w0 rfl) rfl (X.store rfl (F.ev 0 (.pointer (some ⟨w.heap.size, 0, none⟩))) (F.ev 5 (.agg #[.int .i64 2, .int .i64 3, .slice (some ⟨w3.heap.size, 0, none⟩) 3 3])) hrun) ?_
 clear F ac hrun
 intro ac F
 have hexN : StAt w5 5 (some ⟨w3.heap.size, 0, none⟩) 3 exN := st_only hexN hon (fun ad e h => by cases e; exact absurd h (by show ¬ w3.heap.size = w.heap.size; have := hVl; omega))
 replace G := Y.Only.up G hon (Nat.le_refl _)
 replace hV := hS2
 refine Y.nil ?_
 replace F : Fr ac 6 [(0, .pointer (some ⟨w.heap.size, 0, none⟩))] := F.sub _
 refine X.thenN ?_
 refine Y.ret ?_
 exact Y.ret0 (v := .agg #[.int .i64 2, .int .i64 3, .slice (some ⟨w3.heap.size, 0, none⟩) 3 3]) F (Y.rc13 F rfl (Try.agg24 _) (Try.siz24 _) (by kernel_rfl) hV) ⟨_, rfl, hexN, G⟩
set_option maxRecDepth 100000 in
set_option maxHeartbeats 1000000 in
theorem works_any (w : World) :
  Calls Try.prog 16 #[] w fun e w' => e = .returned (.bool true) ∧ Gr w w' := by
 have G := Gr.refl w
 refine Y.calls 40 Try.func16 rfl rfl ?_
 intro ac F0
 have F : Fr ac 40 [] := F0.sub _
 clear F0
 refine Y.seq ?_
 refine Y.lit (by kernel_rfl) ?_
 refine Y.pval F (X.w0 rfl) rfl (X.assign rfl (X.kc (.bool false) rfl)) ?_
 clear F ac
 intro ac F
 refine Y.nil ?_
 replace F : Fr ac 40 [(0, .bool false)] := F.sub _
 refine X.thenN ?_
 refine Y.seq ?_
 refine Y.lit (by kernel_rfl) ?_
 refine Y.pcall F (X.w0 rfl) rfl (X.enter (F := 43) rfl (X.kc (.func (.func 43) #[] #[]) rfl) rfl (enters_of Try.func43 (by kernel_rfl) rfl _)) (example_any w) ?_
 clear F ac
 rintro e w4 ⟨ea3, rfl, hN3, g⟩
 refine ⟨_, rfl, ?_⟩
 intro ac F
 replace G := G.trans g
 clear g
 refine Y.pval F (X.w0 rfl) rfl (Y.bd rfl rfl (Try.exn1 _)) ?_
 clear F ac
 intro ac F
 refine Y.pval F (X.w0 rfl) rfl (Y.bd rfl rfl (Try.exn2 _)) ?_
 clear F ac
 intro ac F
 refine Y.pval F (X.w0 rfl) rfl (X.bs rfl (X.b2 (F.ev 8 (.agg #[.int .i64 1, .int .i64 1, .int .i64 1, .int .i64 0])) (F.ev 9 (.agg #[.int .i64 2, .int .i64 2, .int .i64 1, .int .i64 0]))) (Try.exm _)) ?_
 clear F ac
 intro ac F
 have g := Gr.alloc w4 (.cells #[.int .i64 1, .int .i64 1, .int .i64 1, .int .i64 0, .int .i64 2, .int .i64 2, .int .i64 1, .int .i64 0] 33)
 have hb := heap_alloc_new w4 (.cells #[.int .i64 1, .int .i64 1, .int .i64 1, .int .i64 0, .int .i64 2, .int .i64 2, .int .i64 1, .int .i64 0] 33)
 have hbl : w4.heap.size < (w4.alloc (.cells #[.int .i64 1, .int .i64 1, .int .i64 1, .int .i64 0, .int .i64 2, .int .i64 2, .int .i64 1, .int .i64 0] 33)).heap.size := by simp
 generalize w4.alloc (.cells #[.int .i64 1, .int .i64 1, .int .i64 1, .int .i64 0, .int .i64 2, .int .i64 2, .int .i64 1, .int .i64 0] 33) = w5 at *
 replace G := G.trans g
 replace hN3 := hN3.gr g
 have hexL := exL_at hb
 clear g hb hbl
 refine Y.pcall F (X.w0 rfl) rfl (X.enter (F := 18) rfl (X.kc (.func (.func 18) #[] #[]) rfl) (X.a3 (F.ev 7 (.agg #[.int .i64 2, .int .i64 3, .slice ea3 3 3])) (X.kc (.int .i64 6) rfl) (F.ev 10 (.slice (some ⟨w4.heap.size, 0, none⟩) 2 2))) (enters_of Try.func18 (by kernel_rfl) rfl _)) (play_any ea3 (some ⟨w4.heap.size, 0, none⟩) 3 3 2 2 2 3 6 exN exL w5 hN3 hexL) ?_
 clear F ac
 rintro e w7 ⟨ra, rn, rc, za, zn, zc, rfl, hIr, hIe, g⟩
 rw [ex_pr] at hIr
 rw [ex_en] at hIe
 obtain rfl : 6 = rn := hIr.len
 obtain rfl : 3 = zn := hIe.len
 refine ⟨_, rfl, ?_⟩
 rw [ex_e]
 intro ac F
 replace G := G.trans g
 replace hN3 := hN3.gr g
 replace hexL := hexL.gr g
 clear g
 refine Y.pval F (X.w0 rfl) rfl (X.move rfl (F.ev 11 (.tuple #[.slice ra 6 rc, .slice za 3 zc, .int .i64 0]))) ?_
 clear F ac
 intro ac F
 refine Y.pval F (X.w0 rfl) rfl (X.extract rfl (F.ev 6 (.tuple #[.slice ra 6 rc, .slice za 3 zc, .int .i64 0])) rfl) ?_
 clear F ac
 intro ac F
 refine Y.pval F (X.w0 rfl) rfl (X.extract rfl (F.ev 6 (.tuple #[.slice ra 6 rc, .slice za 3 zc, .int .i64 0])) rfl) ?_
 clear F ac
 intro ac F
 refine Y.pval F (X.w0 rfl) rfl (X.extract rfl (F.ev 6 (.tuple #[.slice ra 6 rc, .slice za 3 zc, .int .i64 0])) rfl) ?_
 clear F ac
 intro ac F
 refine Y.pval F (X.w0 rfl) rfl (X.assign rfl (F.ev 12 (.slice ra 6 rc))) ?_
 clear F ac
 intro ac F
 refine Y.pval F (X.w0 rfl) rfl (X.assign rfl (F.ev 13 (.slice za 3 zc))) ?_
 clear F ac
 intro ac F
 refine Y.pval F (X.w0 rfl) rfl (X.assign rfl (F.ev 14 (.int .i64 0))) ?_
 clear F ac
 intro ac F
 refine Y.nil ?_
 replace F : Fr ac 40 [(0, .bool false), (1, .slice ra 6 rc), (2, .slice za 3 zc), (3, .int .i64 0)] := F.sub _
 refine X.thenN ?_
 refine Y.seq ?_
 refine Y.lit (by kernel_rfl) ?_
 refine Y.pcall F (X.w0 rfl) rfl (X.enter (F := 43) rfl (X.kc (.func (.func 43) #[] #[]) rfl) rfl (enters_of Try.func43 (by kernel_rfl) rfl _)) (example_any w7) ?_
 clear F ac
 rintro e w9 ⟨ea8, rfl, hN8, g⟩
 refine ⟨_, rfl, ?_⟩
 intro ac F
 replace G := G.trans g
 replace hN3 := hN3.gr g
 replace hexL := hexL.gr g
 replace hIr := hIr.gr g
 replace hIe := hIe.gr g
 clear g
 refine Y.pcall F (X.w0 rfl) rfl (X.enter (F := 21) rfl (X.kc (.func (.func 21) #[] #[]) rfl) (X.a2 (F.ev 16 (.agg #[.int .i64 2, .int .i64 3, .slice ea8 3 3])) (X.kc (.int .i64 8) rfl)) (enters_of Try.func21 (by kernel_rfl) rfl _)) (by have h := parked_any ea8 3 3 2 3 8 exN w9 hN8; rw [ex_p, ex_t] at h; exact h) ?_
 clear F ac
 rintro e w11 ⟨rfl, g⟩
 refine ⟨_, rfl, ?_⟩
 intro ac F
 replace G := G.trans g
 replace hN3 := hN3.gr g
 replace hexL := hexL.gr g
 replace hIr := hIr.gr g
 replace hIe := hIe.gr g
 replace hN8 := hN8.gr g
 clear g
 refine Y.pval F (X.w0 rfl) rfl (X.move rfl (F.ev 17 (.tuple #[.int .i64 186, .int .i64 0]))) ?_
 clear F ac
 intro ac F
 refine Y.pval F (X.w0 rfl) rfl (X.extract rfl (F.ev 15 (.tuple #[.int .i64 186, .int .i64 0])) rfl) ?_
 clear F ac
 intro ac F
 refine Y.pval F (X.w0 rfl) rfl (X.extract rfl (F.ev 15 (.tuple #[.int .i64 186, .int .i64 0])) rfl) ?_
 clear F ac
 intro ac F
 refine Y.pval F (X.w0 rfl) rfl (X.assign rfl (F.ev 18 (.int .i64 186))) ?_
 clear F ac
 intro ac F
 refine Y.pval F (X.w0 rfl) rfl (X.assign rfl (F.ev 19 (.int .i64 0))) ?_
 clear F ac
 intro ac F
 refine Y.nil ?_
 replace F : Fr ac 40 [(0, .bool false), (1, .slice ra 6 rc), (2, .slice za 3 zc), (3, .int .i64 0), (4, .int .i64 186), (5, .int .i64 0)] := F.sub _
 refine X.thenN ?_
 refine Y.seq ?_
 refine Y.lit (by kernel_rfl) ?_
 refine Y.pval F (X.w0 rfl) rfl (X.move rfl (F.ev 3 (.int .i64 0))) ?_
 clear F ac
 intro ac F
 refine Y.pval F (X.w0 rfl) rfl (X.binop rfl (F.ev 20 (.int .i64 0)) (X.kc (.int .i64 0) rfl) (X.eqlI Try.underlying26 (show ((0 : Int) == 0) = true by simp))) ?_
 clear F ac
 intro ac F
 refine Y.pval F (X.w0 rfl) rfl (X.move rfl (F.ev 21 (.bool true))) ?_
 clear F ac
 intro ac F
 refine Y.pval F (X.w1 rfl (F.yl (j := 2) (d := 22) (b := true) rfl (by kernel_rfl))) rfl (X.move rfl (F.ev 5 (.int .i64 0))) ?_
 clear F ac
 intro ac F
 refine Y.pval F (X.w1 rfl (F.yl (j := 2) (d := 22) (b := true) rfl (by kernel_rfl))) rfl (X.binop rfl (F.ev 23 (.int .i64 0)) (X.kc (.int .i64 0) rfl) (X.eqlI Try.underlying26 (show ((0 : Int) == 0) = true by simp))) ?_
 clear F ac
 intro ac F
 refine Y.pval F (X.w0 rfl) rfl (X.pickT rfl (F.ev 22 (.bool true)) (F.ev 24 (.bool true))) ?_
 clear F ac
 intro ac F
 refine Y.pval F (X.w0 rfl) rfl (X.move rfl (F.ev 25 (.bool true))) ?_
 clear F ac
 intro ac F
 refine Y.pval F (X.w1 rfl (F.yl (j := 6) (d := 26) (b := true) rfl (by kernel_rfl))) rfl (X.move rfl (F.ev 1 (.slice ra 6 rc))) ?_
 clear F ac
 intro ac F
 refine Y.pval F (X.w1 rfl (F.yl (j := 6) (d := 26) (b := true) rfl (by kernel_rfl))) rfl (X.bs rfl rfl (Try.exr _)) ?_
 clear F ac
 intro ac F
 have g := Gr.alloc w11 (.cells #[.int .i64 0, .int .i64 3, .int .i64 3, .int .i64 3, .int .i64 0, .int .i64 0] 3)
 have hb := heap_alloc_new w11 (.cells #[.int .i64 0, .int .i64 3, .int .i64 3, .int .i64 3, .int .i64 0, .int .i64 0] 3)
 have hbl : w11.heap.size < (w11.alloc (.cells #[.int .i64 0, .int .i64 3, .int .i64 3, .int .i64 3, .int .i64 0, .int .i64 0] 3)).heap.size := by simp
 generalize w11.alloc (.cells #[.int .i64 0, .int .i64 3, .int .i64 3, .int .i64 3, .int .i64 0, .int .i64 0] 3) = w12 at *
 replace G := G.trans g
 replace hN3 := hN3.gr g
 replace hexL := hexL.gr g
 replace hIr := hIr.gr g
 replace hIe := hIe.gr g
 replace hN8 := hN8.gr g
 have hxr := exr_at hb
 clear g hb hbl
 refine Y.pcall F (X.w1 rfl (F.yl (j := 6) (d := 26) (b := true) rfl (by kernel_rfl))) rfl (X.enter (F := 27) rfl (X.kc (.func (.func 27) #[] #[]) rfl) (X.a2 (F.ev 27 (.slice ra 6 rc)) (F.ev 28 (.slice (some ⟨w11.heap.size, 0, none⟩) 6 6))) (enters_of Try.func27 (by kernel_rfl) rfl _)) (by have hq := same_any ra (some ⟨w11.heap.size, 0, none⟩) 6 rc 6 6 ([0, 3, 3, 3, 0, 0]) ([0, 3, 3, 3, 0, 0]) w12 hIr hxr; rw [decide_eq_true rfl] at hq; exact hq) ?_
 clear F ac
 rintro e w14 ⟨rfl, g⟩
 refine ⟨_, rfl, ?_⟩
 intro ac F
 replace G := G.trans g
 replace hN3 := hN3.gr g
 replace hexL := hexL.gr g
 replace hIr := hIr.gr g
 replace hIe := hIe.gr g
 replace hN8 := hN8.gr g
 replace hxr := hxr.gr g
 clear g
 refine Y.pval F (X.w0 rfl) rfl (X.pickT rfl (F.ev 26 (.bool true)) (F.ev 29 (.bool true))) ?_
 clear F ac
 intro ac F
 refine Y.pval F (X.w0 rfl) rfl (X.move rfl (F.ev 30 (.bool true))) ?_
 clear F ac
 intro ac F
 refine Y.pval F (X.w1 rfl (F.yl (j := 11) (d := 31) (b := true) rfl (by kernel_rfl))) rfl (X.move rfl (F.ev 2 (.slice za 3 zc))) ?_
 clear F ac
 intro ac F
 refine Y.pval F (X.w1 rfl (F.yl (j := 11) (d := 31) (b := true) rfl (by kernel_rfl))) rfl (X.bs rfl rfl (Try.exq _)) ?_
 clear F ac
 intro ac F
 have g := Gr.alloc w14 (.cells #[.int .i64 33, .int .i64 66, .int .i64 0] 3)
 have hb := heap_alloc_new w14 (.cells #[.int .i64 33, .int .i64 66, .int .i64 0] 3)
 have hbl : w14.heap.size < (w14.alloc (.cells #[.int .i64 33, .int .i64 66, .int .i64 0] 3)).heap.size := by simp
 generalize w14.alloc (.cells #[.int .i64 33, .int .i64 66, .int .i64 0] 3) = w15 at *
 replace G := G.trans g
 replace hN3 := hN3.gr g
 replace hexL := hexL.gr g
 replace hIr := hIr.gr g
 replace hIe := hIe.gr g
 replace hN8 := hN8.gr g
 replace hxr := hxr.gr g
 have hxq := exq_at hb
 clear g hb hbl
 refine Y.pcall F (X.w1 rfl (F.yl (j := 11) (d := 31) (b := true) rfl (by kernel_rfl))) rfl (X.enter (F := 27) rfl (X.kc (.func (.func 27) #[] #[]) rfl) (X.a2 (F.ev 32 (.slice za 3 zc)) (F.ev 33 (.slice (some ⟨w14.heap.size, 0, none⟩) 3 3))) (enters_of Try.func27 (by kernel_rfl) rfl _)) (by have hq := same_any za (some ⟨w14.heap.size, 0, none⟩) 3 zc 3 3 ([33, 66, 0]) ([33, 66, 0]) w15 hIe hxq; rw [decide_eq_true rfl] at hq; exact hq) ?_
 clear F ac
 rintro e w17 ⟨rfl, g⟩
 refine ⟨_, rfl, ?_⟩
 intro ac F
 replace G := G.trans g
 replace hN3 := hN3.gr g
 replace hexL := hexL.gr g
 replace hIr := hIr.gr g
 replace hIe := hIe.gr g
 replace hN8 := hN8.gr g
 replace hxr := hxr.gr g
 replace hxq := hxq.gr g
 clear g
 refine Y.pval F (X.w0 rfl) rfl (X.pickT rfl (F.ev 31 (.bool true)) (F.ev 34 (.bool true))) ?_
 clear F ac
 intro ac F
 refine Y.pval F (X.w0 rfl) rfl (X.move rfl (F.ev 35 (.bool true))) ?_
 clear F ac
 intro ac F
 refine Y.pval F (X.w1 rfl (F.yl (j := 16) (d := 36) (b := true) rfl (by kernel_rfl))) rfl (X.move rfl (F.ev 4 (.int .i64 186))) ?_
 clear F ac
 intro ac F
 refine Y.pval F (X.w1 rfl (F.yl (j := 16) (d := 36) (b := true) rfl (by kernel_rfl))) rfl (X.binop rfl (F.ev 37 (.int .i64 186)) (X.kc (.int .i64 186) rfl) (X.eqlI Try.underlying3 (show ((186 : Int) == 186) = true by simp))) ?_
 clear F ac
 intro ac F
 refine Y.pval F (X.w0 rfl) rfl (X.pickT rfl (F.ev 36 (.bool true)) (F.ev 38 (.bool true))) ?_
 clear F ac
 intro ac F
 refine Y.pval F (X.w0 rfl) rfl (X.assign rfl (F.ev 39 (.bool true))) ?_
 clear F ac
 intro ac F
 refine Y.nil ?_
 replace F : Fr ac 40 [(0, .bool true), (1, .slice ra 6 rc), (2, .slice za 3 zc), (3, .int .i64 0), (4, .int .i64 186), (5, .int .i64 0)] := F.sub _
 refine X.thenN ?_
 refine Y.ret ?_
 exact Y.ret0 (v := .bool true) F (Y.rs1 F rfl (by kernel_rfl)) ⟨rfl, G⟩
end
end Go.Proofs.Ytoalamakhjbedaa
