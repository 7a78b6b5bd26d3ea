/- Several texts of this claim in one file. (1) Contract: Play. (2) The chapter's example, in plain words; rows of structures that are written out. Nothing of the program is walked here. (3) Lists of nudges that a call makes. Nothing of the program is walked here. (4) More on lists of nudges that a call makes; remainders of any number. Nothing of the program is walked here. (5) Contract: the tokens behind some ticks. -/
import Derived.Test.YtoalamakhjbedaaBd9
import Derived.Test.YtoalamakhjbedaaBd13
import Derived.Test.YtoalamakhjbedaaBd3
import Derived.Test.YtoalamakhjbedaaBd8
import Derived.Test.YtoalamakhjbedaaBd2
namespace Go.Proofs.Ytoalamakhjbedaa
section
open Go.RowKit

set_option maxRecDepth 100000 in
set_option maxHeartbeats 1000000 in
theorem play_any (na la : Option Addr) (n nc m lc : Nat) (gr hold t : Int) (nd l : List (List Int)) (w : World) (hnd : StAt w 5 na n nd) (hl : StAt w 4 la m l) :
  Calls Try.prog 18 #[.agg #[.int .i64 gr, .int .i64 hold, .slice na n nc], .int .i64 t, .slice la m lc] w fun e w' => ∃ ra rn rc ea en ec, e = .returned (.tuple #[.slice ra rn rc, .slice ea en ec, .int .i64 (playE gr hold nd t l)]) ∧ Ints w' ra rn (playRows gr hold nd t l) ∧ Ints w' ea en (playEn gr hold nd t l) ∧ Gr w w' := by
 have G := Gr.refl w
 have hnd0 := hnd
 have hl0 := hl
 have hlm := hl.lt
 have hlnn := hnd.lt
 refine Y.calls 73 Try.func18 rfl rfl ?_
 intro ac F0
 have F : Fr ac 73 [(0, .agg #[.int .i64 gr, .int .i64 hold, .slice na n nc]), (1, .int .i64 t), (2, .slice la m lc)] := F0.sub _
 clear F0
 refine Y.seq ?_
 refine Y.lit (by kernel_rfl) ?_
 refine Y.pval F (X.w0 rfl) rfl (X.box rfl (F.ev 0 (.agg #[.int .i64 gr, .int .i64 hold, .slice na n nc])) X.bx) ?_
 clear F ac
 intro ac F
 have g := Gr.alloc w (.cells #[.int .i64 gr, .int .i64 hold, .slice na n nc] 24)
 have hb := heap_alloc_new w (.cells #[.int .i64 gr, .int .i64 hold, .slice na n nc] 24)
 have hbl : w.heap.size < (w.alloc (.cells #[.int .i64 gr, .int .i64 hold, .slice na n nc] 24)).heap.size := by simp
 have hC2 : RCells (w.alloc (.cells #[.int .i64 gr, .int .i64 hold, .slice na n nc] 24)) [(⟨w.heap.size, 0, none⟩, .int .i64 gr), (⟨w.heap.size, 1, none⟩, .int .i64 hold), (⟨w.heap.size, 2, none⟩, .slice na n nc)] := (RCells.nil w).box (b := w.heap.size) #[.int .i64 gr, .int .i64 hold, .slice na n nc] 24 rfl
 generalize w.alloc (.cells #[.int .i64 gr, .int .i64 hold, .slice na n nc] 24) = w3 at *
 replace G := G.trans g
 have hC := hC2
 clear hC2
 replace hnd := hnd.gr g
 replace hl := hl.gr g
 clear g hb hbl
 have hC0 := hC
 refine Y.pval F (X.w0 rfl) rfl (X.assign rfl (X.kc (.slice none 0 0) rfl)) ?_
 clear F ac
 intro ac F
 refine Y.pval F (X.w0 rfl) rfl (X.assign rfl (X.kc (.slice none 0 0) rfl)) ?_
 clear F ac
 intro ac F
 refine Y.pval F (X.w0 rfl) rfl (X.assign rfl (X.kc (.int .i64 0) rfl)) ?_
 clear F ac
 intro ac F
 refine Y.nil ?_
 replace F : Fr ac 73 [(0, .agg #[.int .i64 gr, .int .i64 hold, .slice na n nc]), (1, .int .i64 t), (2, .slice la m lc), (3, .pointer (some ⟨w.heap.size, 0, none⟩)), (6, .slice none 0 0), (7, .slice none 0 0), (8, .int .i64 0)] := F.sub _
 refine X.thenN ?_
 refine Y.seq ?_
 refine Y.lit (by kernel_rfl) ?_
 refine Y.pval F (X.w0 rfl) rfl (X.load rfl (F.ev 3 (.pointer (some ⟨w.heap.size, 0, none⟩))) (X.ldN (Try.agg24 _) (Try.siz24 _) (Y.atz (⟨w.heap.size, 0, none⟩) (Y.AtFrom.cons (hC.at 0 rfl) (Y.AtFrom.cons (hC.at 1 rfl) (Y.AtFrom.cons (hC.at 2 rfl) (Y.AtFrom.nil _ _ _))))))) ?_
 clear F ac
 intro ac F
 refine Y.pval F (X.w0 rfl) rfl (X.move rfl (F.ev 1 (.int .i64 t))) ?_
 clear F ac
 intro ac F
 refine Y.pval F (X.w0 rfl) rfl (X.move rfl (F.ev 2 (.slice la m lc))) ?_
 clear F ac
 intro ac F
 by_cases hE : playE gr hold nd t l = 0
 ·have hE := hE
  refine Y.pcall F (X.w0 rfl) rfl (X.enter (F := 44) rfl (X.kc (.func (.func 44) #[] #[]) rfl) (X.a3 (F.ev 15 (.agg #[.int .i64 gr, .int .i64 hold, .slice na n nc])) (F.ev 16 (.int .i64 t)) (F.ev 17 (.slice la m lc))) (enters_of Try.func44 (by kernel_rfl) rfl _)) (begin_any na la n nc m lc gr hold t nd l w3 hnd hl) ?_
  clear F ac
  rintro e w5 ⟨-, g, h0⟩
  obtain ⟨bp, rfl, hBg⟩ := h0 hE
  clear h0
  refine ⟨_, rfl, ?_⟩
  intro ac F
  have hBsz : w3.heap.size = w3.heap.size := rfl
  replace G := G.trans g
  replace hC := hC.gr g
  replace hnd := hnd.gr g
  replace hl := hl.gr g
  clear g
  refine Y.pval F (X.w0 rfl) rfl (X.move rfl (F.ev 18 (.tuple #[.pointer (some ⟨bp, 0, none⟩), .int .i64 0]))) ?_
  clear F ac
  intro ac F
  refine Y.pval F (X.w0 rfl) rfl (X.extract rfl (F.ev 14 (.tuple #[.pointer (some ⟨bp, 0, none⟩), .int .i64 0])) rfl) ?_
  clear F ac
  intro ac F
  refine Y.pval F (X.w0 rfl) rfl (X.extract rfl (F.ev 14 (.tuple #[.pointer (some ⟨bp, 0, none⟩), .int .i64 0])) rfl) ?_
  clear F ac
  intro ac F
  refine Y.pval F (X.w0 rfl) rfl (X.assign rfl (F.ev 19 (.pointer (some ⟨bp, 0, none⟩)))) ?_
  clear F ac
  intro ac F
  refine Y.pval F (X.w0 rfl) rfl (X.assign rfl (F.ev 20 (.int .i64 0))) ?_
  clear F ac
  intro ac F
  refine Y.nil ?_
  replace F : Fr ac 73 [(0, .agg #[.int .i64 gr, .int .i64 hold, .slice na n nc]), (1, .int .i64 t), (2, .slice la m lc), (3, .pointer (some ⟨w.heap.size, 0, none⟩)), (6, .slice none 0 0), (7, .slice none 0 0), (8, .int .i64 0), (9, .pointer (some ⟨bp, 0, none⟩))] := F.sub _
  refine X.thenN ?_
  refine Y.seq ?_
  refine Y.seq ?_
  refine Y.lit (by kernel_rfl) ?_
  refine Y.pval F (X.w0 rfl) rfl (X.move rfl (F.ev 8 (.int .i64 0))) ?_
  clear F ac
  intro ac F
  refine Y.pval F (X.w0 rfl) rfl (X.binop rfl (F.ev 21 (.int .i64 0)) (X.kc (.int .i64 0) rfl) (X.neqI Try.underlying26 (show ((0 : Int) != 0) = false by simp))) ?_
  clear F ac
  intro ac F
  refine Y.nil ?_
  replace F : Fr ac 73 [(0, .agg #[.int .i64 gr, .int .i64 hold, .slice na n nc]), (1, .int .i64 t), (2, .slice la m lc), (3, .pointer (some ⟨w.heap.size, 0, none⟩)), (6, .slice none 0 0), (7, .slice none 0 0), (8, .int .i64 0), (9, .pointer (some ⟨bp, 0, none⟩)), (22, .bool false)] := F.sub _
  refine X.thenN ?_
  refine Y.condF (F.ev 22 (.bool false)) ?_
  refine Y.skip ?_
  refine X.thenN ?_
  refine Y.seq ?_
  refine Y.lit (by kernel_rfl) ?_
  refine Y.pval F (X.w0 rfl) rfl (X.move rfl (F.ev 9 (.pointer (some ⟨bp, 0, none⟩)))) ?_
  clear F ac
  intro ac F
  refine Y.pval F (X.w0 rfl) rfl (X.move rfl (F.ev 1 (.int .i64 t))) ?_
  clear F ac
  intro ac F
  have hok := playE_ok hE
  have hc := hok.c
  have ht0 := hok.t0
  have ht1 := hok.t1
  have hln := hnd.len
  have h16 : n ≤ 16 := by have := hc.n16; omega
  obtain ⟨bn, pa, cap, hP, hS⟩ := hBg
  have hpb := hP.pb
  have hnb := hP.nb
  have hg1 := hc.g1
  have hg8 := hc.g8
  have hSO : SOk n (startS nd) := by have := SOk.start hc; rwa [hln] at this
  have htt : t = ((t.toNat : Nat) : Int) := by omega
  have hgw := G.size
  have hnu : ∀ x ∈ l, NuOk gr nd t x := fun x hx => by obtain ⟨i, hi, rfl⟩ := List.getElem_of_mem hx; have := hok.nu i hi; rwa [List.getElem?_eq_getElem hi] at this
  refine Y.pcall F (X.w0 rfl) rfl (X.enter (F := 45) rfl (X.kc (.func (.func 45) #[] #[]) rfl) (X.a2 (F.ev 25 (.pointer (some ⟨bp, 0, none⟩))) (F.ev 26 (.int .i64 t))) (enters_of Try.func45 (by kernel_rfl) rfl _)) (by have h := run_any w3 w5 bp bn gr hold na la pa n nc m lc cap l (startS nd) t.toNat hP hS h16 ⟨nd, t, hln, hg8, hnu⟩ hSO hc.h1 hc.h100 (by omega) (by omega); rw [← htt] at h; exact h) ?_
  clear F ac
  rintro e w6 ⟨v1, v2, rfl, hon, -, hO1, hO2⟩
  refine ⟨_, rfl, ?_⟩
  intro ac F
  have hcb : w.heap.size < w3.heap.size := lt_cell (hC0.at 0 rfl)
  replace hC : RCells w6 [(⟨w.heap.size, 0, none⟩, .int .i64 gr), (⟨w.heap.size, 1, none⟩, .int .i64 hold), (⟨w.heap.size, 2, none⟩, .slice na n nc)] := (RCells.cons (hon.cell (hC.at 0 rfl) (by show ¬ w.heap.size = bn; omega)) (RCells.cons (hon.cell (hC.at 1 rfl) (by show ¬ w.heap.size = bn; omega)) (RCells.cons (hon.cell (hC.at 2 rfl) (by show ¬ w.heap.size = bn; omega)) (RCells.nil _))))
  replace G := Y.Only.up G hon (by omega)
  replace hnd := hnd0.gr G
  replace hl := hl0.gr G
  clear hon hS hP
  obtain ⟨aa, ac1, rfl, hIa, hIab⟩ := hO1.intsN (runFrom_len t.toNat).1 (by omega)
  obtain ⟨ra, rc, rfl, hIr, hIrb⟩ := hO2.intsN (runFrom_len t.toNat).2 (by omega)
  clear hO1 hO2
  refine Y.pval F (X.w0 rfl) rfl (X.move rfl (F.ev 27 (.tuple #[.slice aa t.toNat ac1, .slice ra t.toNat rc]))) ?_
  clear F ac
  intro ac F
  refine Y.pval F (X.w0 rfl) rfl (X.extract rfl (F.ev 24 (.tuple #[.slice aa t.toNat ac1, .slice ra t.toNat rc])) rfl) ?_
  clear F ac
  intro ac F
  refine Y.pval F (X.w0 rfl) rfl (X.extract rfl (F.ev 24 (.tuple #[.slice aa t.toNat ac1, .slice ra t.toNat rc])) rfl) ?_
  clear F ac
  intro ac F
  refine Y.pval F (X.w0 rfl) rfl (X.assign rfl (F.ev 29 (.slice ra t.toNat rc))) ?_
  clear F ac
  intro ac F
  refine Y.nil ?_
  replace F : Fr ac 73 [(0, .agg #[.int .i64 gr, .int .i64 hold, .slice na n nc]), (1, .int .i64 t), (2, .slice la m lc), (3, .pointer (some ⟨w.heap.size, 0, none⟩)), (6, .slice ra t.toNat rc), (7, .slice none 0 0), (8, .int .i64 0), (9, .pointer (some ⟨bp, 0, none⟩)), (22, .bool false)] := F.sub _
  refine X.thenN ?_
  refine Y.seq ?_
  refine Y.lit (by kernel_rfl) ?_
  refine Y.pval F (X.w0 rfl) rfl (X.field rfl (F.ev 3 (.pointer (some ⟨w.heap.size, 0, none⟩))) (X.fld Try.underlying24 rfl (Try.siz22 _) rfl rfl)) ?_
  clear F ac
  intro ac F
  refine Y.pval F (X.w0 rfl) rfl (X.load rfl (F.ev 30 (.pointer (some ⟨w.heap.size, 2, none⟩))) (X.ld1 (Try.agg22 _) (hC.at 2 rfl))) ?_
  clear F ac
  intro ac F
  refine Y.pval F (X.w0 rfl) rfl (X.len1 Try.underlying22 rfl (F.ev 31 (.slice na n nc))) ?_
  clear F ac
  intro ac F
  have hq8 : w.heap.size < w6.heap.size := lt_cell (hC.at 0 rfl)
  have hgsw7 := G.size
  refine Y.pval F (X.w0 rfl) rfl (Y.mk rfl (F.ev 32 (.int .i64 n)) (F.ev 32 (.int .i64 n)) (Try.mk34 n _ (by omega))) ?_
  clear F ac
  intro ac F
  have g := Gr.alloc w6 (.cells (List.replicate n (.int .i64 0)).toArray 3)
  have hS := zeros_own w6 n
  generalize w6.alloc (.cells (List.replicate n (.int .i64 0)).toArray 3) = w7 at *
  replace G := G.trans g
  replace hC := hC.gr g
  replace hnd := hnd.gr g
  replace hl := hl.gr g
  replace hIa := hIa.gr g
  replace hIr := hIr.gr g
  clear g
  have hml : w6.heap.size < w7.heap.size := hS.lt
  have hS := hS
  refine Y.pval F (X.w0 rfl) rfl (X.assign rfl (F.ev 33 (.slice (some ⟨w6.heap.size, 0, none⟩) n n))) ?_
  clear F ac
  intro ac F
  refine Y.nil ?_
  replace F : Fr ac 73 [(0, .agg #[.int .i64 gr, .int .i64 hold, .slice na n nc]), (1, .int .i64 t), (2, .slice la m lc), (3, .pointer (some ⟨w.heap.size, 0, none⟩)), (6, .slice ra t.toNat rc), (7, .slice (some ⟨w6.heap.size, 0, none⟩) n n), (8, .int .i64 0), (9, .pointer (some ⟨bp, 0, none⟩)), (22, .bool false)] := F.sub _
  refine X.thenN ?_
  refine Y.seq ?_
  refine Y.seq ?_
  refine Y.lit (by kernel_rfl) ?_
  refine Y.pval F (X.w0 rfl) rfl (X.move rfl (F.ev 6 (.slice ra t.toNat rc))) ?_
  clear F ac
  intro ac F
  refine Y.pval F (X.w0 rfl) rfl (X.len1 Try.underlying34 rfl (F.ev 34 (.slice ra t.toNat rc))) ?_
  clear F ac
  intro ac F
  refine Y.pval F (X.w0 rfl) rfl (X.move rfl (X.kc (.int .i64 0) rfl)) ?_
  clear F ac
  intro ac F
  refine Y.nil ?_
  replace F : Fr ac 73 [(0, .agg #[.int .i64 gr, .int .i64 hold, .slice na n nc]), (1, .int .i64 t), (2, .slice la m lc), (3, .pointer (some ⟨w.heap.size, 0, none⟩)), (6, .slice ra t.toNat rc), (7, .slice (some ⟨w6.heap.size, 0, none⟩) n n), (8, .int .i64 0), (9, .pointer (some ⟨bp, 0, none⟩)), (22, .bool false), (34, .slice ra t.toNat rc), (35, .int .i64 t.toNat), (36, .int .i64 0)] := F.sub _
  refine X.thenN ?_
  refine Y.block ?_
  have hIa_1 := hIa
  have hIr_1 := hIr
  have G_1 := G
  have hC_1 := hC
  refine Y.loop (fun me_ ac wr => ∃ (k : Nat), me_ = t.toNat - k ∧ k ≤ t.toNat ∧ Only (fun b => b = w6.heap.size) w7 wr ∧ OwnP wr w6.heap.size (n) (EV (enS nd ((runFrom hold gr.toNat n l (startS nd) t.toNat).rows.take k))) ∧ Fr ac 73 [(0, .agg #[.int .i64 gr, .int .i64 hold, .slice na n nc]), (1, .int .i64 t), (2, .slice la m lc), (3, .pointer (some ⟨w.heap.size, 0, none⟩)), (6, .slice ra t.toNat rc), (7, .slice (some ⟨w6.heap.size, 0, none⟩) n n), (8, .int .i64 0), (9, .pointer (some ⟨bp, 0, none⟩)), (22, .bool false), (34, .slice ra t.toNat rc), (35, .int .i64 t.toNat), (36, .int .i64 k)]) _ ⟨0, rfl, Nat.zero_le _, Only.refl _ _, hS, F.sub _⟩ ?_
  clear F G ac hC hS hIa hIr hnd hl
  intro me_ ac w9 hI
  obtain ⟨k, rfl, hk, hI1, hS, F⟩ := hI
  have G := Y.Only.up G_1 hI1 (by omega)
  have hnd := hnd0.gr G
  have hl := hl0.gr G
  have hIa := hIa_1.onlyAt hI1 (fun ad e h => by have := hIab ad e; omega)
  have hIr := hIr_1.onlyAt hI1 (fun ad e h => by have := hIrb ad e; omega)
  have hC : RCells w9 [(⟨w.heap.size, 0, none⟩, .int .i64 gr), (⟨w.heap.size, 1, none⟩, .int .i64 hold), (⟨w.heap.size, 2, none⟩, .slice na n nc)] := (RCells.cons (hI1.cell (hC_1.at 0 rfl) (by show ¬ w.heap.size = w6.heap.size; omega)) (RCells.cons (hI1.cell (hC_1.at 1 rfl) (by show ¬ w.heap.size = w6.heap.size; omega)) (RCells.cons (hI1.cell (hC_1.at 2 rfl) (by show ¬ w.heap.size = w6.heap.size; omega)) (RCells.nil _))))
  refine Y.seq ?_
  refine Y.lit (by kernel_rfl) ?_
  refine Y.pval F (X.w0 rfl) rfl (X.binop rfl (F.ev 36 (.int .i64 k)) (F.ev 35 (.int .i64 t.toNat)) (X.lssI Try.underlying3 rfl)) ?_
  clear F ac
  intro ac F
  refine Y.nil ?_
  replace F : Fr ac 73 [(0, .agg #[.int .i64 gr, .int .i64 hold, .slice na n nc]), (1, .int .i64 t), (2, .slice la m lc), (3, .pointer (some ⟨w.heap.size, 0, none⟩)), (6, .slice ra t.toNat rc), (7, .slice (some ⟨w6.heap.size, 0, none⟩) n n), (8, .int .i64 0), (9, .pointer (some ⟨bp, 0, none⟩)), (22, .bool false), (34, .slice ra t.toNat rc), (35, .int .i64 t.toNat), (36, .int .i64 k), (37, .bool (decide ((k : Int) < t.toNat)))] := F.sub _
  refine X.thenN ?_
  refine Y.seq ?_
  cases h10 : decide ((k : Int) < t.toNat) with
  | false =>
   try rw [h10] at F
   have h10p : ¬ ((k : Int) < t.toNat) := of_decide_eq_false h10
   have hkt : k = t.toNat := by omega
   subst hkt
   refine Y.condF (F.ev 37 (.bool false)) ?_
   refine Y.exit ?_
   refine X.thenX ?_
   refine X.thenX ?_
   refine X.blockX ?_
   refine X.thenN ?_
   refine Y.seq ?_
   refine Y.lit (by kernel_rfl) ?_
   refine Y.pval F (X.w0 rfl) rfl (X.move rfl (F.ev 6 (.slice ra t.toNat rc))) ?_
   clear F ac
   intro ac F
   refine Y.pval F (X.w0 rfl) rfl (X.move rfl (F.ev 7 (.slice (some ⟨w6.heap.size, 0, none⟩) n n))) ?_
   clear F ac
   intro ac F
   refine Y.pval F (X.w0 rfl) rfl (X.assign rfl (F.ev 71 (.slice ra t.toNat rc))) ?_
   clear F ac
   intro ac F
   refine Y.pval F (X.w0 rfl) rfl (X.assign rfl (F.ev 72 (.slice (some ⟨w6.heap.size, 0, none⟩) n n))) ?_
   clear F ac
   intro ac F
   refine Y.pval F (X.w0 rfl) rfl (X.assign rfl (X.kc (.int .i64 0) rfl)) ?_
   clear F ac
   intro ac F
   refine Y.nil ?_
   replace F : Fr ac 73 [(0, .agg #[.int .i64 gr, .int .i64 hold, .slice na n nc]), (1, .int .i64 t), (2, .slice la m lc), (3, .pointer (some ⟨w.heap.size, 0, none⟩)), (6, .slice ra t.toNat rc), (7, .slice (some ⟨w6.heap.size, 0, none⟩) n n), (8, .int .i64 0), (9, .pointer (some ⟨bp, 0, none⟩)), (22, .bool false), (34, .slice ra t.toNat rc), (35, .int .i64 t.toNat), (36, .int .i64 t.toNat), (37, .bool false)] := F.sub _
   refine X.thenN ?_
   refine Y.ret ?_
   have e1 : playRows gr hold nd t l = (runFrom hold gr.toNat n l (startS nd) t.toNat).rows := by unfold playRows playR; rw [if_pos hE, hln]
   have e2 : playEn gr hold nd t l = (List.range n).map (enS nd (runFrom hold gr.toNat n l (startS nd) t.toNat).rows) := by unfold playEn playR; rw [if_pos hE, hln]
   have e3 : (runFrom hold gr.toNat n l (startS nd) t.toNat).rows.take t.toNat = (runFrom hold gr.toNat n l (startS nd) t.toNat).rows := List.take_of_length_le (by rw [(runFrom_len t.toNat).2]; omega)
   rw [e3] at hS
   exact Y.ret0 (v := .tuple #[.slice ra t.toNat rc, .slice (some ⟨w6.heap.size, 0, none⟩) n n, .int .i64 0]) F (Y.rs3 F rfl (by kernel_rfl) (by kernel_rfl) (by kernel_rfl)) ⟨_, _, _, _, _, _, by rw [hE], by rw [e1]; exact hIr, by rw [e2]; exact ownP_ints hS (by omega), G⟩
  | true =>
   try rw [h10] at F
   have h10p : ((k : Int) < t.toNat) := of_decide_eq_true h10
   have hk2 : k < t.toNat := by omega
   have hrl := (runFrom_len (n := n) (gr := gr.toNat) (s := startS nd) (hold := hold) (l := l) t.toNat).2
   refine Y.condT (F.ev 37 (.bool true)) ?_
   refine Y.skip ?_
   refine X.thenN ?_
   refine Y.seq ?_
   refine Y.block ?_
   refine Y.seq ?_
   refine Y.lit (by kernel_rfl) ?_
   obtain ⟨pd11, pe11, -, pc11⟩ := hIr.at (j := k) (by omega)
   subst pe11
   replace hC : RCells w9 [(⟨w.heap.size, 0, none⟩, .int .i64 gr), (⟨w.heap.size, 1, none⟩, .int .i64 hold), (⟨w.heap.size, 2, none⟩, .slice na n nc), (pd11.add k, .int .i64 (((runFrom hold gr.toNat n l (startS nd) t.toNat).rows)[k]?.getD 0))] := hC.append ((RCells.cons pc11 (RCells.nil _)))
   clear pc11
   refine Y.pval F (X.w0 rfl) rfl (X.index rfl (F.ev 34 (.slice (some pd11) t.toNat rc)) (F.ev 36 (.int .i64 k)) (X.idx (k := k) Try.underlying34 (Try.siz3 _) (by omega) (by omega) (by rw [Nat.mul_one]))) ?_
   clear F ac
   intro ac F
   refine Y.pval F (X.w0 rfl) rfl (X.load rfl (F.ev 38 (.pointer (some (pd11.add k)))) (X.ld1 (Try.agg3 _) (hC.at 3 rfl))) ?_
   clear F ac
   intro ac F
   refine Y.pval F (X.w0 rfl) rfl (X.assign rfl (F.ev 39 (.int .i64 (((runFrom hold gr.toNat n l (startS nd) t.toNat).rows)[k]?.getD 0)))) ?_
   clear F ac
   intro ac F
   refine Y.nil ?_
   replace F : Fr ac 73 [(0, .agg #[.int .i64 gr, .int .i64 hold, .slice na n nc]), (1, .int .i64 t), (2, .slice la m lc), (3, .pointer (some ⟨w.heap.size, 0, none⟩)), (6, .slice (some pd11) t.toNat rc), (7, .slice (some ⟨w6.heap.size, 0, none⟩) n n), (8, .int .i64 0), (9, .pointer (some ⟨bp, 0, none⟩)), (11, .int .i64 (((runFrom hold gr.toNat n l (startS nd) t.toNat).rows)[k]?.getD 0)), (22, .bool false), (34, .slice (some pd11) t.toNat rc), (35, .int .i64 t.toNat), (36, .int .i64 k), (37, .bool true)] := F.sub _
   refine X.thenN ?_
   refine Y.seq ?_
   refine Y.lit (by kernel_rfl) ?_
   refine Y.pval F (X.w0 rfl) rfl (X.field rfl (F.ev 3 (.pointer (some ⟨w.heap.size, 0, none⟩))) (X.fld Try.underlying24 rfl (Try.siz22 _) rfl rfl)) ?_
   clear F ac
   intro ac F
   refine Y.pval F (X.w0 rfl) rfl (X.load rfl (F.ev 40 (.pointer (some ⟨w.heap.size, 2, none⟩))) (X.ld1 (Try.agg22 _) (hC.at 2 rfl))) ?_
   clear F ac
   intro ac F
   refine Y.pval F (X.w0 rfl) rfl (X.len1 Try.underlying22 rfl (F.ev 41 (.slice na n nc))) ?_
   clear F ac
   intro ac F
   refine Y.pval F (X.w0 rfl) rfl (X.move rfl (X.kc (.int .i64 0) rfl)) ?_
   clear F ac
   intro ac F
   refine Y.nil ?_
   replace F : Fr ac 73 [(0, .agg #[.int .i64 gr, .int .i64 hold, .slice na n nc]), (1, .int .i64 t), (2, .slice la m lc), (3, .pointer (some ⟨w.heap.size, 0, none⟩)), (6, .slice (some pd11) t.toNat rc), (7, .slice (some ⟨w6.heap.size, 0, none⟩) n n), (8, .int .i64 0), (9, .pointer (some ⟨bp, 0, none⟩)), (11, .int .i64 (((runFrom hold gr.toNat n l (startS nd) t.toNat).rows)[k]?.getD 0)), (22, .bool false), (34, .slice (some pd11) t.toNat rc), (35, .int .i64 t.toNat), (36, .int .i64 k), (37, .bool true), (41, .slice na n nc), (42, .int .i64 n), (43, .int .i64 0)] := F.sub _
   refine X.thenN ?_
   refine Y.block ?_
   have hI1_2 := hI1
   have hIa_2 := hIa
   have hIr_2 := hIr
   have G_2 := G
   have hC_2 := hC
   refine Y.loop (fun me_ ac wr => ∃ (i : Nat), me_ = n - i ∧ i ≤ n ∧ Only (fun b => b = w6.heap.size) w9 wr ∧ OwnP wr w6.heap.size (n) (EV (enP nd ((runFrom hold gr.toNat n l (startS nd) t.toNat).rows[k]?.getD 0) i (enS nd ((runFrom hold gr.toNat n l (startS nd) t.toNat).rows.take k)))) ∧ Fr ac 73 [(0, .agg #[.int .i64 gr, .int .i64 hold, .slice na n nc]), (1, .int .i64 t), (2, .slice la m lc), (3, .pointer (some ⟨w.heap.size, 0, none⟩)), (6, .slice (some pd11) t.toNat rc), (7, .slice (some ⟨w6.heap.size, 0, none⟩) n n), (8, .int .i64 0), (9, .pointer (some ⟨bp, 0, none⟩)), (11, .int .i64 (((runFrom hold gr.toNat n l (startS nd) t.toNat).rows)[k]?.getD 0)), (22, .bool false), (34, .slice (some pd11) t.toNat rc), (35, .int .i64 t.toNat), (36, .int .i64 k), (37, .bool true), (41, .slice na n nc), (42, .int .i64 n), (43, .int .i64 i)]) _ ⟨0, rfl, Nat.zero_le _, Only.refl _ _, (by rw [enP_zero]; exact hS), F.sub _⟩ ?_
   clear F G ac hC hS hI1 hIa hIr hnd hl
   intro me_ ac w12 hI
   obtain ⟨i, rfl, hi, hI2, hS, F⟩ := hI
   have G := Y.Only.up G_2 hI2 (by omega)
   have hI1 := hI1_2.trans hI2
   have hnd := hnd0.gr G
   have hl := hl0.gr G
   have hIa := hIa_2.onlyAt hI2 (fun ad e h => by have := hIab ad e; omega)
   have hIr := hIr_2.onlyAt hI2 (fun ad e h => by have := hIrb ad e; omega)
   have hC : RCells w12 [(⟨w.heap.size, 0, none⟩, .int .i64 gr), (⟨w.heap.size, 1, none⟩, .int .i64 hold), (⟨w.heap.size, 2, none⟩, .slice na n nc)] := (RCells.cons (hI2.cell (hC_2.at 0 rfl) (by show ¬ w.heap.size = w6.heap.size; omega)) (RCells.cons (hI2.cell (hC_2.at 1 rfl) (by show ¬ w.heap.size = w6.heap.size; omega)) (RCells.cons (hI2.cell (hC_2.at 2 rfl) (by show ¬ w.heap.size = w6.heap.size; omega)) (RCells.nil _))))
   refine Y.seq ?_
   refine Y.lit (by kernel_rfl) ?_
   refine Y.pval F (X.w0 rfl) rfl (X.binop rfl (F.ev 43 (.int .i64 i)) (F.ev 42 (.int .i64 n)) (X.lssI Try.underlying3 rfl)) ?_
   clear F ac
   intro ac F
   refine Y.nil ?_
   replace F : Fr ac 73 [(0, .agg #[.int .i64 gr, .int .i64 hold, .slice na n nc]), (1, .int .i64 t), (2, .slice la m lc), (3, .pointer (some ⟨w.heap.size, 0, none⟩)), (6, .slice (some pd11) t.toNat rc), (7, .slice (some ⟨w6.heap.size, 0, none⟩) n n), (8, .int .i64 0), (9, .pointer (some ⟨bp, 0, none⟩)), (11, .int .i64 (((runFrom hold gr.toNat n l (startS nd) t.toNat).rows)[k]?.getD 0)), (22, .bool false), (34, .slice (some pd11) t.toNat rc), (35, .int .i64 t.toNat), (36, .int .i64 k), (37, .bool true), (41, .slice na n nc), (42, .int .i64 n), (43, .int .i64 i), (44, .bool (decide ((i : Int) < n)))] := F.sub _
   refine X.thenN ?_
   refine Y.seq ?_
   cases h13 : decide ((i : Int) < n) with
   | false =>
    try rw [h13] at F
    have h13p : ¬ ((i : Int) < n) := of_decide_eq_false h13
    obtain rfl : n = i := by omega
    refine Y.condF (F.ev 44 (.bool false)) ?_
    refine Y.exit ?_
    refine X.thenX ?_
    refine X.thenX ?_
    refine X.blockX ?_
    refine X.blockN ?_
    refine X.thenN ?_
    refine Y.lit (by kernel_rfl) ?_
    refine Y.pval F (X.w0 rfl) rfl (X.binop rfl (F.ev 36 (.int .i64 k)) (X.kc (.int .i64 1) rfl) (X.addI Try.underlying3 rfl (by omega) (by omega))) ?_
    clear F ac
    intro ac F
    refine Y.pval F (X.w0 rfl) rfl (X.move rfl (F.ev 70 (.int .i64 ((k : Int) + 1)))) ?_
    clear F ac
    intro ac F
    refine Y.nil ?_
    replace F : Fr ac 73 [(0, .agg #[.int .i64 gr, .int .i64 hold, .slice na n nc]), (1, .int .i64 t), (2, .slice la m lc), (3, .pointer (some ⟨w.heap.size, 0, none⟩)), (6, .slice (some pd11) t.toNat rc), (7, .slice (some ⟨w6.heap.size, 0, none⟩) n n), (8, .int .i64 0), (9, .pointer (some ⟨bp, 0, none⟩)), (11, .int .i64 (((runFrom hold gr.toNat n l (startS nd) t.toNat).rows)[k]?.getD 0)), (22, .bool false), (34, .slice (some pd11) t.toNat rc), (35, .int .i64 t.toNat), (36, .int .i64 ((k : Int) + 1)), (37, .bool true), (41, .slice na n nc), (42, .int .i64 n), (43, .int .i64 n), (44, .bool false)] := F.sub _
    refine X.thenN ?_
    refine ⟨_, ?_, k + 1, rfl, by omega, hI1, hS.congr (fun j hj => by unfold EV; rw [enS_take (by omega) j]; unfold enP; rw [if_pos hj]), F.sub _⟩
    omega
   | true =>
    try rw [h13] at F
    have h13p : ((i : Int) < n) := of_decide_eq_true h13
    have hi2 : i < n := by omega
    have hb1 := enS_bd hc (j := i) (by omega) ((runFrom hold gr.toNat n l (startS nd) t.toNat).rows.take k)
    have hb2 := enP_at nd ((runFrom hold gr.toNat n l (startS nd) t.toNat).rows[k]?.getD 0) i (enS nd ((runFrom hold gr.toNat n l (startS nd) t.toNat).rows.take k))
    have hb3 : ((runFrom hold gr.toNat n l (startS nd) t.toNat).rows.take k).length ≤ 1000 := by rw [List.length_take]; omega
    have hb4 := hc.awk i (by omega)
    have hb5 := hc.asl i (by omega)
    refine Y.condT (F.ev 44 (.bool true)) ?_
    refine Y.skip ?_
    refine X.thenN ?_
    refine Y.seq ?_
    refine Y.block ?_
    refine Y.seq ?_
    refine Y.lit (by kernel_rfl) ?_
    refine Y.pval F (X.w0 rfl) rfl (X.move rfl (F.ev 43 (.int .i64 i))) ?_
    clear F ac
    intro ac F
    obtain ⟨pd14, pe14, -, -, pc14⟩ := hnd.at (j := i) (by omega)
    subst pe14
    replace hC : RCells w12 [(⟨w.heap.size, 0, none⟩, .int .i64 gr), (⟨w.heap.size, 1, none⟩, .int .i64 hold), (⟨w.heap.size, 2, none⟩, .slice (some pd14) n nc), (pd14.add (i * 5), .int .i64 (cv nd i 0)), (⟨(pd14.add (i * 5)).block, (pd14.add (i * 5)).off + 1, none⟩, .int .i64 (cv nd i 1)), (⟨(pd14.add (i * 5)).block, (pd14.add (i * 5)).off + 2, none⟩, .int .i64 (cv nd i 2)), (⟨(pd14.add (i * 5)).block, (pd14.add (i * 5)).off + 3, none⟩, .int .i64 (cv nd i 3)), (⟨(pd14.add (i * 5)).block, (pd14.add (i * 5)).off + 4, none⟩, .int .i64 (cv nd i 4))] := hC.append ((RCells.cons (pc14 0 (by decide)) (RCells.cons (pc14 1 (by decide)) (RCells.cons (pc14 2 (by decide)) (RCells.cons (pc14 3 (by decide)) (RCells.cons (pc14 4 (by decide)) (RCells.nil _)))))))
    clear pc14
    refine Y.pval F (X.w0 rfl) rfl (X.index rfl (F.ev 41 (.slice (some pd14) n nc)) (F.ev 43 (.int .i64 i)) (X.idx (k := i) Try.underlying22 (Try.siz31 _) (by omega) (by omega) rfl)) ?_
    clear F ac
    intro ac F
    refine Y.pval F (X.w0 rfl) rfl (X.load rfl (F.ev 46 (.pointer (some (pd14.add (i * 5))))) (X.ldN (Try.agg31 _) (Try.siz31 _) (Y.atz (pd14.add (i * 5)) (Y.AtFrom.cons (hC.at 3 rfl) (Y.AtFrom.cons (hC.at 4 rfl) (Y.AtFrom.cons (hC.at 5 rfl) (Y.AtFrom.cons (hC.at 6 rfl) (Y.AtFrom.cons (hC.at 7 rfl) (Y.AtFrom.nil _ _ _))))))))) ?_
    clear F ac
    intro ac F
    refine Y.pval F (X.w0 rfl) rfl (Y.al rfl (Try.new31 _)) ?_
    clear F ac
    intro ac F
    refine Y.pval F (X.w0 rfl) rfl (X.assign rfl (F.ev 45 (.int .i64 i))) ?_
    clear F ac
    intro ac F
    refine Y.punit F (X.w0 rfl) rfl (X.store rfl (F.ev 13 (.pointer (some ⟨w12.heap.size, 0, none⟩))) (F.ev 47 (.agg #[.int .i64 (cv nd i 0), .int .i64 (cv nd i 1), .int .i64 (cv nd i 2), .int .i64 (cv nd i 3), .int .i64 (cv nd i 4)])) (Y.stNew [.int .i64 (cv nd i 0), .int .i64 (cv nd i 1), .int .i64 (cv nd i 2), .int .i64 (cv nd i 3), .int .i64 (cv nd i 4)] [.int .i64 0, .int .i64 0, .int .i64 0, .int .i64 0, .int .i64 0] (Try.siz31 _) rfl rfl)) ?_
    clear F ac
    intro ac F
    have hq15 : w6.heap.size < w12.heap.size := hS.lt
    have hq16 : w.heap.size < w12.heap.size := lt_cell (hC.at 0 rfl)
    have g := Gr.alloc w12 (.cells #[.int .i64 (cv nd i 0), .int .i64 (cv nd i 1), .int .i64 (cv nd i 2), .int .i64 (cv nd i 3), .int .i64 (cv nd i 4)] 31)
    have hb := heap_alloc_new w12 (.cells #[.int .i64 (cv nd i 0), .int .i64 (cv nd i 1), .int .i64 (cv nd i 2), .int .i64 (cv nd i 3), .int .i64 (cv nd i 4)] 31)
    have hbl : w12.heap.size < (w12.alloc (.cells #[.int .i64 (cv nd i 0), .int .i64 (cv nd i 1), .int .i64 (cv nd i 2), .int .i64 (cv nd i 3), .int .i64 (cv nd i 4)] 31)).heap.size := by simp
    have hC2 : RCells (w12.alloc (.cells #[.int .i64 (cv nd i 0), .int .i64 (cv nd i 1), .int .i64 (cv nd i 2), .int .i64 (cv nd i 3), .int .i64 (cv nd i 4)] 31)) [(⟨w.heap.size, 0, none⟩, .int .i64 gr), (⟨w.heap.size, 1, none⟩, .int .i64 hold), (⟨w.heap.size, 2, none⟩, .slice (some pd14) n nc), (pd14.add (i * 5), .int .i64 (cv nd i 0)), (⟨(pd14.add (i * 5)).block, (pd14.add (i * 5)).off + 1, none⟩, .int .i64 (cv nd i 1)), (⟨(pd14.add (i * 5)).block, (pd14.add (i * 5)).off + 2, none⟩, .int .i64 (cv nd i 2)), (⟨(pd14.add (i * 5)).block, (pd14.add (i * 5)).off + 3, none⟩, .int .i64 (cv nd i 3)), (⟨(pd14.add (i * 5)).block, (pd14.add (i * 5)).off + 4, none⟩, .int .i64 (cv nd i 4)), (⟨w12.heap.size, 0, none⟩, .int .i64 (cv nd i 0)), (⟨w12.heap.size, 1, none⟩, .int .i64 (cv nd i 1)), (⟨w12.heap.size, 2, none⟩, .int .i64 (cv nd i 2)), (⟨w12.heap.size, 3, none⟩, .int .i64 (cv nd i 3)), (⟨w12.heap.size, 4, none⟩, .int .i64 (cv nd i 4))] := hC.box (b := w12.heap.size) #[.int .i64 (cv nd i 0), .int .i64 (cv nd i 1), .int .i64 (cv nd i 2), .int .i64 (cv nd i 3), .int .i64 (cv nd i 4)] 31 rfl
    generalize w12.alloc (.cells #[.int .i64 (cv nd i 0), .int .i64 (cv nd i 1), .int .i64 (cv nd i 2), .int .i64 (cv nd i 3), .int .i64 (cv nd i 4)] 31) = w17 at *
    replace G := G.trans g
    replace hC := hC2
    clear hC2
    replace hI1 := hI1.thenGr g
    replace hI2 := hI2.thenGr g
    replace hnd := hnd.gr g
    replace hl := hl.gr g
    replace hIa := hIa.gr g
    replace hIr := hIr.gr g
    replace hS := hS.gr g
    clear g hb hbl
    refine Y.nil ?_
    replace F : Fr ac 73 [(0, .agg #[.int .i64 gr, .int .i64 hold, .slice (some pd14) n nc]), (1, .int .i64 t), (2, .slice la m lc), (3, .pointer (some ⟨w.heap.size, 0, none⟩)), (6, .slice (some pd11) t.toNat rc), (7, .slice (some ⟨w6.heap.size, 0, none⟩) n n), (8, .int .i64 0), (9, .pointer (some ⟨bp, 0, none⟩)), (11, .int .i64 (((runFrom hold gr.toNat n l (startS nd) t.toNat).rows)[k]?.getD 0)), (12, .int .i64 i), (13, .pointer (some ⟨w12.heap.size, 0, none⟩)), (22, .bool false), (34, .slice (some pd11) t.toNat rc), (35, .int .i64 t.toNat), (36, .int .i64 k), (37, .bool true), (41, .slice (some pd14) n nc), (42, .int .i64 n), (43, .int .i64 i), (44, .bool true)] := F.sub _
    refine X.thenN ?_
    refine Y.seq ?_
    refine Y.lit (by kernel_rfl) ?_
    refine Y.pval F (X.w0 rfl) rfl (X.move rfl (F.ev 11 (.int .i64 (((runFrom hold gr.toNat n l (startS nd) t.toNat).rows)[k]?.getD 0)))) ?_
    clear F ac
    intro ac F
    refine Y.pval F (X.w0 rfl) rfl (X.move rfl (F.ev 12 (.int .i64 i))) ?_
    clear F ac
    intro ac F
    refine Y.pval F (X.w0 rfl) rfl (X.binop rfl (F.ev 48 (.int .i64 (((runFrom hold gr.toNat n l (startS nd) t.toNat).rows)[k]?.getD 0))) (F.ev 49 (.int .i64 i)) (X.shrI Try.underlying3 rfl (by omega))) ?_
    clear F ac
    intro ac F
    refine Y.pval F (X.w0 rfl) rfl (X.binop rfl (F.ev 50 (.int .i64 (shrV (((runFrom hold gr.toNat n l (startS nd) t.toNat).rows)[k]?.getD 0 : Int) (i : Int)))) (X.kc (.int .i64 1) rfl) (X.andI Try.underlying3 rfl)) ?_
    clear F ac
    intro ac F
    refine Y.pval F (X.w0 rfl) rfl (X.binop rfl (F.ev 51 (.int .i64 (andV (shrV (((runFrom hold gr.toNat n l (startS nd) t.toNat).rows)[k]?.getD 0 : Int) (i : Int) : Int) 1))) (X.kc (.int .i64 1) rfl) (X.eqlI Try.underlying3 rfl)) ?_
    clear F ac
    intro ac F
    refine Y.nil ?_
    replace F : Fr ac 73 [(0, .agg #[.int .i64 gr, .int .i64 hold, .slice (some pd14) n nc]), (1, .int .i64 t), (2, .slice la m lc), (3, .pointer (some ⟨w.heap.size, 0, none⟩)), (6, .slice (some pd11) t.toNat rc), (7, .slice (some ⟨w6.heap.size, 0, none⟩) n n), (8, .int .i64 0), (9, .pointer (some ⟨bp, 0, none⟩)), (11, .int .i64 (((runFrom hold gr.toNat n l (startS nd) t.toNat).rows)[k]?.getD 0)), (12, .int .i64 i), (13, .pointer (some ⟨w12.heap.size, 0, none⟩)), (22, .bool false), (34, .slice (some pd11) t.toNat rc), (35, .int .i64 t.toNat), (36, .int .i64 k), (37, .bool true), (41, .slice (some pd14) n nc), (42, .int .i64 n), (43, .int .i64 i), (44, .bool true), (52, .bool ((andV (shrV (((runFrom hold gr.toNat n l (startS nd) t.toNat).rows)[k]?.getD 0 : Int) (i : Int) : Int) 1 : Int) == 1))] := F.sub _
    refine X.thenN ?_
    cases h18 : ((andV (shrV (((runFrom hold gr.toNat n l (startS nd) t.toNat).rows)[k]?.getD 0 : Int) (i : Int) : Int) 1 : Int) == 1) with
    | false =>
     try rw [h18] at F
     have h18p : ¬ (andV (shrV (((runFrom hold gr.toNat n l (startS nd) t.toNat).rows)[k]?.getD 0 : Int) (i : Int) : Int) 1 : Int) = 1 := by simpa using h18
     refine Y.condF (F.ev 52 (.bool false)) ?_
     replace hC : RCells w17 [(⟨w.heap.size, 0, none⟩, .int .i64 gr), (⟨w.heap.size, 1, none⟩, .int .i64 hold), (⟨w.heap.size, 2, none⟩, .slice (some pd14) n nc), (pd14.add (i * 5), .int .i64 (cv nd i 0)), (⟨(pd14.add (i * 5)).block, (pd14.add (i * 5)).off + 1, none⟩, .int .i64 (cv nd i 1)), (⟨(pd14.add (i * 5)).block, (pd14.add (i * 5)).off + 2, none⟩, .int .i64 (cv nd i 2)), (⟨(pd14.add (i * 5)).block, (pd14.add (i * 5)).off + 3, none⟩, .int .i64 (cv nd i 3)), (⟨(pd14.add (i * 5)).block, (pd14.add (i * 5)).off + 4, none⟩, .int .i64 (cv nd i 4)), (⟨w12.heap.size, 0, none⟩, .int .i64 (cv nd i 0)), (⟨w12.heap.size, 1, none⟩, .int .i64 (cv nd i 1)), (⟨w12.heap.size, 2, none⟩, .int .i64 (cv nd i 2)), (⟨w12.heap.size, 3, none⟩, .int .i64 (cv nd i 3)), (⟨w12.heap.size, 4, none⟩, .int .i64 (cv nd i 4)), (⟨w6.heap.size, i, none⟩, .int .i64 ((enP nd ((runFrom hold gr.toNat n l (startS nd) t.toNat).rows[k]?.getD 0) i (enS nd ((runFrom hold gr.toNat n l (startS nd) t.toNat).rows.take k))) i))] := hC.append ((RCells.cons (hS.cell (k := i) (by omega)) (RCells.nil _)))
     refine Y.regionS F [some (.slice (some ⟨w6.heap.size, 0, none⟩) n n), some (.int .i64 i), some (.pointer (some ⟨w6.heap.size, i, none⟩)), some (.int .i64 ((enP nd ((runFrom hold gr.toNat n l (startS nd) t.toNat).rows[k]?.getD 0) i (enS nd ((runFrom hold gr.toNat n l (startS nd) t.toNat).rows.take k))) i)), some (.pointer (some ⟨w12.heap.size, 2, none⟩)), some (.int .i64 (cv nd i 2)), some (.int .i64 (((enP nd ((runFrom hold gr.toNat n l (startS nd) t.toNat).rows[k]?.getD 0) i (enS nd ((runFrom hold gr.toNat n l (startS nd) t.toNat).rows.take k))) i : Int) + (cv nd i 2))), some (.pointer (some ⟨w6.heap.size, i, none⟩)), none] [] 8 (fun _ W => Only (fun x => x = w6.heap.size) w17 W ∧ OwnP W w6.heap.size (n) (EV ((fun z_ => if z_ = i then ((enP nd ((runFrom hold gr.toNat n l (startS nd) t.toNat).rows[k]?.getD 0) i (enS nd ((runFrom hold gr.toNat n l (startS nd) t.toNat).rows.take k))) i : Int) + (cv nd i 2) else (enP nd ((runFrom hold gr.toNat n l (startS nd) t.toNat).rows[k]?.getD 0) i (enS nd ((runFrom hold gr.toNat n l (startS nd) t.toNat).rows.take k))) z_)))) rfl ⟨by kernel_rfl, of_decide_eq_true (by kernel_rfl), by kernel_rfl, by kernel_rfl, by kernel_rfl⟩ (of_decide_eq_true (by kernel_rfl)) ⟨?_, ?_, ?_, ?_, ?_, ?_, ?_, ?_, ?_, trivial⟩ ?_
     ·intro ac done u W Sx hT
      have hs := Sx.no 8 (by kernel_rfl)
      have hR := hT.1 hs
      exact X.val (X.w0 rfl) rfl (X.move rfl (Sx.ev 7 (.slice (some ⟨w6.heap.size, 0, none⟩) n n))) (Y.RT.of hs rfl (hR.step (Gr.refl _) rfl))
     ·intro ac done u W Sx hT
      have hs := Sx.no 8 (by kernel_rfl)
      have hR := hT.1 hs
      exact X.val (X.w0 rfl) rfl (X.move rfl (Sx.ev 12 (.int .i64 i))) (Y.RT.of hs rfl (hR.step (Gr.refl _) rfl))
     ·intro ac done u W Sx hT
      have hs := Sx.no 8 (by kernel_rfl)
      have hR := hT.1 hs
      exact X.val (X.w0 rfl) rfl (X.index rfl (Sx.ev 61 (.slice (some ⟨w6.heap.size, 0, none⟩) n n)) (Sx.ev 62 (.int .i64 i)) (X.idx (k := i) Try.underlying34 (Try.siz3 _) (by omega) (by omega) (by rw [Nat.mul_one]; exact addr_add0 _ _))) (Y.RT.of hs rfl (hR.step (Gr.refl _) rfl))
     ·intro ac done u W Sx hT
      have hs := Sx.no 8 (by kernel_rfl)
      have hR := hT.1 hs
      have g : Gr w17 W := hR.1
      exact X.val (X.w0 rfl) rfl (X.load rfl (Sx.ev 63 (.pointer (some ⟨w6.heap.size, i, none⟩))) (X.ld1 (Try.agg3 _) ((hC.gr g).at 13 rfl))) (Y.RT.of hs rfl (hR.step (Gr.refl _) rfl))
     ·intro ac done u W Sx hT
      have hs := Sx.no 8 (by kernel_rfl)
      have hR := hT.1 hs
      exact X.val (X.w0 rfl) rfl (X.field rfl (Sx.ev 13 (.pointer (some ⟨w12.heap.size, 0, none⟩))) (X.fld Try.underlying31 rfl (Try.siz3 _) rfl rfl)) (Y.RT.of hs rfl (hR.step (Gr.refl _) rfl))
     ·intro ac done u W Sx hT
      have hs := Sx.no 8 (by kernel_rfl)
      have hR := hT.1 hs
      have g : Gr w17 W := hR.1
      exact X.val (X.w0 rfl) rfl (X.load rfl (Sx.ev 65 (.pointer (some ⟨w12.heap.size, 2, none⟩))) (X.ld1 (Try.agg3 _) ((hC.gr g).at 10 rfl))) (Y.RT.of hs rfl (hR.step (Gr.refl _) rfl))
     ·intro ac done u W Sx hT
      have hs := Sx.no 8 (by kernel_rfl)
      have hR := hT.1 hs
      exact X.val (X.w0 rfl) rfl (X.binop rfl (Sx.ev 64 (.int .i64 ((enP nd ((runFrom hold gr.toNat n l (startS nd) t.toNat).rows[k]?.getD 0) i (enS nd ((runFrom hold gr.toNat n l (startS nd) t.toNat).rows.take k))) i))) (Sx.ev 66 (.int .i64 (cv nd i 2))) (X.addI Try.underlying3 rfl (by omega) (by omega))) (Y.RT.of hs rfl (hR.step (Gr.refl _) rfl))
     ·intro ac done u W Sx hT
      have hs := Sx.no 8 (by kernel_rfl)
      have hR := hT.1 hs
      exact X.val (X.w0 rfl) rfl (X.index rfl (Sx.ev 61 (.slice (some ⟨w6.heap.size, 0, none⟩) n n)) (Sx.ev 62 (.int .i64 i)) (X.idx (k := i) Try.underlying34 (Try.siz3 _) (by omega) (by omega) (by rw [Nat.mul_one]; exact addr_add0 _ _))) (Y.RT.of hs rfl (hR.step (Gr.refl _) rfl))
     ·intro ac done u W Sx hT
      have hR := hT.1 Sx.nd
      have g : Gr w17 W := hR.1
      have hS2 := (hS.gr g).set (k := i) (.int .i64 (((enP nd ((runFrom hold gr.toNat n l (startS nd) t.toNat).rows[k]?.getD 0) i (enS nd ((runFrom hold gr.toNat n l (startS nd) t.toNat).rows.take k))) i : Int) + (cv nd i 2)))
      rw [EV_up] at hS2
      exact X.unit (X.w0 rfl) rfl (X.store rfl (Sx.ev 68 (.pointer (some ⟨w6.heap.size, i, none⟩))) (Sx.ev 67 (.int .i64 (((enP nd ((runFrom hold gr.toNat n l (startS nd) t.toNat).rows[k]?.getD 0) i (enS nd ((runFrom hold gr.toNat n l (startS nd) t.toNat).rows.take k))) i : Int) + (cv nd i 2)))) ((hS.gr g).st1 (Try.siz3 _) rfl rfl (by omega))) (Y.RT.fin ⟨(g.only _).trans (Y.set_only _ _ _ _), hS2⟩)
     rintro ac u w19 hs hd hl_ ho ⟨hon, hS2⟩
     replace F : Fr ac 73 [(0, .agg #[.int .i64 gr, .int .i64 hold, .slice (some pd14) n nc]), (1, .int .i64 t), (2, .slice la m lc), (3, .pointer (some ⟨w.heap.size, 0, none⟩)), (6, .slice (some pd11) t.toNat rc), (7, .slice (some ⟨w6.heap.size, 0, none⟩) n n), (8, .int .i64 0), (9, .pointer (some ⟨bp, 0, none⟩)), (11, .int .i64 (((runFrom hold gr.toNat n l (startS nd) t.toNat).rows)[k]?.getD 0)), (12, .int .i64 i), (13, .pointer (some ⟨w12.heap.size, 0, none⟩)), (22, .bool false), (34, .slice (some pd11) t.toNat rc), (35, .int .i64 t.toNat), (36, .int .i64 k), (37, .bool true), (41, .slice (some pd14) n nc), (42, .int .i64 n), (43, .int .i64 i), (44, .bool true), (52, .bool false)] := X.fr hs hd hl_ _ (by kernel_rfl)
     clear hs hd hl_ ho
     replace G := Y.Only.up G hon (by omega)
     replace hnd := hnd0.gr G
     replace hl := hl0.gr G
     replace hIa := hIa.onlyAt hon (fun ad e h => by have := hIab ad e; omega)
     replace hIr := hIr.onlyAt hon (fun ad e h => by have := hIrb ad e; omega)
     replace hC : RCells w19 [(⟨w.heap.size, 0, none⟩, .int .i64 gr), (⟨w.heap.size, 1, none⟩, .int .i64 hold), (⟨w.heap.size, 2, none⟩, .slice (some pd14) n nc), (⟨w12.heap.size, 0, none⟩, .int .i64 (cv nd i 0)), (⟨w12.heap.size, 1, none⟩, .int .i64 (cv nd i 1)), (⟨w12.heap.size, 2, none⟩, .int .i64 (cv nd i 2)), (⟨w12.heap.size, 3, none⟩, .int .i64 (cv nd i 3)), (⟨w12.heap.size, 4, none⟩, .int .i64 (cv nd i 4))] := (RCells.cons (hon.cell (hC.at 0 rfl) (by show ¬ w.heap.size = w6.heap.size; omega)) (RCells.cons (hon.cell (hC.at 1 rfl) (by show ¬ w.heap.size = w6.heap.size; omega)) (RCells.cons (hon.cell (hC.at 2 rfl) (by show ¬ w.heap.size = w6.heap.size; omega)) (RCells.cons (hon.cell (hC.at 8 rfl) (by show ¬ w12.heap.size = w6.heap.size; omega)) (RCells.cons (hon.cell (hC.at 9 rfl) (by show ¬ w12.heap.size = w6.heap.size; omega)) (RCells.cons (hon.cell (hC.at 10 rfl) (by show ¬ w12.heap.size = w6.heap.size; omega)) (RCells.cons (hon.cell (hC.at 11 rfl) (by show ¬ w12.heap.size = w6.heap.size; omega)) (RCells.cons (hon.cell (hC.at 12 rfl) (by show ¬ w12.heap.size = w6.heap.size; omega)) (RCells.nil _)))))))))
     replace hI1 := hI1.step hon (.inl rfl)
     replace hI2 := hI2.step hon (.inl rfl)
     replace hS : OwnP w19 w6.heap.size (n) (EV ((fun z_ => if z_ = i then ((enP nd ((runFrom hold gr.toNat n l (startS nd) t.toNat).rows[k]?.getD 0) i (enS nd ((runFrom hold gr.toNat n l (startS nd) t.toNat).rows.take k))) i : Int) + (cv nd i 2) else (enP nd ((runFrom hold gr.toNat n l (startS nd) t.toNat).rows[k]?.getD 0) i (enS nd ((runFrom hold gr.toNat n l (startS nd) t.toNat).rows.take k))) z_))) := hS2
     clear hS2 hon
     refine X.blockN ?_
     refine X.thenN ?_
     refine Y.lit (by kernel_rfl) ?_
     refine Y.pval F (X.w0 rfl) rfl (X.binop rfl (F.ev 43 (.int .i64 i)) (X.kc (.int .i64 1) rfl) (X.addI Try.underlying3 rfl (by omega) (by omega))) ?_
     clear F ac
     intro ac F
     refine Y.pval F (X.w0 rfl) rfl (X.move rfl (F.ev 69 (.int .i64 ((i : Int) + 1)))) ?_
     clear F ac
     intro ac F
     refine Y.nil ?_
     replace F : Fr ac 73 [(0, .agg #[.int .i64 gr, .int .i64 hold, .slice (some pd14) n nc]), (1, .int .i64 t), (2, .slice la m lc), (3, .pointer (some ⟨w.heap.size, 0, none⟩)), (6, .slice (some pd11) t.toNat rc), (7, .slice (some ⟨w6.heap.size, 0, none⟩) n n), (8, .int .i64 0), (9, .pointer (some ⟨bp, 0, none⟩)), (11, .int .i64 (((runFrom hold gr.toNat n l (startS nd) t.toNat).rows)[k]?.getD 0)), (12, .int .i64 i), (13, .pointer (some ⟨w12.heap.size, 0, none⟩)), (22, .bool false), (34, .slice (some pd11) t.toNat rc), (35, .int .i64 t.toNat), (36, .int .i64 k), (37, .bool true), (41, .slice (some pd14) n nc), (42, .int .i64 n), (43, .int .i64 ((i : Int) + 1)), (44, .bool true), (52, .bool false)] := F.sub _
     refine X.thenN ?_
     refine ⟨_, ?_, i + 1, rfl, by omega, hI2, (by rw [enP_succ nd _ i _ (by unfold en1 bitB; simp [h18])] at hS; exact hS), F.sub _⟩
     omega
    | true =>
     try rw [h18] at F
     have h18p : (andV (shrV (((runFrom hold gr.toNat n l (startS nd) t.toNat).rows)[k]?.getD 0 : Int) (i : Int) : Int) 1 : Int) = 1 := by simpa using h18
     refine Y.condT (F.ev 52 (.bool true)) ?_
     replace hC : RCells w17 [(⟨w.heap.size, 0, none⟩, .int .i64 gr), (⟨w.heap.size, 1, none⟩, .int .i64 hold), (⟨w.heap.size, 2, none⟩, .slice (some pd14) n nc), (pd14.add (i * 5), .int .i64 (cv nd i 0)), (⟨(pd14.add (i * 5)).block, (pd14.add (i * 5)).off + 1, none⟩, .int .i64 (cv nd i 1)), (⟨(pd14.add (i * 5)).block, (pd14.add (i * 5)).off + 2, none⟩, .int .i64 (cv nd i 2)), (⟨(pd14.add (i * 5)).block, (pd14.add (i * 5)).off + 3, none⟩, .int .i64 (cv nd i 3)), (⟨(pd14.add (i * 5)).block, (pd14.add (i * 5)).off + 4, none⟩, .int .i64 (cv nd i 4)), (⟨w12.heap.size, 0, none⟩, .int .i64 (cv nd i 0)), (⟨w12.heap.size, 1, none⟩, .int .i64 (cv nd i 1)), (⟨w12.heap.size, 2, none⟩, .int .i64 (cv nd i 2)), (⟨w12.heap.size, 3, none⟩, .int .i64 (cv nd i 3)), (⟨w12.heap.size, 4, none⟩, .int .i64 (cv nd i 4)), (⟨w6.heap.size, i, none⟩, .int .i64 ((enP nd ((runFrom hold gr.toNat n l (startS nd) t.toNat).rows[k]?.getD 0) i (enS nd ((runFrom hold gr.toNat n l (startS nd) t.toNat).rows.take k))) i))] := hC.append ((RCells.cons (hS.cell (k := i) (by omega)) (RCells.nil _)))
     refine Y.regionS F [some (.slice (some ⟨w6.heap.size, 0, none⟩) n n), some (.int .i64 i), some (.pointer (some ⟨w6.heap.size, i, none⟩)), some (.int .i64 ((enP nd ((runFrom hold gr.toNat n l (startS nd) t.toNat).rows[k]?.getD 0) i (enS nd ((runFrom hold gr.toNat n l (startS nd) t.toNat).rows.take k))) i)), some (.pointer (some ⟨w12.heap.size, 1, none⟩)), some (.int .i64 (cv nd i 1)), some (.int .i64 (((enP nd ((runFrom hold gr.toNat n l (startS nd) t.toNat).rows[k]?.getD 0) i (enS nd ((runFrom hold gr.toNat n l (startS nd) t.toNat).rows.take k))) i : Int) + (cv nd i 1))), some (.pointer (some ⟨w6.heap.size, i, none⟩)), none] [] 8 (fun _ W => Only (fun x => x = w6.heap.size) w17 W ∧ OwnP W w6.heap.size (n) (EV ((fun z_ => if z_ = i then ((enP nd ((runFrom hold gr.toNat n l (startS nd) t.toNat).rows[k]?.getD 0) i (enS nd ((runFrom hold gr.toNat n l (startS nd) t.toNat).rows.take k))) i : Int) + (cv nd i 1) else (enP nd ((runFrom hold gr.toNat n l (startS nd) t.toNat).rows[k]?.getD 0) i (enS nd ((runFrom hold gr.toNat n l (startS nd) t.toNat).rows.take k))) z_)))) rfl ⟨by kernel_rfl, of_decide_eq_true (by kernel_rfl), by kernel_rfl, by kernel_rfl, by kernel_rfl⟩ (of_decide_eq_true (by kernel_rfl)) ⟨?_, ?_, ?_, ?_, ?_, ?_, ?_, ?_, ?_, trivial⟩ ?_
     ·intro ac done u W Sx hT
      have hs := Sx.no 8 (by kernel_rfl)
      have hR := hT.1 hs
      exact X.val (X.w0 rfl) rfl (X.move rfl (Sx.ev 7 (.slice (some ⟨w6.heap.size, 0, none⟩) n n))) (Y.RT.of hs rfl (hR.step (Gr.refl _) rfl))
     ·intro ac done u W Sx hT
      have hs := Sx.no 8 (by kernel_rfl)
      have hR := hT.1 hs
      exact X.val (X.w0 rfl) rfl (X.move rfl (Sx.ev 12 (.int .i64 i))) (Y.RT.of hs rfl (hR.step (Gr.refl _) rfl))
     ·intro ac done u W Sx hT
      have hs := Sx.no 8 (by kernel_rfl)
      have hR := hT.1 hs
      exact X.val (X.w0 rfl) rfl (X.index rfl (Sx.ev 53 (.slice (some ⟨w6.heap.size, 0, none⟩) n n)) (Sx.ev 54 (.int .i64 i)) (X.idx (k := i) Try.underlying34 (Try.siz3 _) (by omega) (by omega) (by rw [Nat.mul_one]; exact addr_add0 _ _))) (Y.RT.of hs rfl (hR.step (Gr.refl _) rfl))
     ·intro ac done u W Sx hT
      have hs := Sx.no 8 (by kernel_rfl)
      have hR := hT.1 hs
      have g : Gr w17 W := hR.1
      exact X.val (X.w0 rfl) rfl (X.load rfl (Sx.ev 55 (.pointer (some ⟨w6.heap.size, i, none⟩))) (X.ld1 (Try.agg3 _) ((hC.gr g).at 13 rfl))) (Y.RT.of hs rfl (hR.step (Gr.refl _) rfl))
     ·intro ac done u W Sx hT
      have hs := Sx.no 8 (by kernel_rfl)
      have hR := hT.1 hs
      exact X.val (X.w0 rfl) rfl (X.field rfl (Sx.ev 13 (.pointer (some ⟨w12.heap.size, 0, none⟩))) (X.fld Try.underlying31 rfl (Try.siz3 _) rfl rfl)) (Y.RT.of hs rfl (hR.step (Gr.refl _) rfl))
     ·intro ac done u W Sx hT
      have hs := Sx.no 8 (by kernel_rfl)
      have hR := hT.1 hs
      have g : Gr w17 W := hR.1
      exact X.val (X.w0 rfl) rfl (X.load rfl (Sx.ev 57 (.pointer (some ⟨w12.heap.size, 1, none⟩))) (X.ld1 (Try.agg3 _) ((hC.gr g).at 9 rfl))) (Y.RT.of hs rfl (hR.step (Gr.refl _) rfl))
     ·intro ac done u W Sx hT
      have hs := Sx.no 8 (by kernel_rfl)
      have hR := hT.1 hs
      exact X.val (X.w0 rfl) rfl (X.binop rfl (Sx.ev 56 (.int .i64 ((enP nd ((runFrom hold gr.toNat n l (startS nd) t.toNat).rows[k]?.getD 0) i (enS nd ((runFrom hold gr.toNat n l (startS nd) t.toNat).rows.take k))) i))) (Sx.ev 58 (.int .i64 (cv nd i 1))) (X.addI Try.underlying3 rfl (by omega) (by omega))) (Y.RT.of hs rfl (hR.step (Gr.refl _) rfl))
     ·intro ac done u W Sx hT
      have hs := Sx.no 8 (by kernel_rfl)
      have hR := hT.1 hs
      exact X.val (X.w0 rfl) rfl (X.index rfl (Sx.ev 53 (.slice (some ⟨w6.heap.size, 0, none⟩) n n)) (Sx.ev 54 (.int .i64 i)) (X.idx (k := i) Try.underlying34 (Try.siz3 _) (by omega) (by omega) (by rw [Nat.mul_one]; exact addr_add0 _ _))) (Y.RT.of hs rfl (hR.step (Gr.refl _) rfl))
     ·intro ac done u W Sx hT
      have hR := hT.1 Sx.nd
      have g : Gr w17 W := hR.1
      have hS2 := (hS.gr g).set (k := i) (.int .i64 (((enP nd ((runFrom hold gr.toNat n l (startS nd) t.toNat).rows[k]?.getD 0) i (enS nd ((runFrom hold gr.toNat n l (startS nd) t.toNat).rows.take k))) i : Int) + (cv nd i 1)))
      rw [EV_up] at hS2
      exact X.unit (X.w0 rfl) rfl (X.store rfl (Sx.ev 60 (.pointer (some ⟨w6.heap.size, i, none⟩))) (Sx.ev 59 (.int .i64 (((enP nd ((runFrom hold gr.toNat n l (startS nd) t.toNat).rows[k]?.getD 0) i (enS nd ((runFrom hold gr.toNat n l (startS nd) t.toNat).rows.take k))) i : Int) + (cv nd i 1)))) ((hS.gr g).st1 (Try.siz3 _) rfl rfl (by omega))) (Y.RT.fin ⟨(g.only _).trans (Y.set_only _ _ _ _), hS2⟩)
     rintro ac u w20 hs hd hl_ ho ⟨hon, hS2⟩
     replace F : Fr ac 73 [(0, .agg #[.int .i64 gr, .int .i64 hold, .slice (some pd14) n nc]), (1, .int .i64 t), (2, .slice la m lc), (3, .pointer (some ⟨w.heap.size, 0, none⟩)), (6, .slice (some pd11) t.toNat rc), (7, .slice (some ⟨w6.heap.size, 0, none⟩) n n), (8, .int .i64 0), (9, .pointer (some ⟨bp, 0, none⟩)), (11, .int .i64 (((runFrom hold gr.toNat n l (startS nd) t.toNat).rows)[k]?.getD 0)), (12, .int .i64 i), (13, .pointer (some ⟨w12.heap.size, 0, none⟩)), (22, .bool false), (34, .slice (some pd11) t.toNat rc), (35, .int .i64 t.toNat), (36, .int .i64 k), (37, .bool true), (41, .slice (some pd14) n nc), (42, .int .i64 n), (43, .int .i64 i), (44, .bool true), (52, .bool true)] := X.fr hs hd hl_ _ (by kernel_rfl)
     clear hs hd hl_ ho
     replace G := Y.Only.up G hon (by omega)
     replace hnd := hnd0.gr G
     replace hl := hl0.gr G
     replace hIa := hIa.onlyAt hon (fun ad e h => by have := hIab ad e; omega)
     replace hIr := hIr.onlyAt hon (fun ad e h => by have := hIrb ad e; omega)
     replace hC : RCells w20 [(⟨w.heap.size, 0, none⟩, .int .i64 gr), (⟨w.heap.size, 1, none⟩, .int .i64 hold), (⟨w.heap.size, 2, none⟩, .slice (some pd14) n nc), (⟨w12.heap.size, 0, none⟩, .int .i64 (cv nd i 0)), (⟨w12.heap.size, 1, none⟩, .int .i64 (cv nd i 1)), (⟨w12.heap.size, 2, none⟩, .int .i64 (cv nd i 2)), (⟨w12.heap.size, 3, none⟩, .int .i64 (cv nd i 3)), (⟨w12.heap.size, 4, none⟩, .int .i64 (cv nd i 4))] := (RCells.cons (hon.cell (hC.at 0 rfl) (by show ¬ w.heap.size = w6.heap.size; omega)) (RCells.cons (hon.cell (hC.at 1 rfl) (by show ¬ w.heap.size = w6.heap.size; omega)) (RCells.cons (hon.cell (hC.at 2 rfl) (by show ¬ w.heap.size = w6.heap.size; omega)) (RCells.cons (hon.cell (hC.at 8 rfl) (by show ¬ w12.heap.size = w6.heap.size; omega)) (RCells.cons (hon.cell (hC.at 9 rfl) (by show ¬ w12.heap.size = w6.heap.size; omega)) (RCells.cons (hon.cell (hC.at 10 rfl) (by show ¬ w12.heap.size = w6.heap.size; omega)) (RCells.cons (hon.cell (hC.at 11 rfl) (by show ¬ w12.heap.size = w6.heap.size; omega)) (RCells.cons (hon.cell (hC.at 12 rfl) (by show ¬ w12.heap.size = w6.heap.size; omega)) (RCells.nil _)))))))))
     replace hI1 := hI1.step hon (.inl rfl)
     replace hI2 := hI2.step hon (.inl rfl)
     replace hS : OwnP w20 w6.heap.size (n) (EV ((fun z_ => if z_ = i then ((enP nd ((runFrom hold gr.toNat n l (startS nd) t.toNat).rows[k]?.getD 0) i (enS nd ((runFrom hold gr.toNat n l (startS nd) t.toNat).rows.take k))) i : Int) + (cv nd i 1) else (enP nd ((runFrom hold gr.toNat n l (startS nd) t.toNat).rows[k]?.getD 0) i (enS nd ((runFrom hold gr.toNat n l (startS nd) t.toNat).rows.take k))) z_))) := hS2
     clear hS2 hon
     refine X.blockN ?_
     refine X.thenN ?_
     refine Y.lit (by kernel_rfl) ?_
     refine Y.pval F (X.w0 rfl) rfl (X.binop rfl (F.ev 43 (.int .i64 i)) (X.kc (.int .i64 1) rfl) (X.addI Try.underlying3 rfl (by omega) (by omega))) ?_
     clear F ac
     intro ac F
     refine Y.pval F (X.w0 rfl) rfl (X.move rfl (F.ev 69 (.int .i64 ((i : Int) + 1)))) ?_
     clear F ac
     intro ac F
     refine Y.nil ?_
     replace F : Fr ac 73 [(0, .agg #[.int .i64 gr, .int .i64 hold, .slice (some pd14) n nc]), (1, .int .i64 t), (2, .slice la m lc), (3, .pointer (some ⟨w.heap.size, 0, none⟩)), (6, .slice (some pd11) t.toNat rc), (7, .slice (some ⟨w6.heap.size, 0, none⟩) n n), (8, .int .i64 0), (9, .pointer (some ⟨bp, 0, none⟩)), (11, .int .i64 (((runFrom hold gr.toNat n l (startS nd) t.toNat).rows)[k]?.getD 0)), (12, .int .i64 i), (13, .pointer (some ⟨w12.heap.size, 0, none⟩)), (22, .bool false), (34, .slice (some pd11) t.toNat rc), (35, .int .i64 t.toNat), (36, .int .i64 k), (37, .bool true), (41, .slice (some pd14) n nc), (42, .int .i64 n), (43, .int .i64 ((i : Int) + 1)), (44, .bool true), (52, .bool true)] := F.sub _
     refine X.thenN ?_
     refine ⟨_, ?_, i + 1, rfl, by omega, hI2, (by rw [enP_succ nd _ i _ (by unfold en1 bitB; simp [h18])] at hS; exact hS), F.sub _⟩
     omega
 ·have hE := hE
  refine Y.pcall F (X.w0 rfl) rfl (X.enter (F := 44) rfl (X.kc (.func (.func 44) #[] #[]) rfl) (X.a3 (F.ev 15 (.agg #[.int .i64 gr, .int .i64 hold, .slice na n nc])) (F.ev 16 (.int .i64 t)) (F.ev 17 (.slice la m lc))) (enters_of Try.func44 (by kernel_rfl) rfl _)) (begin_any na la n nc m lc gr hold t nd l w3 hnd hl) ?_
  clear F ac
  rintro e w21 ⟨h1, g, -⟩
  obtain rfl := h1 hE
  refine ⟨_, rfl, ?_⟩
  intro ac F
  replace G := G.trans g
  replace hC := hC.gr g
  replace hnd := hnd.gr g
  replace hl := hl.gr g
  clear g
  refine Y.pval F (X.w0 rfl) rfl (X.move rfl (F.ev 18 (.tuple #[.pointer none, .int .i64 (playE gr hold nd t l)]))) ?_
  clear F ac
  intro ac F
  refine Y.pval F (X.w0 rfl) rfl (X.extract rfl (F.ev 14 (.tuple #[.pointer none, .int .i64 (playE gr hold nd t l)])) rfl) ?_
  clear F ac
  intro ac F
  refine Y.pval F (X.w0 rfl) rfl (X.extract rfl (F.ev 14 (.tuple #[.pointer none, .int .i64 (playE gr hold nd t l)])) rfl) ?_
  clear F ac
  intro ac F
  refine Y.pval F (X.w0 rfl) rfl (X.assign rfl (F.ev 19 (.pointer none))) ?_
  clear F ac
  intro ac F
  refine Y.pval F (X.w0 rfl) rfl (X.assign rfl (F.ev 20 (.int .i64 (playE gr hold nd t l)))) ?_
  clear F ac
  intro ac F
  refine Y.nil ?_
  replace F : Fr ac 73 [(0, .agg #[.int .i64 gr, .int .i64 hold, .slice na n nc]), (1, .int .i64 t), (2, .slice la m lc), (3, .pointer (some ⟨w.heap.size, 0, none⟩)), (6, .slice none 0 0), (7, .slice none 0 0), (8, .int .i64 (playE gr hold nd t l)), (9, .pointer none)] := F.sub _
  refine X.thenN ?_
  refine Y.seq ?_
  refine Y.seq ?_
  refine Y.lit (by kernel_rfl) ?_
  refine Y.pval F (X.w0 rfl) rfl (X.move rfl (F.ev 8 (.int .i64 (playE gr hold nd t l)))) ?_
  clear F ac
  intro ac F
  refine Y.pval F (X.w0 rfl) rfl (X.binop rfl (F.ev 21 (.int .i64 (playE gr hold nd t l))) (X.kc (.int .i64 0) rfl) (X.neqI Try.underlying26 rfl)) ?_
  clear F ac
  intro ac F
  refine Y.nil ?_
  replace F : Fr ac 73 [(0, .agg #[.int .i64 gr, .int .i64 hold, .slice na n nc]), (1, .int .i64 t), (2, .slice la m lc), (3, .pointer (some ⟨w.heap.size, 0, none⟩)), (6, .slice none 0 0), (7, .slice none 0 0), (8, .int .i64 (playE gr hold nd t l)), (9, .pointer none), (22, .bool ((playE gr hold nd t l : Int) != 0))] := F.sub _
  refine X.thenN ?_
  have h23 : ((playE gr hold nd t l : Int) != 0) = true := by simpa using hE
  try rw [h23] at F
  refine Y.condT (F.ev 22 (.bool true)) ?_
  refine Y.seq ?_
  refine Y.lit (by kernel_rfl) ?_
  refine Y.pval F (X.w0 rfl) rfl (X.move rfl (F.ev 8 (.int .i64 (playE gr hold nd t l)))) ?_
  clear F ac
  intro ac F
  refine Y.pval F (X.w0 rfl) rfl (X.assign rfl (X.kc (.slice none 0 0) rfl)) ?_
  clear F ac
  intro ac F
  refine Y.pval F (X.w0 rfl) rfl (X.assign rfl (X.kc (.slice none 0 0) rfl)) ?_
  clear F ac
  intro ac F
  refine Y.pval F (X.w0 rfl) rfl (X.assign rfl (F.ev 23 (.int .i64 (playE gr hold nd t l)))) ?_
  clear F ac
  intro ac F
  refine Y.nil ?_
  replace F : Fr ac 73 [(0, .agg #[.int .i64 gr, .int .i64 hold, .slice na n nc]), (1, .int .i64 t), (2, .slice la m lc), (3, .pointer (some ⟨w.heap.size, 0, none⟩)), (6, .slice none 0 0), (7, .slice none 0 0), (8, .int .i64 (playE gr hold nd t l)), (9, .pointer none), (22, .bool true)] := F.sub _
  refine X.thenN ?_
  refine Y.ret ?_
  refine X.thenR ?_
  exact Y.ret0 (v := .tuple #[.slice none 0 0, .slice none 0 0, .int .i64 (playE gr hold nd t l)]) F (Y.rs3 F rfl (by kernel_rfl) (by kernel_rfl) (by kernel_rfl)) ⟨none, 0, 0, none, 0, 0, rfl, by unfold playRows; rw [if_neg hE]; exact Ints.nil _, by unfold playEn; rw [if_neg hE]; exact Ints.nil _, G⟩
end
section
set_option linter.unusedVariables false
open Go.RowKit
theorem stc {P : Program} {b n : Nat} : ∀ (rest : List Value) (i : Nat) (W : World) (val : Nat → Value), OwnP W b n val → i + rest.length ≤ n → (rest.all fun v => v.oneCell') = true →
    ∃ W', (storeCells ⟨b, 0, none⟩ rest i).run P W = .ok () W' ∧ OwnP W' b n (fun k => if i ≤ k ∧ k < i + rest.length then rest.getD (k - i) undef else val k) ∧ Only (fun z => z = b) W W' := by
  intro rest
  induction rest with
  | nil => intro i W val h _ _; exact ⟨W, by simp [storeCells, go_sem], h.congr (fun k _ => by rw [if_neg (by simp only [List.length_nil]; omega)]), Only.refl _ _⟩
  | cons v rest ih =>
    intro i W val h hi h1
    simp only [List.all_cons, Bool.and_eq_true, List.length_cons] at h1 hi
    have hs := run_store P W ⟨b, i, none⟩ v .plain h1.1
    rw [h.cell (k := i) (by omega), h.fz] at hs
    simp only [Bool.false_eq_true, if_false] at hs
    obtain ⟨W', hr, hO, hon⟩ := ih (i + 1) _ _ (h.set (k := i) v) (by omega) h1.2
    refine ⟨W', ?_, hO.congr (fun k hk => ?_), (Y.set_only _ _ _ _).trans hon⟩
    · have e : (⟨b, 0, none⟩ : Addr).add i = ⟨b, i, none⟩ := addr_add0 _ _
      simp [storeCells, e, hs, go_sem]
      exact hr
    · simp only [List.length_cons]
      by_cases e : k = i
      · subst e; rw [if_neg (by omega), if_pos rfl, if_pos (by omega)]; simp
      · by_cases e2 : i + 1 ≤ k ∧ k < i + 1 + rest.length
        · rw [if_pos e2, if_pos (by omega), show k - i = (k - (i + 1)) + 1 by omega]; simp
        · rw [if_neg e2, if_neg e, if_neg (by omega)]
theorem OwnP.stL {P : Program} {W : World} {b n : Nat} {val : Nat → Value} {t : TypeId} (vs : List Value) (h : OwnP W b n val) (hn : vs.length = n) (hS : ∀ W, (sizeOf t).run P W = .ok vs.length W) (h1 : (vs.all fun v => v.oneCell') = true) :
    ∃ W', (Instr.storeAt t (.pointer (some ⟨b, 0, none⟩)) (.agg vs.toArray)).run P W = .ok () W' ∧ OwnP W' b n (VL vs) ∧ Only (fun z => z = b) W W' := by
  obtain ⟨W', hr, hO, hon⟩ := stc (P := P) vs 0 W val h (by omega) h1
  refine ⟨W', ?_, hO.congr (fun k hk => ?_), hon⟩
  · simp [Instr.storeAt, storeVar, Instr.sureAddr, hS, Value.cells, go_sem]
    exact hr
  · rw [if_pos (by omega)]; rfl
theorem stAt_own {W : World} {b n k : Nat} {L : List (List Int)} (h : OwnP W b (n * k) (fun j => .int .i64 (cv L (j / k) (j % k)))) (hl : L.length = n) (hk : ∀ j, j < n → (L[j]?.getD []).length = k) (hn : n * k * 8 ≤ 140737488351232) : StAt W k (some ⟨b, 0, none⟩) n L :=
  ⟨hl, hn, fun j hj => ⟨_, rfl, h.lt, hk j hj, fun r hr => by
    rw [addr_add0, Y.addr_add]
    have h1 : (j * k + r) / k = j := by
      rw [Nat.mul_comm, Nat.mul_add_div (by omega), Nat.div_eq_of_lt hr, Nat.add_zero]
    have h2 : (j * k + r) % k = r := by
      rw [Nat.mul_comm, Nat.mul_add_mod, Nat.mod_eq_of_lt hr]
    have h3 : j * k + r < n * k := by
      have := Nat.mul_le_mul_right k (show j + 1 ≤ n by omega)
      rw [Nat.add_mul, Nat.one_mul] at this
      omega
    rw [h.cell h3]
    show some (Value.int .i64 (cv L ((j * k + r) / k) ((j * k + r) % k))) = _
    rw [h1, h2]; rfl⟩⟩
def exN : List (List Int) := [[1, 10, 1, 1, 5], [3, 20, 2, 2, 10], [2, 30, 0, 0, 1]]
def exL : List (List Int) := [[1, 1, 1, 0], [2, 2, 1, 0]]
set_option maxRecDepth 100000 in
theorem ex_e : playE 2 3 exN 6 exL = 0 := by decide +kernel
set_option maxRecDepth 100000 in
theorem ex_t : ticksE 2 3 exN 8 = 0 := by decide +kernel
set_option maxRecDepth 100000 in
theorem ex_p : parkV 2 3 exN 8 = 186 := by decide +kernel
set_option maxRecDepth 100000 in
theorem ex_pr : playRows 2 3 exN 6 exL = [0, 3, 3, 3, 0, 0] := by decide +kernel
set_option maxRecDepth 100000 in
theorem ex_en : playEn 2 3 exN 6 exL = [33, 66, 0] := by decide +kernel
theorem exN_at {W : World} {b : Nat} {t : TypeId} (h : W.heap[b]? = some (.cells #[.int .i64 1, .int .i64 10, .int .i64 1, .int .i64 1, .int .i64 5, .int .i64 3, .int .i64 20, .int .i64 2, .int .i64 2, .int .i64 10, .int .i64 2, .int .i64 30, .int .i64 0, .int .i64 0, .int .i64 1] t)) : StAt W 5 (some ⟨b, 0, none⟩) 3 exN :=
  stAt_own ⟨_, _, h, by simp, fun k hk => by
    match k, hk with
    | 0, _ | 1, _ | 2, _ | 3, _ | 4, _ | 5, _ | 6, _ | 7, _ | 8, _ | 9, _ | 10, _ | 11, _ | 12, _ | 13, _ | 14, _ => rfl⟩ rfl (fun j hj => by
    match j, hj with
    | 0, _ | 1, _ | 2, _ => rfl) (by decide)
theorem exL_at {W : World} {b : Nat} {t : TypeId} (h : W.heap[b]? = some (.cells #[.int .i64 1, .int .i64 1, .int .i64 1, .int .i64 0, .int .i64 2, .int .i64 2, .int .i64 1, .int .i64 0] t)) : StAt W 4 (some ⟨b, 0, none⟩) 2 exL :=
  stAt_own ⟨_, _, h, by simp, fun k hk => by
    match k, hk with
    | 0, _ | 1, _ | 2, _ | 3, _ | 4, _ | 5, _ | 6, _ | 7, _ => rfl⟩ rfl (fun j hj => by
    match j, hj with
    | 0, _ | 1, _ => rfl) (by decide)
theorem Try.exb1 (W : World) : (Instr.build 31 #[(0, .int .i64 1), (1, .int .i64 10), (2, .int .i64 1), (3, .int .i64 1), (4, .int .i64 5)]).run Try.prog W = .ok (.agg #[.int .i64 1, .int .i64 10, .int .i64 1, .int .i64 1, .int .i64 5]) W := by kernel_rfl
theorem Try.exb2 (W : World) : (Instr.build 31 #[(0, .int .i64 3), (1, .int .i64 20), (2, .int .i64 2), (3, .int .i64 2), (4, .int .i64 10)]).run Try.prog W = .ok (.agg #[.int .i64 3, .int .i64 20, .int .i64 2, .int .i64 2, .int .i64 10]) W := by kernel_rfl
theorem Try.exb3 (W : World) : (Instr.build 31 #[(0, .int .i64 2), (1, .int .i64 30), (4, .int .i64 1)]).run Try.prog W = .ok (.agg #[.int .i64 2, .int .i64 30, .int .i64 0, .int .i64 0, .int .i64 1]) W := by kernel_rfl
theorem Try.exs (W : World) : (Instr.buildSlice 22 3 #[(0, .agg #[.int .i64 1, .int .i64 10, .int .i64 1, .int .i64 1, .int .i64 5]), (1, .agg #[.int .i64 3, .int .i64 20, .int .i64 2, .int .i64 2, .int .i64 10]), (2, .agg #[.int .i64 2, .int .i64 30, .int .i64 0, .int .i64 0, .int .i64 1])]).run Try.prog W = .ok (.slice (some ⟨W.heap.size, 0, none⟩) 3 3) (W.alloc (.cells #[.int .i64 1, .int .i64 10, .int .i64 1, .int .i64 1, .int .i64 5, .int .i64 3, .int .i64 20, .int .i64 2, .int .i64 2, .int .i64 10, .int .i64 2, .int .i64 30, .int .i64 0, .int .i64 0, .int .i64 1] 31)) := by kernel_rfl
theorem Try.exc (a : Option Addr) (n c : Nat) (g h : Int) (W : World) : (Instr.build 24 #[(0, .int .i64 g), (1, .int .i64 h), (2, .slice a n c)]).run Try.prog W = .ok (.agg #[.int .i64 g, .int .i64 h, .slice a n c]) W := by kernel_rfl
theorem Try.exn1 (W : World) : (Instr.build 33 #[(0, .int .i64 1), (1, .int .i64 1), (2, .int .i64 1)]).run Try.prog W = .ok (.agg #[.int .i64 1, .int .i64 1, .int .i64 1, .int .i64 0]) W := by kernel_rfl
theorem Try.exn2 (W : World) : (Instr.build 33 #[(0, .int .i64 2), (1, .int .i64 2), (2, .int .i64 1)]).run Try.prog W = .ok (.agg #[.int .i64 2, .int .i64 2, .int .i64 1, .int .i64 0]) W := by kernel_rfl
theorem Try.exm (W : World) : (Instr.buildSlice 25 2 #[(0, .agg #[.int .i64 1, .int .i64 1, .int .i64 1, .int .i64 0]), (1, .agg #[.int .i64 2, .int .i64 2, .int .i64 1, .int .i64 0])]).run Try.prog W = .ok (.slice (some ⟨W.heap.size, 0, none⟩) 2 2) (W.alloc (.cells #[.int .i64 1, .int .i64 1, .int .i64 1, .int .i64 0, .int .i64 2, .int .i64 2, .int .i64 1, .int .i64 0] 33)) := by kernel_rfl
theorem Try.exr (W : World) : (Instr.buildSlice 34 6 #[(0, .int .i64 0), (1, .int .i64 3), (2, .int .i64 3), (3, .int .i64 3), (4, .int .i64 0), (5, .int .i64 0)]).run Try.prog W = .ok (.slice (some ⟨W.heap.size, 0, none⟩) 6 6) (W.alloc (.cells #[.int .i64 0, .int .i64 3, .int .i64 3, .int .i64 3, .int .i64 0, .int .i64 0] 3)) := by kernel_rfl
theorem Try.exq (W : World) : (Instr.buildSlice 34 3 #[(0, .int .i64 33), (1, .int .i64 66), (2, .int .i64 0)]).run Try.prog W = .ok (.slice (some ⟨W.heap.size, 0, none⟩) 3 3) (W.alloc (.cells #[.int .i64 33, .int .i64 66, .int .i64 0] 3)) := by kernel_rfl
theorem exr_at {W : World} {b : Nat} {t : TypeId} (h : W.heap[b]? = some (.cells #[.int .i64 0, .int .i64 3, .int .i64 3, .int .i64 3, .int .i64 0, .int .i64 0] t)) : Ints W (some ⟨b, 0, none⟩) 6 [0, 3, 3, 3, 0, 0] :=
  ⟨rfl, by decide, fun j hj => ⟨_, rfl, (Array.getElem?_eq_some_iff.1 h).1, by
    rw [addr_add0]
    exact cell_at h (by
      match j, hj with
      | 0, _ | 1, _ | 2, _ | 3, _ | 4, _ | 5, _ => rfl)⟩⟩
theorem exq_at {W : World} {b : Nat} {t : TypeId} (h : W.heap[b]? = some (.cells #[.int .i64 33, .int .i64 66, .int .i64 0] t)) : Ints W (some ⟨b, 0, none⟩) 3 [33, 66, 0] :=
  ⟨rfl, by decide, fun j hj => ⟨_, rfl, (Array.getElem?_eq_some_iff.1 h).1, by
    rw [addr_add0]
    exact cell_at h (by
      match j, hj with
      | 0, _ | 1, _ | 2, _ => rfl)⟩⟩
theorem Y.rc13 {P : Program} {A : Act} {W : World} {n : Nat} {L : List (Nat × Value)} {D : List Deferred} {fn : Func} {s b : Nat} {t : TypeId} {x y z : Value} (F : Fr A n L D) (hr : fn.results = #[.cell s t]) (hA : (isAgg t).run P W = .ok true W) (hS : (sizeOf t).run P W = .ok 3 W) (hp : lookS L s = some (.pointer (some ⟨b, 0, none⟩))) (h : OwnP W b 3 (VL [x, y, z])) : (results fn A.tmps).run P W = .ok (.agg #[x, y, z]) W := by
  have e := F.look hp
  have hl : W.cell? ⟨b, 0, none⟩ = some x := h.cell (k := 0) (by decide)
  have hl1 : W.cell? ⟨b, 1, none⟩ = some y := h.cell (k := 1) (by decide)
  have hl2 : W.cell? ⟨b, 2, none⟩ = some z := h.cell (k := 2) (by decide)
  simp [results, hr, e, asAddr, hl, hl1, hl2, hA, hS, go_sem]
theorem same_no {xs ys : List Int} {j : Nat} (hj : j < xs.length) (hl : xs.length = ys.length) (h : ¬ xs[j]?.getD 0 = ys[j]?.getD 0) : decide (xs = ys) = false := by
  simp only [decide_eq_false_iff_not]
  intro e; subst e; exact h rfl
theorem same_yes {xs ys : List Int} (hl : xs.length = ys.length) (h : ∀ j, j < xs.length → xs[j]?.getD 0 = ys[j]?.getD 0) : decide (xs = ys) = true := by
  simp only [decide_eq_true_eq]
  apply List.ext_getElem hl
  intro i h1 h2
  have := h i h1
  rw [List.getElem?_eq_getElem h1, List.getElem?_eq_getElem h2] at this
  simpa using this
end
section
set_option linter.unusedVariables false
open Go.RowKit
end
section
set_option linter.unusedVariables false
open Go.RowKit
theorem addr_own (g j : Nat) : (⟨g, 0, none⟩ : Addr).add (j * 1) = ⟨g, j, none⟩ := by rw [Nat.mul_one]; exact addr_add0 g j
end
section
open Go.RowKit

set_option maxRecDepth 100000 in
set_option maxHeartbeats 400000 in
theorem gain_any (gq aw za : Int) (p : Nd) (x a b : Int) (K : Nat) (w : World) (hp : NdOk p) (hx : 0 ≤ x ∧ x ≤ p.bu) (ha : 0 ≤ a) (hb : b + 1 = a + K) (hb2 : b ≤ 10000) :
  Calls Try.prog 87 #[.agg #[.int .i64 gq, .int .i64 aw, .int .i64 za, .int .i64 p.bu, .int .i64 p.re], .int .i64 x, .int .i64 a, .int .i64 b] w fun e w' => e = .returned (.int .i64 (gnV p x a K)) ∧ Gr w w' := by
 have G := Gr.refl w
 have hr0 := hp.r0
 have hr1 := hp.r1
 have hb0_ := hp.b0
 have hb1_ := hp.b1
 refine Y.calls 31 Try.func87 rfl rfl ?_
 intro ac F0
 have F : Fr ac 31 [(0, .agg #[.int .i64 gq, .int .i64 aw, .int .i64 za, .int .i64 p.bu, .int .i64 p.re]), (1, .int .i64 x), (2, .int .i64 a), (3, .int .i64 b)] := F0.sub _
 clear F0
 refine Y.seq ?_
 refine Y.lit (by kernel_rfl) ?_
 refine Y.pval F (X.w0 rfl) rfl (X.box rfl (F.ev 0 (.agg #[.int .i64 gq, .int .i64 aw, .int .i64 za, .int .i64 p.bu, .int .i64 p.re])) X.bx) ?_
 clear F ac
 intro ac F
 have g := Gr.alloc w (.cells #[.int .i64 gq, .int .i64 aw, .int .i64 za, .int .i64 p.bu, .int .i64 p.re] 31)
 have hb := heap_alloc_new w (.cells #[.int .i64 gq, .int .i64 aw, .int .i64 za, .int .i64 p.bu, .int .i64 p.re] 31)
 have hbl : w.heap.size < (w.alloc (.cells #[.int .i64 gq, .int .i64 aw, .int .i64 za, .int .i64 p.bu, .int .i64 p.re] 31)).heap.size := by simp
 have hC2 : RCells (w.alloc (.cells #[.int .i64 gq, .int .i64 aw, .int .i64 za, .int .i64 p.bu, .int .i64 p.re] 31)) [(⟨w.heap.size, 0, none⟩, .int .i64 gq), (⟨w.heap.size, 1, none⟩, .int .i64 aw), (⟨w.heap.size, 2, none⟩, .int .i64 za), (⟨w.heap.size, 3, none⟩, .int .i64 p.bu), (⟨w.heap.size, 4, none⟩, .int .i64 p.re)] := (RCells.nil w).box (b := w.heap.size) #[.int .i64 gq, .int .i64 aw, .int .i64 za, .int .i64 p.bu, .int .i64 p.re] 31 rfl
 generalize w.alloc (.cells #[.int .i64 gq, .int .i64 aw, .int .i64 za, .int .i64 p.bu, .int .i64 p.re] 31) = w3 at *
 replace G := G.trans g
 have hC := hC2
 clear hC2
 clear g hb hbl
 refine Y.pval F (X.w0 rfl) rfl (X.assign rfl (X.kc (.int .i64 0) rfl)) ?_
 clear F ac
 intro ac F
 refine Y.nil ?_
 replace F : Fr ac 31 [(0, .agg #[.int .i64 gq, .int .i64 aw, .int .i64 za, .int .i64 p.bu, .int .i64 p.re]), (1, .int .i64 x), (2, .int .i64 a), (3, .int .i64 b), (4, .pointer (some ⟨w.heap.size, 0, none⟩)), (8, .int .i64 0)] := F.sub _
 refine X.thenN ?_
 refine Y.seq ?_
 refine Y.seq ?_
 refine Y.lit (by kernel_rfl) ?_
 refine Y.pval F (X.w0 rfl) rfl (X.move rfl (F.ev 2 (.int .i64 a))) ?_
 clear F ac
 intro ac F
 refine Y.pval F (X.w0 rfl) rfl (X.assign rfl (F.ev 10 (.int .i64 a))) ?_
 clear F ac
 intro ac F
 refine Y.nil ?_
 replace F : Fr ac 31 [(0, .agg #[.int .i64 gq, .int .i64 aw, .int .i64 za, .int .i64 p.bu, .int .i64 p.re]), (1, .int .i64 x), (2, .int .i64 a), (3, .int .i64 b), (4, .pointer (some ⟨w.heap.size, 0, none⟩)), (8, .int .i64 0), (9, .int .i64 a)] := F.sub _
 refine X.thenN ?_
 refine Y.block ?_
 have hCB := hC
 have GB := G
 refine Y.loop (fun me_ ac wr => ∃ (k : Nat), me_ = K - k ∧ Gr w3 wr ∧ k ≤ K ∧ Fr ac 31 [(0, .agg #[.int .i64 gq, .int .i64 aw, .int .i64 za, .int .i64 p.bu, .int .i64 p.re]), (1, .int .i64 (gnV p x a k)), (2, .int .i64 a), (3, .int .i64 b), (4, .pointer (some ⟨w.heap.size, 0, none⟩)), (8, .int .i64 0), (9, .int .i64 ((a : Int) + k))]) _ ⟨0, rfl, Gr.refl _, Nat.zero_le _, (by rw [show (a : Int) + ((0 : Nat) : Int) = a by omega]; exact F.sub _)⟩ ?_
 clear F
 intro me_ ac w4 hI
 obtain ⟨k, rfl, gr, hk, F⟩ := hI
 replace G := GB.trans gr
 replace hC := hCB.gr gr
 have GB_ := gr
 clear gr
 refine Y.seq ?_
 refine Y.seq ?_
 refine Y.lit (by kernel_rfl) ?_
 refine Y.pval F (X.w0 rfl) rfl (X.move rfl (F.ev 9 (.int .i64 ((a : Int) + k)))) ?_
 clear F ac
 intro ac F
 refine Y.pval F (X.w0 rfl) rfl (X.move rfl (F.ev 3 (.int .i64 b))) ?_
 clear F ac
 intro ac F
 refine Y.pval F (X.w0 rfl) rfl (X.binop rfl (F.ev 11 (.int .i64 ((a : Int) + k))) (F.ev 12 (.int .i64 b)) (X.leqI Try.underlying3 rfl)) ?_
 clear F ac
 intro ac F
 refine Y.nil ?_
 replace F : Fr ac 31 [(0, .agg #[.int .i64 gq, .int .i64 aw, .int .i64 za, .int .i64 p.bu, .int .i64 p.re]), (1, .int .i64 (gnV p x a k)), (2, .int .i64 a), (3, .int .i64 b), (4, .pointer (some ⟨w.heap.size, 0, none⟩)), (8, .int .i64 0), (9, .int .i64 ((a : Int) + k)), (13, .bool (decide (((a : Int) + k : Int) ≤ b)))] := F.sub _
 refine X.thenN ?_
 cases h5 : decide (((a : Int) + k : Int) ≤ b) with
 | false =>
  try rw [h5] at F
  have h5p : ¬ (((a : Int) + k : Int) ≤ b) := of_decide_eq_false h5
  obtain rfl : K = k := by omega
  refine Y.condF (F.ev 13 (.bool false)) ?_
  refine Y.exit ?_
  refine X.thenX ?_
  refine X.thenX ?_
  refine X.blockX ?_
  refine X.thenN ?_
  refine Y.seq ?_
  refine Y.lit (by kernel_rfl) ?_
  refine Y.pval F (X.w0 rfl) rfl (X.move rfl (F.ev 1 (.int .i64 (gnV p x a K)))) ?_
  clear F ac
  intro ac F
  refine Y.pval F (X.w0 rfl) rfl (X.assign rfl (F.ev 30 (.int .i64 (gnV p x a K)))) ?_
  clear F ac
  intro ac F
  refine Y.nil ?_
  replace F : Fr ac 31 [(0, .agg #[.int .i64 gq, .int .i64 aw, .int .i64 za, .int .i64 p.bu, .int .i64 p.re]), (1, .int .i64 (gnV p x a K)), (2, .int .i64 a), (3, .int .i64 b), (4, .pointer (some ⟨w.heap.size, 0, none⟩)), (8, .int .i64 (gnV p x a K)), (9, .int .i64 ((a : Int) + K)), (13, .bool false)] := F.sub _
  refine X.thenN ?_
  refine Y.ret ?_
  exact Y.ret0 (v := .int .i64 (gnV p x a K)) F (Y.rs1 F rfl (by kernel_rfl)) ⟨rfl, G⟩
 | true =>
  try rw [h5] at F
  have h5p : (((a : Int) + k : Int) ≤ b) := of_decide_eq_true h5
  have hgb := gnV_bd hp (x := x) (a := a) hx.1 hx.2 k
  refine Y.condT (F.ev 13 (.bool true)) ?_
  refine Y.skip ?_
  refine X.thenN ?_
  refine Y.seq ?_
  refine Y.block ?_
  refine Y.seq ?_
  refine Y.lit (by kernel_rfl) ?_
  refine Y.pval F (X.w0 rfl) rfl (X.move rfl (F.ev 9 (.int .i64 ((a : Int) + k)))) ?_
  clear F ac
  intro ac F
  refine Y.pval F (X.w0 rfl) rfl (X.binop rfl (F.ev 16 (.int .i64 ((a : Int) + k))) (X.kc (.int .i64 0) rfl) (X.gtrI Try.underlying3 rfl)) ?_
  clear F ac
  intro ac F
  refine Y.pval F (X.w0 rfl) rfl (X.move rfl (F.ev 17 (.bool (decide ((0 : Int) < ((a : Int) + k)))))) ?_
  clear F ac
  intro ac F
  cases h6 : decide ((0 : Int) < ((a : Int) + k)) with
  | false =>
   try rw [h6] at F
   have h6p : ¬ ((0 : Int) < ((a : Int) + k)) := of_decide_eq_false h6
   refine Y.pskip F (X.w2 rfl (F.yl (j := 2) (d := 18) (b := false) rfl (by kernel_rfl)) rfl) rfl ?_
   clear F ac
   intro ac F
   refine Y.pskip F (X.w2 rfl (F.yl (j := 2) (d := 18) (b := false) rfl (by kernel_rfl)) rfl) rfl ?_
   clear F ac
   intro ac F
   refine Y.pskip F (X.w2 rfl (F.yl (j := 2) (d := 18) (b := false) rfl (by kernel_rfl)) rfl) rfl ?_
   clear F ac
   intro ac F
   refine Y.pskip F (X.w2 rfl (F.yl (j := 2) (d := 18) (b := false) rfl (by kernel_rfl)) rfl) rfl ?_
   clear F ac
   intro ac F
   refine Y.pskip F (X.w2 rfl (F.yl (j := 2) (d := 18) (b := false) rfl (by kernel_rfl)) rfl) rfl ?_
   clear F ac
   intro ac F
   refine Y.pval F (X.w0 rfl) rfl (X.pickF rfl (F.ev 18 (.bool false)) (X.kc (.bool false) rfl)) ?_
   clear F ac
   intro ac F
   refine Y.nil ?_
   replace F : Fr ac 31 [(0, .agg #[.int .i64 gq, .int .i64 aw, .int .i64 za, .int .i64 p.bu, .int .i64 p.re]), (1, .int .i64 (gnV p x a k)), (2, .int .i64 a), (3, .int .i64 b), (4, .pointer (some ⟨w.heap.size, 0, none⟩)), (8, .int .i64 0), (9, .int .i64 ((a : Int) + k)), (13, .bool true), (24, .bool false)] := F.sub _
   refine X.thenN ?_
   refine Y.condF (F.ev 24 (.bool false)) ?_
   refine Y.skip ?_
   refine X.blockN ?_
   refine X.thenN ?_
   refine Y.lit (by kernel_rfl) ?_
   refine Y.pval F (X.w0 rfl) rfl (X.move rfl (F.ev 9 (.int .i64 ((a : Int) + k)))) ?_
   clear F ac
   intro ac F
   refine Y.pval F (X.w0 rfl) rfl (X.binop rfl (F.ev 14 (.int .i64 ((a : Int) + k))) (X.kc (.int .i64 1) rfl) (X.addI Try.underlying3 rfl (by omega) (by omega))) ?_
   clear F ac
   intro ac F
   refine Y.pval F (X.w0 rfl) rfl (X.assign rfl (F.ev 15 (.int .i64 (((a : Int) + k : Int) + 1)))) ?_
   clear F ac
   intro ac F
   refine Y.nil ?_
   replace F : Fr ac 31 [(0, .agg #[.int .i64 gq, .int .i64 aw, .int .i64 za, .int .i64 p.bu, .int .i64 p.re]), (1, .int .i64 (gnV p x a k)), (2, .int .i64 a), (3, .int .i64 b), (4, .pointer (some ⟨w.heap.size, 0, none⟩)), (8, .int .i64 0), (9, .int .i64 (((a : Int) + k : Int) + 1)), (13, .bool true), (24, .bool false)] := F.sub _
   refine X.thenN ?_
   refine ⟨_, ?_, k + 1, rfl, GB_, by omega, (by rw [show gnV p x a (k + 1) = gnV p x a k from by simp only [gnV]; exact (if_neg (fun e => h6p e.1)), show (a : Int) + ((k + 1 : Nat) : Int) = ((a : Int) + k : Int) + 1 by omega]; exact F.sub _)⟩
   omega
  | true =>
   try rw [h6] at F
   have h6p : ((0 : Int) < ((a : Int) + k)) := of_decide_eq_true h6
   refine Y.pval F (X.w1 rfl (F.yl (j := 2) (d := 18) (b := true) rfl (by kernel_rfl))) rfl (X.move rfl (F.ev 9 (.int .i64 ((a : Int) + k)))) ?_
   clear F ac
   intro ac F
   refine Y.pval F (X.w1 rfl (F.yl (j := 2) (d := 18) (b := true) rfl (by kernel_rfl))) rfl (X.field rfl (F.ev 4 (.pointer (some ⟨w.heap.size, 0, none⟩))) (X.fld Try.underlying31 rfl (Try.siz3 _) rfl rfl)) ?_
   clear F ac
   intro ac F
   refine Y.pval F (X.w1 rfl (F.yl (j := 2) (d := 18) (b := true) rfl (by kernel_rfl))) rfl (X.load rfl (F.ev 20 (.pointer (some ⟨w.heap.size, 4, none⟩))) (X.ld1 (Try.agg3 _) (hC.at 4 rfl))) ?_
   clear F ac
   intro ac F
   refine Y.pval F (X.w1 rfl (F.yl (j := 2) (d := 18) (b := true) rfl (by kernel_rfl))) rfl (X.binop rfl (F.ev 19 (.int .i64 ((a : Int) + k))) (F.ev 21 (.int .i64 p.re)) (X.remI Try.underlying3 rfl (by omega) (by omega))) ?_
   clear F ac
   intro ac F
   refine Y.pval F (X.w1 rfl (F.yl (j := 2) (d := 18) (b := true) rfl (by kernel_rfl))) rfl (X.binop rfl (F.ev 22 (.int .i64 (((a : Int) + k : Int) % (p.re : Int)))) (X.kc (.int .i64 0) rfl) (X.eqlI Try.underlying3 rfl)) ?_
   clear F ac
   intro ac F
   refine Y.pval F (X.w0 rfl) rfl (X.pickT rfl (F.ev 18 (.bool true)) (F.ev 23 (.bool ((((a : Int) + k : Int) % (p.re : Int) : Int) == 0)))) ?_
   clear F ac
   intro ac F
   refine Y.nil ?_
   replace F : Fr ac 31 [(0, .agg #[.int .i64 gq, .int .i64 aw, .int .i64 za, .int .i64 p.bu, .int .i64 p.re]), (1, .int .i64 (gnV p x a k)), (2, .int .i64 a), (3, .int .i64 b), (4, .pointer (some ⟨w.heap.size, 0, none⟩)), (8, .int .i64 0), (9, .int .i64 ((a : Int) + k)), (13, .bool true), (24, .bool ((((a : Int) + k : Int) % (p.re : Int) : Int) == 0))] := F.sub _
   refine X.thenN ?_
   cases h7 : ((((a : Int) + k : Int) % (p.re : Int) : Int) == 0) with
   | false =>
    try rw [h7] at F
    have h7p : ¬ (((a : Int) + k : Int) % (p.re : Int) : Int) = 0 := by simpa using h7
    refine Y.condF (F.ev 24 (.bool false)) ?_
    refine Y.skip ?_
    refine X.blockN ?_
    refine X.thenN ?_
    refine Y.lit (by kernel_rfl) ?_
    refine Y.pval F (X.w0 rfl) rfl (X.move rfl (F.ev 9 (.int .i64 ((a : Int) + k)))) ?_
    clear F ac
    intro ac F
    refine Y.pval F (X.w0 rfl) rfl (X.binop rfl (F.ev 14 (.int .i64 ((a : Int) + k))) (X.kc (.int .i64 1) rfl) (X.addI Try.underlying3 rfl (by omega) (by omega))) ?_
    clear F ac
    intro ac F
    refine Y.pval F (X.w0 rfl) rfl (X.assign rfl (F.ev 15 (.int .i64 (((a : Int) + k : Int) + 1)))) ?_
    clear F ac
    intro ac F
    refine Y.nil ?_
    replace F : Fr ac 31 [(0, .agg #[.int .i64 gq, .int .i64 aw, .int .i64 za, .int .i64 p.bu, .int .i64 p.re]), (1, .int .i64 (gnV p x a k)), (2, .int .i64 a), (3, .int .i64 b), (4, .pointer (some ⟨w.heap.size, 0, none⟩)), (8, .int .i64 0), (9, .int .i64 (((a : Int) + k : Int) + 1)), (13, .bool true), (24, .bool false)] := F.sub _
    refine X.thenN ?_
    refine ⟨_, ?_, k + 1, rfl, GB_, by omega, (by rw [show gnV p x a (k + 1) = gnV p x a k from by simp only [gnV]; exact (if_neg (fun e => h7p e.2)), show (a : Int) + ((k + 1 : Nat) : Int) = ((a : Int) + k : Int) + 1 by omega]; exact F.sub _)⟩
    omega
   | true =>
    try rw [h7] at F
    have h7p : (((a : Int) + k : Int) % (p.re : Int) : Int) = 0 := by simpa using h7
    refine Y.condT (F.ev 24 (.bool true)) ?_
    refine Y.lit (by kernel_rfl) ?_
    refine Y.pval F (X.w0 rfl) rfl (X.move rfl (F.ev 1 (.int .i64 (gnV p x a k)))) ?_
    clear F ac
    intro ac F
    refine Y.pval F (X.w0 rfl) rfl (X.binop rfl (F.ev 25 (.int .i64 (gnV p x a k))) (X.kc (.int .i64 1) rfl) (X.addI Try.underlying3 rfl (by omega) (by omega))) ?_
    clear F ac
    intro ac F
    refine Y.pval F (X.w0 rfl) rfl (X.field rfl (F.ev 4 (.pointer (some ⟨w.heap.size, 0, none⟩))) (X.fld Try.underlying31 rfl (Try.siz3 _) rfl rfl)) ?_
    clear F ac
    intro ac F
    refine Y.pval F (X.w0 rfl) rfl (X.load rfl (F.ev 27 (.pointer (some ⟨w.heap.size, 3, none⟩))) (X.ld1 (Try.agg3 _) (hC.at 3 rfl))) ?_
    clear F ac
    intro ac F
    refine Y.pval F (X.w0 rfl) rfl (Y.min2 rfl (F.ev 26 (.int .i64 ((gnV p x a k : Int) + 1))) (F.ev 28 (.int .i64 p.bu))) ?_
    clear F ac
    intro ac F
    refine Y.pval F (X.w0 rfl) rfl (X.assign rfl (F.ev 29 (.int .i64 (min ((gnV p x a k : Int) + 1 : Int) (p.bu : Int))))) ?_
    clear F ac
    intro ac F
    refine Y.nil ?_
    replace F : Fr ac 31 [(0, .agg #[.int .i64 gq, .int .i64 aw, .int .i64 za, .int .i64 p.bu, .int .i64 p.re]), (1, .int .i64 (min ((gnV p x a k : Int) + 1 : Int) (p.bu : Int))), (2, .int .i64 a), (3, .int .i64 b), (4, .pointer (some ⟨w.heap.size, 0, none⟩)), (8, .int .i64 0), (9, .int .i64 ((a : Int) + k)), (13, .bool true), (24, .bool true)] := F.sub _
    refine X.blockN ?_
    refine X.thenN ?_
    refine Y.lit (by kernel_rfl) ?_
    refine Y.pval F (X.w0 rfl) rfl (X.move rfl (F.ev 9 (.int .i64 ((a : Int) + k)))) ?_
    clear F ac
    intro ac F
    refine Y.pval F (X.w0 rfl) rfl (X.binop rfl (F.ev 14 (.int .i64 ((a : Int) + k))) (X.kc (.int .i64 1) rfl) (X.addI Try.underlying3 rfl (by omega) (by omega))) ?_
    clear F ac
    intro ac F
    refine Y.pval F (X.w0 rfl) rfl (X.assign rfl (F.ev 15 (.int .i64 (((a : Int) + k : Int) + 1)))) ?_
    clear F ac
    intro ac F
    refine Y.nil ?_
    replace F : Fr ac 31 [(0, .agg #[.int .i64 gq, .int .i64 aw, .int .i64 za, .int .i64 p.bu, .int .i64 p.re]), (1, .int .i64 (min ((gnV p x a k : Int) + 1 : Int) (p.bu : Int))), (2, .int .i64 a), (3, .int .i64 b), (4, .pointer (some ⟨w.heap.size, 0, none⟩)), (8, .int .i64 0), (9, .int .i64 (((a : Int) + k : Int) + 1)), (13, .bool true), (24, .bool true)] := F.sub _
    refine X.thenN ?_
    refine ⟨_, ?_, k + 1, rfl, GB_, by omega, (by rw [show gnV p x a (k + 1) = min ((gnV p x a k : Int) + 1 : Int) (p.bu : Int) from by simp only [gnV]; exact (if_pos ⟨h6p, h7p⟩), show (a : Int) + ((k + 1 : Nat) : Int) = ((a : Int) + k : Int) + 1 by omega]; exact F.sub _)⟩
    omega
end
end Go.Proofs.Ytoalamakhjbedaa
