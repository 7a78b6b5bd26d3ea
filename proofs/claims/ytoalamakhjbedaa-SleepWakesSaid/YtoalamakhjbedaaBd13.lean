/- Several texts of this claim in one file. (1) Contract: Play. (2) The chapter's example, in plain words; rows of structures that are written out. Nothing of the program is walked here. (3) Members and Choose in plain words. Nothing of the program is proved here. (4) The groups of Choose wake who is needed, at the current that it says. Nothing of the program is proved here. (5) Lists of nudges that a call makes. Nothing of the program is walked here. (6) More on lists of nudges that a call makes; remainders of any number. Nothing of the program is walked here. -/
import Derived.Test.YtoalamakhjbedaaBd9
import Derived.Test.YtoalamakhjbedaaBd12
import Derived.Test.YtoalamakhjbedaaBd3
import Derived.Test.YtoalamakhjbedaaBd8
namespace Go.Proofs.Ytoalamakhjbedaa
section
open Go.RowKit

set_option maxRecDepth 100000 in
set_option maxHeartbeats 1000000 in
theorem play_any (na la : Option Addr) (n nc m lc : Nat) (gr hold t : Int) (nd l : List (List Int)) (w : World) (hnd : StAt w 5 na n nd) (hl : StAt w 4 la m l) :
  Calls Try.prog 18 #[.agg #[.int .i64 gr, .int .i64 hold, .slice na n nc], .int .i64 t, .slice la m lc] w fun e w' => ∃ ra rn rc ea en ec, e = .returned (.tuple #[.slice ra rn rc, .slice ea en ec, .int .i64 (playE gr hold nd t l)]) ∧ Ints w' ra rn (playRows gr hold nd t l) ∧ Ints w' ea en (playEn gr hold nd t l) ∧ Gr w w' := by
 have G := Gr.refl w
 have hnd0 := hnd
 have hl0 := hl
 have hlm := hl.lt
 have hlnn := hnd.lt
 refine Y.calls 73 Try.func18 rfl rfl ?_
 intro ac F0
 have F : Fr ac 73 [(0, .agg #[.int .i64 gr, .int .i64 hold, .slice na n nc]), (1, .int .i64 t), (2, .slice la m lc)] := F0.sub _
 clear F0
 refine Y.seq ?_
 refine Y.lit (by kernel_rfl) ?_
 refine Y.pval F (X.w0 rfl) rfl (X.box rfl (F.ev 0 (.agg #[.int .i64 gr, .int .i64 hold, .slice na n nc])) X.bx) ?_
 clear F ac
 intro ac F
 have g := Gr.alloc w (.cells #[.int .i64 gr, .int .i64 hold, .slice na n nc] 24)
 have hb := heap_alloc_new w (.cells #[.int .i64 gr, .int .i64 hold, .slice na n nc] 24)
 have hbl : w.heap.size < (w.alloc (.cells #[.int .i64 gr, .int .i64 hold, .slice na n nc] 24)).heap.size := by simp
 have hC2 : RCells (w.alloc (.cells #[.int .i64 gr, .int .i64 hold, .slice na n nc] 24)) [(⟨w.heap.size, 0, none⟩, .int .i64 gr), (⟨w.heap.size, 1, none⟩, .int .i64 hold), (⟨w.heap.size, 2, none⟩, .slice na n nc)] := (RCells.nil w).box (b := w.heap.size) #[.int .i64 gr, .int .i64 hold, .slice na n nc] 24 rfl
 generalize w.alloc (.cells #[.int .i64 gr, .int .i64 hold, .slice na n nc] 24) = w3 at *
 replace G := G.trans g
 have hC := hC2
 clear hC2
 replace hnd := hnd.gr g
 replace hl := hl.gr g
 clear g hb hbl
 have hC0 := hC
 refine Y.pval F (X.w0 rfl) rfl (X.assign rfl (X.kc (.slice none 0 0) rfl)) ?_
 clear F ac
 intro ac F
 refine Y.pval F (X.w0 rfl) rfl (X.assign rfl (X.kc (.slice none 0 0) rfl)) ?_
 clear F ac
 intro ac F
 refine Y.pval F (X.w0 rfl) rfl (X.assign rfl (X.kc (.int .i64 0) rfl)) ?_
 clear F ac
 intro ac F
 refine Y.nil ?_
 replace F : Fr ac 73 [(0, .agg #[.int .i64 gr, .int .i64 hold, .slice na n nc]), (1, .int .i64 t), (2, .slice la m lc), (3, .pointer (some ⟨w.heap.size, 0, none⟩)), (6, .slice none 0 0), (7, .slice none 0 0), (8, .int .i64 0)] := F.sub _
 refine X.thenN ?_
 refine Y.seq ?_
 refine Y.lit (by kernel_rfl) ?_
 refine Y.pval F (X.w0 rfl) rfl (X.load rfl (F.ev 3 (.pointer (some ⟨w.heap.size, 0, none⟩))) (X.ldN (Try.agg24 _) (Try.siz24 _) (Y.atz (⟨w.heap.size, 0, none⟩) (Y.AtFrom.cons (hC.at 0 rfl) (Y.AtFrom.cons (hC.at 1 rfl) (Y.AtFrom.cons (hC.at 2 rfl) (Y.AtFrom.nil _ _ _))))))) ?_
 clear F ac
 intro ac F
 refine Y.pval F (X.w0 rfl) rfl (X.move rfl (F.ev 1 (.int .i64 t))) ?_
 clear F ac
 intro ac F
 refine Y.pval F (X.w0 rfl) rfl (X.move rfl (F.ev 2 (.slice la m lc))) ?_
 clear F ac
 intro ac F
 by_cases hE : playE gr hold nd t l = 0
 ·have hE := hE
  refine Y.pcall F (X.w0 rfl) rfl (X.enter (F := 44) rfl (X.kc (.func (.func 44) #[] #[]) rfl) (X.a3 (F.ev 15 (.agg #[.int .i64 gr, .int .i64 hold, .slice na n nc])) (F.ev 16 (.int .i64 t)) (F.ev 17 (.slice la m lc))) (enters_of Try.func44 (by kernel_rfl) rfl _)) (begin_any na la n nc m lc gr hold t nd l w3 hnd hl) ?_
  clear F ac
  rintro e w5 ⟨-, g, h0⟩
  obtain ⟨bp, rfl, hBg⟩ := h0 hE
  clear h0
  refine ⟨_, rfl, ?_⟩
  intro ac F
  have hBsz : w3.heap.size = w3.heap.size := rfl
  replace G := G.trans g
  replace hC := hC.gr g
  replace hnd := hnd.gr g
  replace hl := hl.gr g
  clear g
  refine Y.pval F (X.w0 rfl) rfl (X.move rfl (F.ev 18 (.tuple #[.pointer (some ⟨bp, 0, none⟩), .int .i64 0]))) ?_
  clear F ac
  intro ac F
  refine Y.pval F (X.w0 rfl) rfl (X.extract rfl (F.ev 14 (.tuple #[.pointer (some ⟨bp, 0, none⟩), .int .i64 0])) rfl) ?_
  clear F ac
  intro ac F
  refine Y.pval F (X.w0 rfl) rfl (X.extract rfl (F.ev 14 (.tuple #[.pointer (some ⟨bp, 0, none⟩), .int .i64 0])) rfl) ?_
  clear F ac
  intro ac F
  refine Y.pval F (X.w0 rfl) rfl (X.assign rfl (F.ev 19 (.pointer (some ⟨bp, 0, none⟩)))) ?_
  clear F ac
  intro ac F
  refine Y.pval F (X.w0 rfl) rfl (X.assign rfl (F.ev 20 (.int .i64 0))) ?_
  clear F ac
  intro ac F
  refine Y.nil ?_
  replace F : Fr ac 73 [(0, .agg #[.int .i64 gr, .int .i64 hold, .slice na n nc]), (1, .int .i64 t), (2, .slice la m lc), (3, .pointer (some ⟨w.heap.size, 0, none⟩)), (6, .slice none 0 0), (7, .slice none 0 0), (8, .int .i64 0), (9, .pointer (some ⟨bp, 0, none⟩))] := F.sub _
  refine X.thenN ?_
  refine Y.seq ?_
  refine Y.seq ?_
  refine Y.lit (by kernel_rfl) ?_
  refine Y.pval F (X.w0 rfl) rfl (X.move rfl (F.ev 8 (.int .i64 0))) ?_
  clear F ac
  intro ac F
  refine Y.pval F (X.w0 rfl) rfl (X.binop rfl (F.ev 21 (.int .i64 0)) (X.kc (.int .i64 0) rfl) (X.neqI Try.underlying26 (show ((0 : Int) != 0) = false by simp))) ?_
  clear F ac
  intro ac F
  refine Y.nil ?_
  replace F : Fr ac 73 [(0, .agg #[.int .i64 gr, .int .i64 hold, .slice na n nc]), (1, .int .i64 t), (2, .slice la m lc), (3, .pointer (some ⟨w.heap.size, 0, none⟩)), (6, .slice none 0 0), (7, .slice none 0 0), (8, .int .i64 0), (9, .pointer (some ⟨bp, 0, none⟩)), (22, .bool false)] := F.sub _
  refine X.thenN ?_
  refine Y.condF (F.ev 22 (.bool false)) ?_
  refine Y.skip ?_
  refine X.thenN ?_
  refine Y.seq ?_
  refine Y.lit (by kernel_rfl) ?_
  refine Y.pval F (X.w0 rfl) rfl (X.move rfl (F.ev 9 (.pointer (some ⟨bp, 0, none⟩)))) ?_
  clear F ac
  intro ac F
  refine Y.pval F (X.w0 rfl) rfl (X.move rfl (F.ev 1 (.int .i64 t))) ?_
  clear F ac
  intro ac F
  have hok := playE_ok hE
  have hc := hok.c
  have ht0 := hok.t0
  have ht1 := hok.t1
  have hln := hnd.len
  have h16 : n ≤ 16 := by have := hc.n16; omega
  obtain ⟨bn, pa, cap, hP, hS⟩ := hBg
  have hpb := hP.pb
  have hnb := hP.nb
  have hg1 := hc.g1
  have hg8 := hc.g8
  have hSO : SOk n (startS nd) := by have := SOk.start hc; rwa [hln] at this
  have htt : t = ((t.toNat : Nat) : Int) := by omega
  have hgw := G.size
  have hnu : ∀ x ∈ l, NuOk gr nd t x := fun x hx => by obtain ⟨i, hi, rfl⟩ := List.getElem_of_mem hx; have := hok.nu i hi; rwa [List.getElem?_eq_getElem hi] at this
  refine Y.pcall F (X.w0 rfl) rfl (X.enter (F := 45) rfl (X.kc (.func (.func 45) #[] #[]) rfl) (X.a2 (F.ev 25 (.pointer (some ⟨bp, 0, none⟩))) (F.ev 26 (.int .i64 t))) (enters_of Try.func45 (by kernel_rfl) rfl _)) (by have h := run_any w3 w5 bp bn gr hold na la pa n nc m lc cap l (startS nd) t.toNat hP hS h16 ⟨nd, t, hln, hg8, hnu⟩ hSO hc.h1 hc.h100 (by omega) (by omega); rw [← htt] at h; exact h) ?_
  clear F ac
  rintro e w6 ⟨v1, v2, rfl, hon, -, hO1, hO2⟩
  refine ⟨_, rfl, ?_⟩
  intro ac F
  have hcb : w.heap.size < w3.heap.size := lt_cell (hC0.at 0 rfl)
  replace hC : RCells w6 [(⟨w.heap.size, 0, none⟩, .int .i64 gr), (⟨w.heap.size, 1, none⟩, .int .i64 hold), (⟨w.heap.size, 2, none⟩, .slice na n nc)] := (RCells.cons (hon.cell (hC.at 0 rfl) (by show ¬ w.heap.size = bn; omega)) (RCells.cons (hon.cell (hC.at 1 rfl) (by show ¬ w.heap.size = bn; omega)) (RCells.cons (hon.cell (hC.at 2 rfl) (by show ¬ w.heap.size = bn; omega)) (RCells.nil _))))
  replace G := Y.Only.up G hon (by omega)
  replace hnd := hnd0.gr G
  replace hl := hl0.gr G
  clear hon hS hP
  obtain ⟨aa, ac1, rfl, hIa, hIab⟩ := hO1.intsN (runFrom_len t.toNat).1 (by omega)
  obtain ⟨ra, rc, rfl, hIr, hIrb⟩ := hO2.intsN (runFrom_len t.toNat).2 (by omega)
  clear hO1 hO2
  refine Y.pval F (X.w0 rfl) rfl (X.move rfl (F.ev 27 (.tuple #[.slice aa t.toNat ac1, .slice ra t.toNat rc]))) ?_
  clear F ac
  intro ac F
  refine Y.pval F (X.w0 rfl) rfl (X.extract rfl (F.ev 24 (.tuple #[.slice aa t.toNat ac1, .slice ra t.toNat rc])) rfl) ?_
  clear F ac
  intro ac F
  refine Y.pval F (X.w0 rfl) rfl (X.extract rfl (F.ev 24 (.tuple #[.slice aa t.toNat ac1, .slice ra t.toNat rc])) rfl) ?_
  clear F ac
  intro ac F
  refine Y.pval F (X.w0 rfl) rfl (X.assign rfl (F.ev 29 (.slice ra t.toNat rc))) ?_
  clear F ac
  intro ac F
  refine Y.nil ?_
  replace F : Fr ac 73 [(0, .agg #[.int .i64 gr, .int .i64 hold, .slice na n nc]), (1, .int .i64 t), (2, .slice la m lc), (3, .pointer (some ⟨w.heap.size, 0, none⟩)), (6, .slice ra t.toNat rc), (7, .slice none 0 0), (8, .int .i64 0), (9, .pointer (some ⟨bp, 0, none⟩)), (22, .bool false)] := F.sub _
  refine X.thenN ?_
  refine Y.seq ?_
  refine Y.lit (by kernel_rfl) ?_
  refine Y.pval F (X.w0 rfl) rfl (X.field rfl (F.ev 3 (.pointer (some ⟨w.heap.size, 0, none⟩))) (X.fld Try.underlying24 rfl (Try.siz22 _) rfl rfl)) ?_
  clear F ac
  intro ac F
  refine Y.pval F (X.w0 rfl) rfl (X.load rfl (F.ev 30 (.pointer (some ⟨w.heap.size, 2, none⟩))) (X.ld1 (Try.agg22 _) (hC.at 2 rfl))) ?_
  clear F ac
  intro ac F
  refine Y.pval F (X.w0 rfl) rfl (X.len1 Try.underlying22 rfl (F.ev 31 (.slice na n nc))) ?_
  clear F ac
  intro ac F
  have hq8 : w.heap.size < w6.heap.size := lt_cell (hC.at 0 rfl)
  have hgsw7 := G.size
  refine Y.pval F (X.w0 rfl) rfl (Y.mk rfl (F.ev 32 (.int .i64 n)) (F.ev 32 (.int .i64 n)) (Try.mk34 n _ (by omega))) ?_
  clear F ac
  intro ac F
  have g := Gr.alloc w6 (.cells (List.replicate n (.int .i64 0)).toArray 3)
  have hS := zeros_own w6 n
  generalize w6.alloc (.cells (List.replicate n (.int .i64 0)).toArray 3) = w7 at *
  replace G := G.trans g
  replace hC := hC.gr g
  replace hnd := hnd.gr g
  replace hl := hl.gr g
  replace hIa := hIa.gr g
  replace hIr := hIr.gr g
  clear g
  have hml : w6.heap.size < w7.heap.size := hS.lt
  have hS := hS
  refine Y.pval F (X.w0 rfl) rfl (X.assign rfl (F.ev 33 (.slice (some ⟨w6.heap.size, 0, none⟩) n n))) ?_
  clear F ac
  intro ac F
  refine Y.nil ?_
  replace F : Fr ac 73 [(0, .agg #[.int .i64 gr, .int .i64 hold, .slice na n nc]), (1, .int .i64 t), (2, .slice la m lc), (3, .pointer (some ⟨w.heap.size, 0, none⟩)), (6, .slice ra t.toNat rc), (7, .slice (some ⟨w6.heap.size, 0, none⟩) n n), (8, .int .i64 0), (9, .pointer (some ⟨bp, 0, none⟩)), (22, .bool false)] := F.sub _
  refine X.thenN ?_
  refine Y.seq ?_
  refine Y.seq ?_
  refine Y.lit (by kernel_rfl) ?_
  refine Y.pval F (X.w0 rfl) rfl (X.move rfl (F.ev 6 (.slice ra t.toNat rc))) ?_
  clear F ac
  intro ac F
  refine Y.pval F (X.w0 rfl) rfl (X.len1 Try.underlying34 rfl (F.ev 34 (.slice ra t.toNat rc))) ?_
  clear F ac
  intro ac F
  refine Y.pval F (X.w0 rfl) rfl (X.move rfl (X.kc (.int .i64 0) rfl)) ?_
  clear F ac
  intro ac F
  refine Y.nil ?_
  replace F : Fr ac 73 [(0, .agg #[.int .i64 gr, .int .i64 hold, .slice na n nc]), (1, .int .i64 t), (2, .slice la m lc), (3, .pointer (some ⟨w.heap.size, 0, none⟩)), (6, .slice ra t.toNat rc), (7, .slice (some ⟨w6.heap.size, 0, none⟩) n n), (8, .int .i64 0), (9, .pointer (some ⟨bp, 0, none⟩)), (22, .bool false), (34, .slice ra t.toNat rc), (35, .int .i64 t.toNat), (36, .int .i64 0)] := F.sub _
  refine X.thenN ?_
  refine Y.block ?_
  have hIa_1 := hIa
  have hIr_1 := hIr
  have G_1 := G
  have hC_1 := hC
  refine Y.loop (fun me_ ac wr => ∃ (k : Nat), me_ = t.toNat - k ∧ k ≤ t.toNat ∧ Only (fun b => b = w6.heap.size) w7 wr ∧ OwnP wr w6.heap.size (n) (EV (enS nd ((runFrom hold gr.toNat n l (startS nd) t.toNat).rows.take k))) ∧ Fr ac 73 [(0, .agg #[.int .i64 gr, .int .i64 hold, .slice na n nc]), (1, .int .i64 t), (2, .slice la m lc), (3, .pointer (some ⟨w.heap.size, 0, none⟩)), (6, .slice ra t.toNat rc), (7, .slice (some ⟨w6.heap.size, 0, none⟩) n n), (8, .int .i64 0), (9, .pointer (some ⟨bp, 0, none⟩)), (22, .bool false), (34, .slice ra t.toNat rc), (35, .int .i64 t.toNat), (36, .int .i64 k)]) _ ⟨0, rfl, Nat.zero_le _, Only.refl _ _, hS, F.sub _⟩ ?_
  clear F G ac hC hS hIa hIr hnd hl
  intro me_ ac w9 hI
  obtain ⟨k, rfl, hk, hI1, hS, F⟩ := hI
  have G := Y.Only.up G_1 hI1 (by omega)
  have hnd := hnd0.gr G
  have hl := hl0.gr G
  have hIa := hIa_1.onlyAt hI1 (fun ad e h => by have := hIab ad e; omega)
  have hIr := hIr_1.onlyAt hI1 (fun ad e h => by have := hIrb ad e; omega)
  have hC : RCells w9 [(⟨w.heap.size, 0, none⟩, .int .i64 gr), (⟨w.heap.size, 1, none⟩, .int .i64 hold), (⟨w.heap.size, 2, none⟩, .slice na n nc)] := (RCells.cons (hI1.cell (hC_1.at 0 rfl) (by show ¬ w.heap.size = w6.heap.size; omega)) (RCells.cons (hI1.cell (hC_1.at 1 rfl) (by show ¬ w.heap.size = w6.heap.size; omega)) (RCells.cons (hI1.cell (hC_1.at 2 rfl) (by show ¬ w.heap.size = w6.heap.size; omega)) (RCells.nil _))))
  refine Y.seq ?_
  refine Y.lit (by kernel_rfl) ?_
  refine Y.pval F (X.w0 rfl) rfl (X.binop rfl (F.ev 36 (.int .i64 k)) (F.ev 35 (.int .i64 t.toNat)) (X.lssI Try.underlying3 rfl)) ?_
  clear F ac
  intro ac F
  refine Y.nil ?_
  replace F : Fr ac 73 [(0, .agg #[.int .i64 gr, .int .i64 hold, .slice na n nc]), (1, .int .i64 t), (2, .slice la m lc), (3, .pointer (some ⟨w.heap.size, 0, none⟩)), (6, .slice ra t.toNat rc), (7, .slice (some ⟨w6.heap.size, 0, none⟩) n n), (8, .int .i64 0), (9, .pointer (some ⟨bp, 0, none⟩)), (22, .bool false), (34, .slice ra t.toNat rc), (35, .int .i64 t.toNat), (36, .int .i64 k), (37, .bool (decide ((k : Int) < t.toNat)))] := F.sub _
  refine X.thenN ?_
  refine Y.seq ?_
  cases h10 : decide ((k : Int) < t.toNat) with
  | false =>
   try rw [h10] at F
   have h10p : ¬ ((k : Int) < t.toNat) := of_decide_eq_false h10
   have hkt : k = t.toNat := by omega
   subst hkt
   refine Y.condF (F.ev 37 (.bool false)) ?_
   refine Y.exit ?_
   refine X.thenX ?_
   refine X.thenX ?_
   refine X.blockX ?_
   refine X.thenN ?_
   refine Y.seq ?_
   refine Y.lit (by kernel_rfl) ?_
   refine Y.pval F (X.w0 rfl) rfl (X.move rfl (F.ev 6 (.slice ra t.toNat rc))) ?_
   clear F ac
   intro ac F
   refine Y.pval F (X.w0 rfl) rfl (X.move rfl (F.ev 7 (.slice (some ⟨w6.heap.size, 0, none⟩) n n))) ?_
   clear F ac
   intro ac F
   refine Y.pval F (X.w0 rfl) rfl (X.assign rfl (F.ev 71 (.slice ra t.toNat rc))) ?_
   clear F ac
   intro ac F
   refine Y.pval F (X.w0 rfl) rfl (X.assign rfl (F.ev 72 (.slice (some ⟨w6.heap.size, 0, none⟩) n n))) ?_
   clear F ac
   intro ac F
   refine Y.pval F (X.w0 rfl) rfl (X.assign rfl (X.kc (.int .i64 0) rfl)) ?_
   clear F ac
   intro ac F
   refine Y.nil ?_
   replace F : Fr ac 73 [(0, .agg #[.int .i64 gr, .int .i64 hold, .slice na n nc]), (1, .int .i64 t), (2, .slice la m lc), (3, .pointer (some ⟨w.heap.size, 0, none⟩)), (6, .slice ra t.toNat rc), (7, .slice (some ⟨w6.heap.size, 0, none⟩) n n), (8, .int .i64 0), (9, .pointer (some ⟨bp, 0, none⟩)), (22, .bool false), (34, .slice ra t.toNat rc), (35, .int .i64 t.toNat), (36, .int .i64 t.toNat), (37, .bool false)] := F.sub _
   refine X.thenN ?_
   refine Y.ret ?_
   have e1 : playRows gr hold nd t l = (runFrom hold gr.toNat n l (startS nd) t.toNat).rows := by unfold playRows playR; rw [if_pos hE, hln]
   have e2 : playEn gr hold nd t l = (List.range n).map (enS nd (runFrom hold gr.toNat n l (startS nd) t.toNat).rows) := by unfold playEn playR; rw [if_pos hE, hln]
   have e3 : (runFrom hold gr.toNat n l (startS nd) t.toNat).rows.take t.toNat = (runFrom hold gr.toNat n l (startS nd) t.toNat).rows := List.take_of_length_le (by rw [(runFrom_len t.toNat).2]; omega)
   rw [e3] at hS
   exact Y.ret0 (v := .tuple #[.slice ra t.toNat rc, .slice (some ⟨w6.heap.size, 0, none⟩) n n, .int .i64 0]) F (Y.rs3 F rfl (by kernel_rfl) (by kernel_rfl) (by kernel_rfl)) ⟨_, _, _, _, _, _, by rw [hE], by rw [e1]; exact hIr, by rw [e2]; exact ownP_ints hS (by omega), G⟩
  | true =>
   try rw [h10] at F
   have h10p : ((k : Int) < t.toNat) := of_decide_eq_true h10
   have hk2 : k < t.toNat := by omega
   have hrl := (runFrom_len (n := n) (gr := gr.toNat) (s := startS nd) (hold := hold) (l := l) t.toNat).2
   refine Y.condT (F.ev 37 (.bool true)) ?_
   refine Y.skip ?_
   refine X.thenN ?_
   refine Y.seq ?_
   refine Y.block ?_
   refine Y.seq ?_
   refine Y.lit (by kernel_rfl) ?_
   obtain ⟨pd11, pe11, -, pc11⟩ := hIr.at (j := k) (by omega)
   subst pe11
   replace hC : RCells w9 [(⟨w.heap.size, 0, none⟩, .int .i64 gr), (⟨w.heap.size, 1, none⟩, .int .i64 hold), (⟨w.heap.size, 2, none⟩, .slice na n nc), (pd11.add k, .int .i64 (((runFrom hold gr.toNat n l (startS nd) t.toNat).rows)[k]?.getD 0))] := hC.append ((RCells.cons pc11 (RCells.nil _)))
   clear pc11
   refine Y.pval F (X.w0 rfl) rfl (X.index rfl (F.ev 34 (.slice (some pd11) t.toNat rc)) (F.ev 36 (.int .i64 k)) (X.idx (k := k) Try.underlying34 (Try.siz3 _) (by omega) (by omega) (by rw [Nat.mul_one]))) ?_
   clear F ac
   intro ac F
   refine Y.pval F (X.w0 rfl) rfl (X.load rfl (F.ev 38 (.pointer (some (pd11.add k)))) (X.ld1 (Try.agg3 _) (hC.at 3 rfl))) ?_
   clear F ac
   intro ac F
   refine Y.pval F (X.w0 rfl) rfl (X.assign rfl (F.ev 39 (.int .i64 (((runFrom hold gr.toNat n l (startS nd) t.toNat).rows)[k]?.getD 0)))) ?_
   clear F ac
   intro ac F
   refine Y.nil ?_
   replace F : Fr ac 73 [(0, .agg #[.int .i64 gr, .int .i64 hold, .slice na n nc]), (1, .int .i64 t), (2, .slice la m lc), (3, .pointer (some ⟨w.heap.size, 0, none⟩)), (6, .slice (some pd11) t.toNat rc), (7, .slice (some ⟨w6.heap.size, 0, none⟩) n n), (8, .int .i64 0), (9, .pointer (some ⟨bp, 0, none⟩)), (11, .int .i64 (((runFrom hold gr.toNat n l (startS nd) t.toNat).rows)[k]?.getD 0)), (22, .bool false), (34, .slice (some pd11) t.toNat rc), (35, .int .i64 t.toNat), (36, .int .i64 k), (37, .bool true)] := F.sub _
   refine X.thenN ?_
   refine Y.seq ?_
   refine Y.lit (by kernel_rfl) ?_
   refine Y.pval F (X.w0 rfl) rfl (X.field rfl (F.ev 3 (.pointer (some ⟨w.heap.size, 0, none⟩))) (X.fld Try.underlying24 rfl (Try.siz22 _) rfl rfl)) ?_
   clear F ac
   intro ac F
   refine Y.pval F (X.w0 rfl) rfl (X.load rfl (F.ev 40 (.pointer (some ⟨w.heap.size, 2, none⟩))) (X.ld1 (Try.agg22 _) (hC.at 2 rfl))) ?_
   clear F ac
   intro ac F
   refine Y.pval F (X.w0 rfl) rfl (X.len1 Try.underlying22 rfl (F.ev 41 (.slice na n nc))) ?_
   clear F ac
   intro ac F
   refine Y.pval F (X.w0 rfl) rfl (X.move rfl (X.kc (.int .i64 0) rfl)) ?_
   clear F ac
   intro ac F
   refine Y.nil ?_
   replace F : Fr ac 73 [(0, .agg #[.int .i64 gr, .int .i64 hold, .slice na n nc]), (1, .int .i64 t), (2, .slice la m lc), (3, .pointer (some ⟨w.heap.size, 0, none⟩)), (6, .slice (some pd11) t.toNat rc), (7, .slice (some ⟨w6.heap.size, 0, none⟩) n n), (8, .int .i64 0), (9, .pointer (some ⟨bp, 0, none⟩)), (11, .int .i64 (((runFrom hold gr.toNat n l (startS nd) t.toNat).rows)[k]?.getD 0)), (22, .bool false), (34, .slice (some pd11) t.toNat rc), (35, .int .i64 t.toNat), (36, .int .i64 k), (37, .bool true), (41, .slice na n nc), (42, .int .i64 n), (43, .int .i64 0)] := F.sub _
   refine X.thenN ?_
   refine Y.block ?_
   have hI1_2 := hI1
   have hIa_2 := hIa
   have hIr_2 := hIr
   have G_2 := G
   have hC_2 := hC
   refine Y.loop (fun me_ ac wr => ∃ (i : Nat), me_ = n - i ∧ i ≤ n ∧ Only (fun b => b = w6.heap.size) w9 wr ∧ OwnP wr w6.heap.size (n) (EV (enP nd ((runFrom hold gr.toNat n l (startS nd) t.toNat).rows[k]?.getD 0) i (enS nd ((runFrom hold gr.toNat n l (startS nd) t.toNat).rows.take k)))) ∧ Fr ac 73 [(0, .agg #[.int .i64 gr, .int .i64 hold, .slice na n nc]), (1, .int .i64 t), (2, .slice la m lc), (3, .pointer (some ⟨w.heap.size, 0, none⟩)), (6, .slice (some pd11) t.toNat rc), (7, .slice (some ⟨w6.heap.size, 0, none⟩) n n), (8, .int .i64 0), (9, .pointer (some ⟨bp, 0, none⟩)), (11, .int .i64 (((runFrom hold gr.toNat n l (startS nd) t.toNat).rows)[k]?.getD 0)), (22, .bool false), (34, .slice (some pd11) t.toNat rc), (35, .int .i64 t.toNat), (36, .int .i64 k), (37, .bool true), (41, .slice na n nc), (42, .int .i64 n), (43, .int .i64 i)]) _ ⟨0, rfl, Nat.zero_le _, Only.refl _ _, (by rw [enP_zero]; exact hS), F.sub _⟩ ?_
   clear F G ac hC hS hI1 hIa hIr hnd hl
   intro me_ ac w12 hI
   obtain ⟨i, rfl, hi, hI2, hS, F⟩ := hI
   have G := Y.Only.up G_2 hI2 (by omega)
   have hI1 := hI1_2.trans hI2
   have hnd := hnd0.gr G
   have hl := hl0.gr G
   have hIa := hIa_2.onlyAt hI2 (fun ad e h => by have := hIab ad e; omega)
   have hIr := hIr_2.onlyAt hI2 (fun ad e h => by have := hIrb ad e; omega)
   have hC : RCells w12 [(⟨w.heap.size, 0, none⟩, .int .i64 gr), (⟨w.heap.size, 1, none⟩, .int .i64 hold), (⟨w.heap.size, 2, none⟩, .slice na n nc)] := (RCells.cons (hI2.cell (hC_2.at 0 rfl) (by show ¬ w.heap.size = w6.heap.size; omega)) (RCells.cons (hI2.cell (hC_2.at 1 rfl) (by show ¬ w.heap.size = w6.heap.size; omega)) (RCells.cons (hI2.cell (hC_2.at 2 rfl) (by show ¬ w.heap.size = w6.heap.size; omega)) (RCells.nil _))))
   refine Y.seq ?_
   refine Y.lit (by kernel_rfl) ?_
   refine Y.pval F (X.w0 rfl) rfl (X.binop rfl (F.ev 43 (.int .i64 i)) (F.ev 42 (.int .i64 n)) (X.lssI Try.underlying3 rfl)) ?_
   clear F ac
   intro ac F
   refine Y.nil ?_
   replace F : Fr ac 73 [(0, .agg #[.int .i64 gr, .int .i64 hold, .slice na n nc]), (1, .int .i64 t), (2, .slice la m lc), (3, .pointer (some ⟨w.heap.size, 0, none⟩)), (6, .slice (some pd11) t.toNat rc), (7, .slice (some ⟨w6.heap.size, 0, none⟩) n n), (8, .int .i64 0), (9, .pointer (some ⟨bp, 0, none⟩)), (11, .int .i64 (((runFrom hold gr.toNat n l (startS nd) t.toNat).rows)[k]?.getD 0)), (22, .bool false), (34, .slice (some pd11) t.toNat rc), (35, .int .i64 t.toNat), (36, .int .i64 k), (37, .bool true), (41, .slice na n nc), (42, .int .i64 n), (43, .int .i64 i), (44, .bool (decide ((i : Int) < n)))] := F.sub _
   refine X.thenN ?_
   refine Y.seq ?_
   cases h13 : decide ((i : Int) < n) with
   | false =>
    try rw [h13] at F
    have h13p : ¬ ((i : Int) < n) := of_decide_eq_false h13
    obtain rfl : n = i := by omega
    refine Y.condF (F.ev 44 (.bool false)) ?_
    refine Y.exit ?_
    refine X.thenX ?_
    refine X.thenX ?_
    refine X.blockX ?_
    refine X.blockN ?_
    refine X.thenN ?_
    refine Y.lit (by kernel_rfl) ?_
    refine Y.pval F (X.w0 rfl) rfl (X.binop rfl (F.ev 36 (.int .i64 k)) (X.kc (.int .i64 1) rfl) (X.addI Try.underlying3 rfl (by omega) (by omega))) ?_
    clear F ac
    intro ac F
    refine Y.pval F (X.w0 rfl) rfl (X.move rfl (F.ev 70 (.int .i64 ((k : Int) + 1)))) ?_
    clear F ac
    intro ac F
    refine Y.nil ?_
    replace F : Fr ac 73 [(0, .agg #[.int .i64 gr, .int .i64 hold, .slice na n nc]), (1, .int .i64 t), (2, .slice la m lc), (3, .pointer (some ⟨w.heap.size, 0, none⟩)), (6, .slice (some pd11) t.toNat rc), (7, .slice (some ⟨w6.heap.size, 0, none⟩) n n), (8, .int .i64 0), (9, .pointer (some ⟨bp, 0, none⟩)), (11, .int .i64 (((runFrom hold gr.toNat n l (startS nd) t.toNat).rows)[k]?.getD 0)), (22, .bool false), (34, .slice (some pd11) t.toNat rc), (35, .int .i64 t.toNat), (36, .int .i64 ((k : Int) + 1)), (37, .bool true), (41, .slice na n nc), (42, .int .i64 n), (43, .int .i64 n), (44, .bool false)] := F.sub _
    refine X.thenN ?_
    refine ⟨_, ?_, k + 1, rfl, by omega, hI1, hS.congr (fun j hj => by unfold EV; rw [enS_take (by omega) j]; unfold enP; rw [if_pos hj]), F.sub _⟩
    omega
   | true =>
    try rw [h13] at F
    have h13p : ((i : Int) < n) := of_decide_eq_true h13
    have hi2 : i < n := by omega
    have hb1 := enS_bd hc (j := i) (by omega) ((runFrom hold gr.toNat n l (startS nd) t.toNat).rows.take k)
    have hb2 := enP_at nd ((runFrom hold gr.toNat n l (startS nd) t.toNat).rows[k]?.getD 0) i (enS nd ((runFrom hold gr.toNat n l (startS nd) t.toNat).rows.take k))
    have hb3 : ((runFrom hold gr.toNat n l (startS nd) t.toNat).rows.take k).length ≤ 1000 := by rw [List.length_take]; omega
    have hb4 := hc.awk i (by omega)
    have hb5 := hc.asl i (by omega)
    refine Y.condT (F.ev 44 (.bool true)) ?_
    refine Y.skip ?_
    refine X.thenN ?_
    refine Y.seq ?_
    refine Y.block ?_
    refine Y.seq ?_
    refine Y.lit (by kernel_rfl) ?_
    refine Y.pval F (X.w0 rfl) rfl (X.move rfl (F.ev 43 (.int .i64 i))) ?_
    clear F ac
    intro ac F
    obtain ⟨pd14, pe14, -, -, pc14⟩ := hnd.at (j := i) (by omega)
    subst pe14
    replace hC : RCells w12 [(⟨w.heap.size, 0, none⟩, .int .i64 gr), (⟨w.heap.size, 1, none⟩, .int .i64 hold), (⟨w.heap.size, 2, none⟩, .slice (some pd14) n nc), (pd14.add (i * 5), .int .i64 (cv nd i 0)), (⟨(pd14.add (i * 5)).block, (pd14.add (i * 5)).off + 1, none⟩, .int .i64 (cv nd i 1)), (⟨(pd14.add (i * 5)).block, (pd14.add (i * 5)).off + 2, none⟩, .int .i64 (cv nd i 2)), (⟨(pd14.add (i * 5)).block, (pd14.add (i * 5)).off + 3, none⟩, .int .i64 (cv nd i 3)), (⟨(pd14.add (i * 5)).block, (pd14.add (i * 5)).off + 4, none⟩, .int .i64 (cv nd i 4))] := hC.append ((RCells.cons (pc14 0 (by decide)) (RCells.cons (pc14 1 (by decide)) (RCells.cons (pc14 2 (by decide)) (RCells.cons (pc14 3 (by decide)) (RCells.cons (pc14 4 (by decide)) (RCells.nil _)))))))
    clear pc14
    refine Y.pval F (X.w0 rfl) rfl (X.index rfl (F.ev 41 (.slice (some pd14) n nc)) (F.ev 43 (.int .i64 i)) (X.idx (k := i) Try.underlying22 (Try.siz31 _) (by omega) (by omega) rfl)) ?_
    clear F ac
    intro ac F
    refine Y.pval F (X.w0 rfl) rfl (X.load rfl (F.ev 46 (.pointer (some (pd14.add (i * 5))))) (X.ldN (Try.agg31 _) (Try.siz31 _) (Y.atz (pd14.add (i * 5)) (Y.AtFrom.cons (hC.at 3 rfl) (Y.AtFrom.cons (hC.at 4 rfl) (Y.AtFrom.cons (hC.at 5 rfl) (Y.AtFrom.cons (hC.at 6 rfl) (Y.AtFrom.cons (hC.at 7 rfl) (Y.AtFrom.nil _ _ _))))))))) ?_
    clear F ac
    intro ac F
    refine Y.pval F (X.w0 rfl) rfl (Y.al rfl (Try.new31 _)) ?_
    clear F ac
    intro ac F
    refine Y.pval F (X.w0 rfl) rfl (X.assign rfl (F.ev 45 (.int .i64 i))) ?_
    clear F ac
    intro ac F
    refine Y.punit F (X.w0 rfl) rfl (X.store rfl (F.ev 13 (.pointer (some ⟨w12.heap.size, 0, none⟩))) (F.ev 47 (.agg #[.int .i64 (cv nd i 0), .int .i64 (cv nd i 1), .int .i64 (cv nd i 2), .int .i64 (cv nd i 3), .int .i64 (cv nd i 4)])) (Y.stNew [.int .i64 (cv nd i 0), .int .i64 (cv nd i 1), .int .i64 (cv nd i 2), .int .i64 (cv nd i 3), .int .i64 (cv nd i 4)] [.int .i64 0, .int .i64 0, .int .i64 0, .int .i64 0, .int .i64 0] (Try.siz31 _) rfl rfl)) ?_
    clear F ac
    intro ac F
    have hq15 : w6.heap.size < w12.heap.size := hS.lt
    have hq16 : w.heap.size < w12.heap.size := lt_cell (hC.at 0 rfl)
    have g := Gr.alloc w12 (.cells #[.int .i64 (cv nd i 0), .int .i64 (cv nd i 1), .int .i64 (cv nd i 2), .int .i64 (cv nd i 3), .int .i64 (cv nd i 4)] 31)
    have hb := heap_alloc_new w12 (.cells #[.int .i64 (cv nd i 0), .int .i64 (cv nd i 1), .int .i64 (cv nd i 2), .int .i64 (cv nd i 3), .int .i64 (cv nd i 4)] 31)
    have hbl : w12.heap.size < (w12.alloc (.cells #[.int .i64 (cv nd i 0), .int .i64 (cv nd i 1), .int .i64 (cv nd i 2), .int .i64 (cv nd i 3), .int .i64 (cv nd i 4)] 31)).heap.size := by simp
    have hC2 : RCells (w12.alloc (.cells #[.int .i64 (cv nd i 0), .int .i64 (cv nd i 1), .int .i64 (cv nd i 2), .int .i64 (cv nd i 3), .int .i64 (cv nd i 4)] 31)) [(⟨w.heap.size, 0, none⟩, .int .i64 gr), (⟨w.heap.size, 1, none⟩, .int .i64 hold), (⟨w.heap.size, 2, none⟩, .slice (some pd14) n nc), (pd14.add (i * 5), .int .i64 (cv nd i 0)), (⟨(pd14.add (i * 5)).block, (pd14.add (i * 5)).off + 1, none⟩, .int .i64 (cv nd i 1)), (⟨(pd14.add (i * 5)).block, (pd14.add (i * 5)).off + 2, none⟩, .int .i64 (cv nd i 2)), (⟨(pd14.add (i * 5)).block, (pd14.add (i * 5)).off + 3, none⟩, .int .i64 (cv nd i 3)), (⟨(pd14.add (i * 5)).block, (pd14.add (i * 5)).off + 4, none⟩, .int .i64 (cv nd i 4)), (⟨w12.heap.size, 0, none⟩, .int .i64 (cv nd i 0)), (⟨w12.heap.size, 1, none⟩, .int .i64 (cv nd i 1)), (⟨w12.heap.size, 2, none⟩, .int .i64 (cv nd i 2)), (⟨w12.heap.size, 3, none⟩, .int .i64 (cv nd i 3)), (⟨w12.heap.size, 4, none⟩, .int .i64 (cv nd i 4))] := hC.box (b := w12.heap.size) #[.int .i64 (cv nd i 0), .int .i64 (cv nd i 1), .int .i64 (cv nd i 2), .int .i64 (cv nd i 3), .int .i64 (cv nd i 4)] 31 rfl
    generalize w12.alloc (.cells #[.int .i64 (cv nd i 0), .int .i64 (cv nd i 1), .int .i64 (cv nd i 2), .int .i64 (cv nd i 3), .int .i64 (cv nd i 4)] 31) = w17 at *
    replace G := G.trans g
    replace hC := hC2
    clear hC2
    replace hI1 := hI1.thenGr g
    replace hI2 := hI2.thenGr g
    replace hnd := hnd.gr g
    replace hl := hl.gr g
    replace hIa := hIa.gr g
    replace hIr := hIr.gr g
    replace hS := hS.gr g
    clear g hb hbl
    refine Y.nil ?_
    replace F : Fr ac 73 [(0, .agg #[.int .i64 gr, .int .i64 hold, .slice (some pd14) n nc]), (1, .int .i64 t), (2, .slice la m lc), (3, .pointer (some ⟨w.heap.size, 0, none⟩)), (6, .slice (some pd11) t.toNat rc), (7, .slice (some ⟨w6.heap.size, 0, none⟩) n n), (8, .int .i64 0), (9, .pointer (some ⟨bp, 0, none⟩)), (11, .int .i64 (((runFrom hold gr.toNat n l (startS nd) t.toNat).rows)[k]?.getD 0)), (12, .int .i64 i), (13, .pointer (some ⟨w12.heap.size, 0, none⟩)), (22, .bool false), (34, .slice (some pd11) t.toNat rc), (35, .int .i64 t.toNat), (36, .int .i64 k), (37, .bool true), (41, .slice (some pd14) n nc), (42, .int .i64 n), (43, .int .i64 i), (44, .bool true)] := F.sub _
    refine X.thenN ?_
    refine Y.seq ?_
    refine Y.lit (by kernel_rfl) ?_
    refine Y.pval F (X.w0 rfl) rfl (X.move rfl (F.ev 11 (.int .i64 (((runFrom hold gr.toNat n l (startS nd) t.toNat).rows)[k]?.getD 0)))) ?_
    clear F ac
    intro ac F
    refine Y.pval F (X.w0 rfl) rfl (X.move rfl (F.ev 12 (.int .i64 i))) ?_
    clear F ac
    intro ac F
    refine Y.pval F (X.w0 rfl) rfl (X.binop rfl (F.ev 48 (.int .i64 (((runFrom hold gr.toNat n l (startS nd) t.toNat).rows)[k]?.getD 0))) (F.ev 49 (.int .i64 i)) (X.shrI Try.underlying3 rfl (by omega))) ?_
    clear F ac
    intro ac F
    refine Y.pval F (X.w0 rfl) rfl (X.binop rfl (F.ev 50 (.int .i64 (shrV (((runFrom hold gr.toNat n l (startS nd) t.toNat).rows)[k]?.getD 0 : Int) (i : Int)))) (X.kc (.int .i64 1) rfl) (X.andI Try.underlying3 rfl)) ?_
    clear F ac
    intro ac F
    refine Y.pval F (X.w0 rfl) rfl (X.binop rfl (F.ev 51 (.int .i64 (andV (shrV (((runFrom hold gr.toNat n l (startS nd) t.toNat).rows)[k]?.getD 0 : Int) (i : Int) : Int) 1))) (X.kc (.int .i64 1) rfl) (X.eqlI Try.underlying3 rfl)) ?_
    clear F ac
    intro ac F
    refine Y.nil ?_
    replace F : Fr ac 73 [(0, .agg #[.int .i64 gr, .int .i64 hold, .slice (some pd14) n nc]), (1, .int .i64 t), (2, .slice la m lc), (3, .pointer (some ⟨w.heap.size, 0, none⟩)), (6, .slice (some pd11) t.toNat rc), (7, .slice (some ⟨w6.heap.size, 0, none⟩) n n), (8, .int .i64 0), (9, .pointer (some ⟨bp, 0, none⟩)), (11, .int .i64 (((runFrom hold gr.toNat n l (startS nd) t.toNat).rows)[k]?.getD 0)), (12, .int .i64 i), (13, .pointer (some ⟨w12.heap.size, 0, none⟩)), (22, .bool false), (34, .slice (some pd11) t.toNat rc), (35, .int .i64 t.toNat), (36, .int .i64 k), (37, .bool true), (41, .slice (some pd14) n nc), (42, .int .i64 n), (43, .int .i64 i), (44, .bool true), (52, .bool ((andV (shrV (((runFrom hold gr.toNat n l (startS nd) t.toNat).rows)[k]?.getD 0 : Int) (i : Int) : Int) 1 : Int) == 1))] := F.sub _
    refine X.thenN ?_
    cases h18 : ((andV (shrV (((runFrom hold gr.toNat n l (startS nd) t.toNat).rows)[k]?.getD 0 : Int) (i : Int) : Int) 1 : Int) == 1) with
    | false =>
     try rw [h18] at F
     have h18p : ¬ (andV (shrV (((runFrom hold gr.toNat n l (startS nd) t.toNat).rows)[k]?.getD 0 : Int) (i : Int) : Int) 1 : Int) = 1 := by simpa using h18
     refine Y.condF (F.ev 52 (.bool false)) ?_
     replace hC : RCells w17 [(⟨w.heap.size, 0, none⟩, .int .i64 gr), (⟨w.heap.size, 1, none⟩, .int .i64 hold), (⟨w.heap.size, 2, none⟩, .slice (some pd14) n nc), (pd14.add (i * 5), .int .i64 (cv nd i 0)), (⟨(pd14.add (i * 5)).block, (pd14.add (i * 5)).off + 1, none⟩, .int .i64 (cv nd i 1)), (⟨(pd14.add (i * 5)).block, (pd14.add (i * 5)).off + 2, none⟩, .int .i64 (cv nd i 2)), (⟨(pd14.add (i * 5)).block, (pd14.add (i * 5)).off + 3, none⟩, .int .i64 (cv nd i 3)), (⟨(pd14.add (i * 5)).block, (pd14.add (i * 5)).off + 4, none⟩, .int .i64 (cv nd i 4)), (⟨w12.heap.size, 0, none⟩, .int .i64 (cv nd i 0)), (⟨w12.heap.size, 1, none⟩, .int .i64 (cv nd i 1)), (⟨w12.heap.size, 2, none⟩, .int .i64 (cv nd i 2)), (⟨w12.heap.size, 3, none⟩, .int .i64 (cv nd i 3)), (⟨w12.heap.size, 4, none⟩, .int .i64 (cv nd i 4)), (⟨w6.heap.size, i, none⟩, .int .i64 ((enP nd ((runFrom hold gr.toNat n l (startS nd) t.toNat).rows[k]?.getD 0) i (enS nd ((runFrom hold gr.toNat n l (startS nd) t.toNat).rows.take k))) i))] := hC.append ((RCells.cons (hS.cell (k := i) (by omega)) (RCells.nil _)))
     refine Y.regionS F [some (.slice (some ⟨w6.heap.size, 0, none⟩) n n), some (.int .i64 i), some (.pointer (some ⟨w6.heap.size, i, none⟩)), some (.int .i64 ((enP nd ((runFrom hold gr.toNat n l (startS nd) t.toNat).rows[k]?.getD 0) i (enS nd ((runFrom hold gr.toNat n l (startS nd) t.toNat).rows.take k))) i)), some (.pointer (some ⟨w12.heap.size, 2, none⟩)), some (.int .i64 (cv nd i 2)), some (.int .i64 (((enP nd ((runFrom hold gr.toNat n l (startS nd) t.toNat).rows[k]?.getD 0) i (enS nd ((runFrom hold gr.toNat n l (startS nd) t.toNat).rows.take k))) i : Int) + (cv nd i 2))), some (.pointer (some ⟨w6.heap.size, i, none⟩)), none] [] 8 (fun _ W => Only (fun x => x = w6.heap.size) w17 W ∧ OwnP W w6.heap.size (n) (EV ((fun z_ => if z_ = i then ((enP nd ((runFrom hold gr.toNat n l (startS nd) t.toNat).rows[k]?.getD 0) i (enS nd ((runFrom hold gr.toNat n l (startS nd) t.toNat).rows.take k))) i : Int) + (cv nd i 2) else (enP nd ((runFrom hold gr.toNat n l (startS nd) t.toNat).rows[k]?.getD 0) i (enS nd ((runFrom hold gr.toNat n l (startS nd) t.toNat).rows.take k))) z_)))) rfl ⟨by kernel_rfl, of_decide_eq_true (by kernel_rfl), by kernel_rfl, by kernel_rfl, by kernel_rfl⟩ (of_decide_eq_true (by kernel_rfl)) ⟨?_, ?_, ?_, ?_, ?_, ?_, ?_, ?_, ?_, trivial⟩ ?_
     ·intro ac done u W Sx hT
      have hs := Sx.no 8 (by kernel_rfl)
      have hR := hT.1 hs
      exact X.val (X.w0 rfl) rfl (X.move rfl (Sx.ev 7 (.slice (some ⟨w6.heap.size, 0, none⟩) n n))) (Y.RT.of hs rfl (hR.step (Gr.refl _) rfl))
     ·intro ac done u W Sx hT
      have hs := Sx.no 8 (by kernel_rfl)
      have hR := hT.1 hs
      exact X.val (X.w0 rfl) rfl (X.move rfl (Sx.ev 12 (.int .i64 i))) (Y.RT.of hs rfl (hR.step (Gr.refl _) rfl))
     ·intro ac done u W Sx hT
      have hs := Sx.no 8 (by kernel_rfl)
      have hR := hT.1 hs
      exact X.val (X.w0 rfl) rfl (X.index rfl (Sx.ev 61 (.slice (some ⟨w6.heap.size, 0, none⟩) n n)) (Sx.ev 62 (.int .i64 i)) (X.idx (k := i) Try.underlying34 (Try.siz3 _) (by omega) (by omega) (by rw [Nat.mul_one]; exact addr_add0 _ _))) (Y.RT.of hs rfl (hR.step (Gr.refl _) rfl))
     ·intro ac done u W Sx hT
      have hs := Sx.no 8 (by kernel_rfl)
      have hR := hT.1 hs
      have g : Gr w17 W := hR.1
      exact X.val (X.w0 rfl) rfl (X.load rfl (Sx.ev 63 (.pointer (some ⟨w6.heap.size, i, none⟩))) (X.ld1 (Try.agg3 _) ((hC.gr g).at 13 rfl))) (Y.RT.of hs rfl (hR.step (Gr.refl _) rfl))
     ·intro ac done u W Sx hT
      have hs := Sx.no 8 (by kernel_rfl)
      have hR := hT.1 hs
      exact X.val (X.w0 rfl) rfl (X.field rfl (Sx.ev 13 (.pointer (some ⟨w12.heap.size, 0, none⟩))) (X.fld Try.underlying31 rfl (Try.siz3 _) rfl rfl)) (Y.RT.of hs rfl (hR.step (Gr.refl _) rfl))
     ·intro ac done u W Sx hT
      have hs := Sx.no 8 (by kernel_rfl)
      have hR := hT.1 hs
      have g : Gr w17 W := hR.1
      exact X.val (X.w0 rfl) rfl (X.load rfl (Sx.ev 65 (.pointer (some ⟨w12.heap.size, 2, none⟩))) (X.ld1 (Try.agg3 _) ((hC.gr g).at 10 rfl))) (Y.RT.of hs rfl (hR.step (Gr.refl _) rfl))
     ·intro ac done u W Sx hT
      have hs := Sx.no 8 (by kernel_rfl)
      have hR := hT.1 hs
      exact X.val (X.w0 rfl) rfl (X.binop rfl (Sx.ev 64 (.int .i64 ((enP nd ((runFrom hold gr.toNat n l (startS nd) t.toNat).rows[k]?.getD 0) i (enS nd ((runFrom hold gr.toNat n l (startS nd) t.toNat).rows.take k))) i))) (Sx.ev 66 (.int .i64 (cv nd i 2))) (X.addI Try.underlying3 rfl (by omega) (by omega))) (Y.RT.of hs rfl (hR.step (Gr.refl _) rfl))
     ·intro ac done u W Sx hT
      have hs := Sx.no 8 (by kernel_rfl)
      have hR := hT.1 hs
      exact X.val (X.w0 rfl) rfl (X.index rfl (Sx.ev 61 (.slice (some ⟨w6.heap.size, 0, none⟩) n n)) (Sx.ev 62 (.int .i64 i)) (X.idx (k := i) Try.underlying34 (Try.siz3 _) (by omega) (by omega) (by rw [Nat.mul_one]; exact addr_add0 _ _))) (Y.RT.of hs rfl (hR.step (Gr.refl _) rfl))
     ·intro ac done u W Sx hT
      have hR := hT.1 Sx.nd
      have g : Gr w17 W := hR.1
      have hS2 := (hS.gr g).set (k := i) (.int .i64 (((enP nd ((runFrom hold gr.toNat n l (startS nd) t.toNat).rows[k]?.getD 0) i (enS nd ((runFrom hold gr.toNat n l (startS nd) t.toNat).rows.take k))) i : Int) + (cv nd i 2)))
      rw [EV_up] at hS2
      exact X.unit (X.w0 rfl) rfl (X.store rfl (Sx.ev 68 (.pointer (some ⟨w6.heap.size, i, none⟩))) (Sx.ev 67 (.int .i64 (((enP nd ((runFrom hold gr.toNat n l (startS nd) t.toNat).rows[k]?.getD 0) i (enS nd ((runFrom hold gr.toNat n l (startS nd) t.toNat).rows.take k))) i : Int) + (cv nd i 2)))) ((hS.gr g).st1 (Try.siz3 _) rfl rfl (by omega))) (Y.RT.fin ⟨(g.only _).trans (Y.set_only _ _ _ _), hS2⟩)
     rintro ac u w19 hs hd hl_ ho ⟨hon, hS2⟩
     replace F : Fr ac 73 [(0, .agg #[.int .i64 gr, .int .i64 hold, .slice (some pd14) n nc]), (1, .int .i64 t), (2, .slice la m lc), (3, .pointer (some ⟨w.heap.size, 0, none⟩)), (6, .slice (some pd11) t.toNat rc), (7, .slice (some ⟨w6.heap.size, 0, none⟩) n n), (8, .int .i64 0), (9, .pointer (some ⟨bp, 0, none⟩)), (11, .int .i64 (((runFrom hold gr.toNat n l (startS nd) t.toNat).rows)[k]?.getD 0)), (12, .int .i64 i), (13, .pointer (some ⟨w12.heap.size, 0, none⟩)), (22, .bool false), (34, .slice (some pd11) t.toNat rc), (35, .int .i64 t.toNat), (36, .int .i64 k), (37, .bool true), (41, .slice (some pd14) n nc), (42, .int .i64 n), (43, .int .i64 i), (44, .bool true), (52, .bool false)] := X.fr hs hd hl_ _ (by kernel_rfl)
     clear hs hd hl_ ho
     replace G := Y.Only.up G hon (by omega)
     replace hnd := hnd0.gr G
     replace hl := hl0.gr G
     replace hIa := hIa.onlyAt hon (fun ad e h => by have := hIab ad e; omega)
     replace hIr := hIr.onlyAt hon (fun ad e h => by have := hIrb ad e; omega)
     replace hC : RCells w19 [(⟨w.heap.size, 0, none⟩, .int .i64 gr), (⟨w.heap.size, 1, none⟩, .int .i64 hold), (⟨w.heap.size, 2, none⟩, .slice (some pd14) n nc), (⟨w12.heap.size, 0, none⟩, .int .i64 (cv nd i 0)), (⟨w12.heap.size, 1, none⟩, .int .i64 (cv nd i 1)), (⟨w12.heap.size, 2, none⟩, .int .i64 (cv nd i 2)), (⟨w12.heap.size, 3, none⟩, .int .i64 (cv nd i 3)), (⟨w12.heap.size, 4, none⟩, .int .i64 (cv nd i 4))] := (RCells.cons (hon.cell (hC.at 0 rfl) (by show ¬ w.heap.size = w6.heap.size; omega)) (RCells.cons (hon.cell (hC.at 1 rfl) (by show ¬ w.heap.size = w6.heap.size; omega)) (RCells.cons (hon.cell (hC.at 2 rfl) (by show ¬ w.heap.size = w6.heap.size; omega)) (RCells.cons (hon.cell (hC.at 8 rfl) (by show ¬ w12.heap.size = w6.heap.size; omega)) (RCells.cons (hon.cell (hC.at 9 rfl) (by show ¬ w12.heap.size = w6.heap.size; omega)) (RCells.cons (hon.cell (hC.at 10 rfl) (by show ¬ w12.heap.size = w6.heap.size; omega)) (RCells.cons (hon.cell (hC.at 11 rfl) (by show ¬ w12.heap.size = w6.heap.size; omega)) (RCells.cons (hon.cell (hC.at 12 rfl) (by show ¬ w12.heap.size = w6.heap.size; omega)) (RCells.nil _)))))))))
     replace hI1 := hI1.step hon (.inl rfl)
     replace hI2 := hI2.step hon (.inl rfl)
     replace hS : OwnP w19 w6.heap.size (n) (EV ((fun z_ => if z_ = i then ((enP nd ((runFrom hold gr.toNat n l (startS nd) t.toNat).rows[k]?.getD 0) i (enS nd ((runFrom hold gr.toNat n l (startS nd) t.toNat).rows.take k))) i : Int) + (cv nd i 2) else (enP nd ((runFrom hold gr.toNat n l (startS nd) t.toNat).rows[k]?.getD 0) i (enS nd ((runFrom hold gr.toNat n l (startS nd) t.toNat).rows.take k))) z_))) := hS2
     clear hS2 hon
     refine X.blockN ?_
     refine X.thenN ?_
     refine Y.lit (by kernel_rfl) ?_
     refine Y.pval F (X.w0 rfl) rfl (X.binop rfl (F.ev 43 (.int .i64 i)) (X.kc (.int .i64 1) rfl) (X.addI Try.underlying3 rfl (by omega) (by omega))) ?_
     clear F ac
     intro ac F
     refine Y.pval F (X.w0 rfl) rfl (X.move rfl (F.ev 69 (.int .i64 ((i : Int) + 1)))) ?_
     clear F ac
     intro ac F
     refine Y.nil ?_
     replace F : Fr ac 73 [(0, .agg #[.int .i64 gr, .int .i64 hold, .slice (some pd14) n nc]), (1, .int .i64 t), (2, .slice la m lc), (3, .pointer (some ⟨w.heap.size, 0, none⟩)), (6, .slice (some pd11) t.toNat rc), (7, .slice (some ⟨w6.heap.size, 0, none⟩) n n), (8, .int .i64 0), (9, .pointer (some ⟨bp, 0, none⟩)), (11, .int .i64 (((runFrom hold gr.toNat n l (startS nd) t.toNat).rows)[k]?.getD 0)), (12, .int .i64 i), (13, .pointer (some ⟨w12.heap.size, 0, none⟩)), (22, .bool false), (34, .slice (some pd11) t.toNat rc), (35, .int .i64 t.toNat), (36, .int .i64 k), (37, .bool true), (41, .slice (some pd14) n nc), (42, .int .i64 n), (43, .int .i64 ((i : Int) + 1)), (44, .bool true), (52, .bool false)] := F.sub _
     refine X.thenN ?_
     refine ⟨_, ?_, i + 1, rfl, by omega, hI2, (by rw [enP_succ nd _ i _ (by unfold en1 bitB; simp [h18])] at hS; exact hS), F.sub _⟩
     omega
    | true =>
     try rw [h18] at F
     have h18p : (andV (shrV (((runFrom hold gr.toNat n l (startS nd) t.toNat).rows)[k]?.getD 0 : Int) (i : Int) : Int) 1 : Int) = 1 := by simpa using h18
     refine Y.condT (F.ev 52 (.bool true)) ?_
     replace hC : RCells w17 [(⟨w.heap.size, 0, none⟩, .int .i64 gr), (⟨w.heap.size, 1, none⟩, .int .i64 hold), (⟨w.heap.size, 2, none⟩, .slice (some pd14) n nc), (pd14.add (i * 5), .int .i64 (cv nd i 0)), (⟨(pd14.add (i * 5)).block, (pd14.add (i * 5)).off + 1, none⟩, .int .i64 (cv nd i 1)), (⟨(pd14.add (i * 5)).block, (pd14.add (i * 5)).off + 2, none⟩, .int .i64 (cv nd i 2)), (⟨(pd14.add (i * 5)).block, (pd14.add (i * 5)).off + 3, none⟩, .int .i64 (cv nd i 3)), (⟨(pd14.add (i * 5)).block, (pd14.add (i * 5)).off + 4, none⟩, .int .i64 (cv nd i 4)), (⟨w12.heap.size, 0, none⟩, .int .i64 (cv nd i 0)), (⟨w12.heap.size, 1, none⟩, .int .i64 (cv nd i 1)), (⟨w12.heap.size, 2, none⟩, .int .i64 (cv nd i 2)), (⟨w12.heap.size, 3, none⟩, .int .i64 (cv nd i 3)), (⟨w12.heap.size, 4, none⟩, .int .i64 (cv nd i 4)), (⟨w6.heap.size, i, none⟩, .int .i64 ((enP nd ((runFrom hold gr.toNat n l (startS nd) t.toNat).rows[k]?.getD 0) i (enS nd ((runFrom hold gr.toNat n l (startS nd) t.toNat).rows.take k))) i))] := hC.append ((RCells.cons (hS.cell (k := i) (by omega)) (RCells.nil _)))
     refine Y.regionS F [some (.slice (some ⟨w6.heap.size, 0, none⟩) n n), some (.int .i64 i), some (.pointer (some ⟨w6.heap.size, i, none⟩)), some (.int .i64 ((enP nd ((runFrom hold gr.toNat n l (startS nd) t.toNat).rows[k]?.getD 0) i (enS nd ((runFrom hold gr.toNat n l (startS nd) t.toNat).rows.take k))) i)), some (.pointer (some ⟨w12.heap.size, 1, none⟩)), some (.int .i64 (cv nd i 1)), some (.int .i64 (((enP nd ((runFrom hold gr.toNat n l (startS nd) t.toNat).rows[k]?.getD 0) i (enS nd ((runFrom hold gr.toNat n l (startS nd) t.toNat).rows.take k))) i : Int) + (cv nd i 1))), some (.pointer (some ⟨w6.heap.size, i, none⟩)), none] [] 8 (fun _ W => Only (fun x => x = w6.heap.size) w17 W ∧ OwnP W w6.heap.size (n) (EV ((fun z_ => if z_ = i then ((enP nd ((runFrom hold gr.toNat n l (startS nd) t.toNat).rows[k]?.getD 0) i (enS nd ((runFrom hold gr.toNat n l (startS nd) t.toNat).rows.take k))) i : Int) + (cv nd i 1) else (enP nd ((runFrom hold gr.toNat n l (startS nd) t.toNat).rows[k]?.getD 0) i (enS nd ((runFrom hold gr.toNat n l (startS nd) t.toNat).rows.take k))) z_)))) rfl ⟨by kernel_rfl, of_decide_eq_true (by kernel_rfl), by kernel_rfl, by kernel_rfl, by kernel_rfl⟩ (of_decide_eq_true (by kernel_rfl)) ⟨?_, ?_, ?_, ?_, ?_, ?_, ?_, ?_, ?_, trivial⟩ ?_
     ·intro ac done u W Sx hT
      have hs := Sx.no 8 (by kernel_rfl)
      have hR := hT.1 hs
      exact X.val (X.w0 rfl) rfl (X.move rfl (Sx.ev 7 (.slice (some ⟨w6.heap.size, 0, none⟩) n n))) (Y.RT.of hs rfl (hR.step (Gr.refl _) rfl))
     ·intro ac done u W Sx hT
      have hs := Sx.no 8 (by kernel_rfl)
      have hR := hT.1 hs
      exact X.val (X.w0 rfl) rfl (X.move rfl (Sx.ev 12 (.int .i64 i))) (Y.RT.of hs rfl (hR.step (Gr.refl _) rfl))
     ·intro ac done u W Sx hT
      have hs := Sx.no 8 (by kernel_rfl)
      have hR := hT.1 hs
      exact X.val (X.w0 rfl) rfl (X.index rfl (Sx.ev 53 (.slice (some ⟨w6.heap.size, 0, none⟩) n n)) (Sx.ev 54 (.int .i64 i)) (X.idx (k := i) Try.underlying34 (Try.siz3 _) (by omega) (by omega) (by rw [Nat.mul_one]; exact addr_add0 _ _))) (Y.RT.of hs rfl (hR.step (Gr.refl _) rfl))
     ·intro ac done u W Sx hT
      have hs := Sx.no 8 (by kernel_rfl)
      have hR := hT.1 hs
      have g : Gr w17 W := hR.1
      exact X.val (X.w0 rfl) rfl (X.load rfl (Sx.ev 55 (.pointer (some ⟨w6.heap.size, i, none⟩))) (X.ld1 (Try.agg3 _) ((hC.gr g).at 13 rfl))) (Y.RT.of hs rfl (hR.step (Gr.refl _) rfl))
     ·intro ac done u W Sx hT
      have hs := Sx.no 8 (by kernel_rfl)
      have hR := hT.1 hs
      exact X.val (X.w0 rfl) rfl (X.field rfl (Sx.ev 13 (.pointer (some ⟨w12.heap.size, 0, none⟩))) (X.fld Try.underlying31 rfl (Try.siz3 _) rfl rfl)) (Y.RT.of hs rfl (hR.step (Gr.refl _) rfl))
     ·intro ac done u W Sx hT
      have hs := Sx.no 8 (by kernel_rfl)
      have hR := hT.1 hs
      have g : Gr w17 W := hR.1
      exact X.val (X.w0 rfl) rfl (X.load rfl (Sx.ev 57 (.pointer (some ⟨w12.heap.size, 1, none⟩))) (X.ld1 (Try.agg3 _) ((hC.gr g).at 9 rfl))) (Y.RT.of hs rfl (hR.step (Gr.refl _) rfl))
     ·intro ac done u W Sx hT
      have hs := Sx.no 8 (by kernel_rfl)
      have hR := hT.1 hs
      exact X.val (X.w0 rfl) rfl (X.binop rfl (Sx.ev 56 (.int .i64 ((enP nd ((runFrom hold gr.toNat n l (startS nd) t.toNat).rows[k]?.getD 0) i (enS nd ((runFrom hold gr.toNat n l (startS nd) t.toNat).rows.take k))) i))) (Sx.ev 58 (.int .i64 (cv nd i 1))) (X.addI Try.underlying3 rfl (by omega) (by omega))) (Y.RT.of hs rfl (hR.step (Gr.refl _) rfl))
     ·intro ac done u W Sx hT
      have hs := Sx.no 8 (by kernel_rfl)
      have hR := hT.1 hs
      exact X.val (X.w0 rfl) rfl (X.index rfl (Sx.ev 53 (.slice (some ⟨w6.heap.size, 0, none⟩) n n)) (Sx.ev 54 (.int .i64 i)) (X.idx (k := i) Try.underlying34 (Try.siz3 _) (by omega) (by omega) (by rw [Nat.mul_one]; exact addr_add0 _ _))) (Y.RT.of hs rfl (hR.step (Gr.refl _) rfl))
     ·intro ac done u W Sx hT
      have hR := hT.1 Sx.nd
      have g : Gr w17 W := hR.1
      have hS2 := (hS.gr g).set (k := i) (.int .i64 (((enP nd ((runFrom hold gr.toNat n l (startS nd) t.toNat).rows[k]?.getD 0) i (enS nd ((runFrom hold gr.toNat n l (startS nd) t.toNat).rows.take k))) i : Int) + (cv nd i 1)))
      rw [EV_up] at hS2
      exact X.unit (X.w0 rfl) rfl (X.store rfl (Sx.ev 60 (.pointer (some ⟨w6.heap.size, i, none⟩))) (Sx.ev 59 (.int .i64 (((enP nd ((runFrom hold gr.toNat n l (startS nd) t.toNat).rows[k]?.getD 0) i (enS nd ((runFrom hold gr.toNat n l (startS nd) t.toNat).rows.take k))) i : Int) + (cv nd i 1)))) ((hS.gr g).st1 (Try.siz3 _) rfl rfl (by omega))) (Y.RT.fin ⟨(g.only _).trans (Y.set_only _ _ _ _), hS2⟩)
     rintro ac u w20 hs hd hl_ ho ⟨hon, hS2⟩
     replace F : Fr ac 73 [(0, .agg #[.int .i64 gr, .int .i64 hold, .slice (some pd14) n nc]), (1, .int .i64 t), (2, .slice la m lc), (3, .pointer (some ⟨w.heap.size, 0, none⟩)), (6, .slice (some pd11) t.toNat rc), (7, .slice (some ⟨w6.heap.size, 0, none⟩) n n), (8, .int .i64 0), (9, .pointer (some ⟨bp, 0, none⟩)), (11, .int .i64 (((runFrom hold gr.toNat n l (startS nd) t.toNat).rows)[k]?.getD 0)), (12, .int .i64 i), (13, .pointer (some ⟨w12.heap.size, 0, none⟩)), (22, .bool false), (34, .slice (some pd11) t.toNat rc), (35, .int .i64 t.toNat), (36, .int .i64 k), (37, .bool true), (41, .slice (some pd14) n nc), (42, .int .i64 n), (43, .int .i64 i), (44, .bool true), (52, .bool true)] := X.fr hs hd hl_ _ (by kernel_rfl)
     clear hs hd hl_ ho
     replace G := Y.Only.up G hon (by omega)
     replace hnd := hnd0.gr G
     replace hl := hl0.gr G
     replace hIa := hIa.onlyAt hon (fun ad e h => by have := hIab ad e; omega)
     replace hIr := hIr.onlyAt hon (fun ad e h => by have := hIrb ad e; omega)
     replace hC : RCells w20 [(⟨w.heap.size, 0, none⟩, .int .i64 gr), (⟨w.heap.size, 1, none⟩, .int .i64 hold), (⟨w.heap.size, 2, none⟩, .slice (some pd14) n nc), (⟨w12.heap.size, 0, none⟩, .int .i64 (cv nd i 0)), (⟨w12.heap.size, 1, none⟩, .int .i64 (cv nd i 1)), (⟨w12.heap.size, 2, none⟩, .int .i64 (cv nd i 2)), (⟨w12.heap.size, 3, none⟩, .int .i64 (cv nd i 3)), (⟨w12.heap.size, 4, none⟩, .int .i64 (cv nd i 4))] := (RCells.cons (hon.cell (hC.at 0 rfl) (by show ¬ w.heap.size = w6.heap.size; omega)) (RCells.cons (hon.cell (hC.at 1 rfl) (by show ¬ w.heap.size = w6.heap.size; omega)) (RCells.cons (hon.cell (hC.at 2 rfl) (by show ¬ w.heap.size = w6.heap.size; omega)) (RCells.cons (hon.cell (hC.at 8 rfl) (by show ¬ w12.heap.size = w6.heap.size; omega)) (RCells.cons (hon.cell (hC.at 9 rfl) (by show ¬ w12.heap.size = w6.heap.size; omega)) (RCells.cons (hon.cell (hC.at 10 rfl) (by show ¬ w12.heap.size = w6.heap.size; omega)) (RCells.cons (hon.cell (hC.at 11 rfl) (by show ¬ w12.heap.size = w6.heap.size; omega)) (RCells.cons (hon.cell (hC.at 12 rfl) (by show ¬ w12.heap.size = w6.heap.size; omega)) (RCells.nil _)))))))))
     replace hI1 := hI1.step hon (.inl rfl)
     replace hI2 := hI2.step hon (.inl rfl)
     replace hS : OwnP w20 w6.heap.size (n) (EV ((fun z_ => if z_ = i then ((enP nd ((runFrom hold gr.toNat n l (startS nd) t.toNat).rows[k]?.getD 0) i (enS nd ((runFrom hold gr.toNat n l (startS nd) t.toNat).rows.take k))) i : Int) + (cv nd i 1) else (enP nd ((runFrom hold gr.toNat n l (startS nd) t.toNat).rows[k]?.getD 0) i (enS nd ((runFrom hold gr.toNat n l (startS nd) t.toNat).rows.take k))) z_))) := hS2
     clear hS2 hon
     refine X.blockN ?_
     refine X.thenN ?_
     refine Y.lit (by kernel_rfl) ?_
     refine Y.pval F (X.w0 rfl) rfl (X.binop rfl (F.ev 43 (.int .i64 i)) (X.kc (.int .i64 1) rfl) (X.addI Try.underlying3 rfl (by omega) (by omega))) ?_
     clear F ac
     intro ac F
     refine Y.pval F (X.w0 rfl) rfl (X.move rfl (F.ev 69 (.int .i64 ((i : Int) + 1)))) ?_
     clear F ac
     intro ac F
     refine Y.nil ?_
     replace F : Fr ac 73 [(0, .agg #[.int .i64 gr, .int .i64 hold, .slice (some pd14) n nc]), (1, .int .i64 t), (2, .slice la m lc), (3, .pointer (some ⟨w.heap.size, 0, none⟩)), (6, .slice (some pd11) t.toNat rc), (7, .slice (some ⟨w6.heap.size, 0, none⟩) n n), (8, .int .i64 0), (9, .pointer (some ⟨bp, 0, none⟩)), (11, .int .i64 (((runFrom hold gr.toNat n l (startS nd) t.toNat).rows)[k]?.getD 0)), (12, .int .i64 i), (13, .pointer (some ⟨w12.heap.size, 0, none⟩)), (22, .bool false), (34, .slice (some pd11) t.toNat rc), (35, .int .i64 t.toNat), (36, .int .i64 k), (37, .bool true), (41, .slice (some pd14) n nc), (42, .int .i64 n), (43, .int .i64 ((i : Int) + 1)), (44, .bool true), (52, .bool true)] := F.sub _
     refine X.thenN ?_
     refine ⟨_, ?_, i + 1, rfl, by omega, hI2, (by rw [enP_succ nd _ i _ (by unfold en1 bitB; simp [h18])] at hS; exact hS), F.sub _⟩
     omega
 ·have hE := hE
  refine Y.pcall F (X.w0 rfl) rfl (X.enter (F := 44) rfl (X.kc (.func (.func 44) #[] #[]) rfl) (X.a3 (F.ev 15 (.agg #[.int .i64 gr, .int .i64 hold, .slice na n nc])) (F.ev 16 (.int .i64 t)) (F.ev 17 (.slice la m lc))) (enters_of Try.func44 (by kernel_rfl) rfl _)) (begin_any na la n nc m lc gr hold t nd l w3 hnd hl) ?_
  clear F ac
  rintro e w21 ⟨h1, g, -⟩
  obtain rfl := h1 hE
  refine ⟨_, rfl, ?_⟩
  intro ac F
  replace G := G.trans g
  replace hC := hC.gr g
  replace hnd := hnd.gr g
  replace hl := hl.gr g
  clear g
  refine Y.pval F (X.w0 rfl) rfl (X.move rfl (F.ev 18 (.tuple #[.pointer none, .int .i64 (playE gr hold nd t l)]))) ?_
  clear F ac
  intro ac F
  refine Y.pval F (X.w0 rfl) rfl (X.extract rfl (F.ev 14 (.tuple #[.pointer none, .int .i64 (playE gr hold nd t l)])) rfl) ?_
  clear F ac
  intro ac F
  refine Y.pval F (X.w0 rfl) rfl (X.extract rfl (F.ev 14 (.tuple #[.pointer none, .int .i64 (playE gr hold nd t l)])) rfl) ?_
  clear F ac
  intro ac F
  refine Y.pval F (X.w0 rfl) rfl (X.assign rfl (F.ev 19 (.pointer none))) ?_
  clear F ac
  intro ac F
  refine Y.pval F (X.w0 rfl) rfl (X.assign rfl (F.ev 20 (.int .i64 (playE gr hold nd t l)))) ?_
  clear F ac
  intro ac F
  refine Y.nil ?_
  replace F : Fr ac 73 [(0, .agg #[.int .i64 gr, .int .i64 hold, .slice na n nc]), (1, .int .i64 t), (2, .slice la m lc), (3, .pointer (some ⟨w.heap.size, 0, none⟩)), (6, .slice none 0 0), (7, .slice none 0 0), (8, .int .i64 (playE gr hold nd t l)), (9, .pointer none)] := F.sub _
  refine X.thenN ?_
  refine Y.seq ?_
  refine Y.seq ?_
  refine Y.lit (by kernel_rfl) ?_
  refine Y.pval F (X.w0 rfl) rfl (X.move rfl (F.ev 8 (.int .i64 (playE gr hold nd t l)))) ?_
  clear F ac
  intro ac F
  refine Y.pval F (X.w0 rfl) rfl (X.binop rfl (F.ev 21 (.int .i64 (playE gr hold nd t l))) (X.kc (.int .i64 0) rfl) (X.neqI Try.underlying26 rfl)) ?_
  clear F ac
  intro ac F
  refine Y.nil ?_
  replace F : Fr ac 73 [(0, .agg #[.int .i64 gr, .int .i64 hold, .slice na n nc]), (1, .int .i64 t), (2, .slice la m lc), (3, .pointer (some ⟨w.heap.size, 0, none⟩)), (6, .slice none 0 0), (7, .slice none 0 0), (8, .int .i64 (playE gr hold nd t l)), (9, .pointer none), (22, .bool ((playE gr hold nd t l : Int) != 0))] := F.sub _
  refine X.thenN ?_
  have h23 : ((playE gr hold nd t l : Int) != 0) = true := by simpa using hE
  try rw [h23] at F
  refine Y.condT (F.ev 22 (.bool true)) ?_
  refine Y.seq ?_
  refine Y.lit (by kernel_rfl) ?_
  refine Y.pval F (X.w0 rfl) rfl (X.move rfl (F.ev 8 (.int .i64 (playE gr hold nd t l)))) ?_
  clear F ac
  intro ac F
  refine Y.pval F (X.w0 rfl) rfl (X.assign rfl (X.kc (.slice none 0 0) rfl)) ?_
  clear F ac
  intro ac F
  refine Y.pval F (X.w0 rfl) rfl (X.assign rfl (X.kc (.slice none 0 0) rfl)) ?_
  clear F ac
  intro ac F
  refine Y.pval F (X.w0 rfl) rfl (X.assign rfl (F.ev 23 (.int .i64 (playE gr hold nd t l)))) ?_
  clear F ac
  intro ac F
  refine Y.nil ?_
  replace F : Fr ac 73 [(0, .agg #[.int .i64 gr, .int .i64 hold, .slice na n nc]), (1, .int .i64 t), (2, .slice la m lc), (3, .pointer (some ⟨w.heap.size, 0, none⟩)), (6, .slice none 0 0), (7, .slice none 0 0), (8, .int .i64 (playE gr hold nd t l)), (9, .pointer none), (22, .bool true)] := F.sub _
  refine X.thenN ?_
  refine Y.ret ?_
  refine X.thenR ?_
  exact Y.ret0 (v := .tuple #[.slice none 0 0, .slice none 0 0, .int .i64 (playE gr hold nd t l)]) F (Y.rs3 F rfl (by kernel_rfl) (by kernel_rfl) (by kernel_rfl)) ⟨none, 0, 0, none, 0, 0, rfl, by unfold playRows; rw [if_neg hE]; exact Ints.nil _, by unfold playEn; rw [if_neg hE]; exact Ints.nil _, G⟩
end
section
set_option linter.unusedVariables false
open Go.RowKit
theorem stc {P : Program} {b n : Nat} : ∀ (rest : List Value) (i : Nat) (W : World) (val : Nat → Value), OwnP W b n val → i + rest.length ≤ n → (rest.all fun v => v.oneCell') = true →
    ∃ W', (storeCells ⟨b, 0, none⟩ rest i).run P W = .ok () W' ∧ OwnP W' b n (fun k => if i ≤ k ∧ k < i + rest.length then rest.getD (k - i) undef else val k) ∧ Only (fun z => z = b) W W' := by
  intro rest
  induction rest with
  | nil => intro i W val h _ _; exact ⟨W, by simp [storeCells, go_sem], h.congr (fun k _ => by rw [if_neg (by simp only [List.length_nil]; omega)]), Only.refl _ _⟩
  | cons v rest ih =>
    intro i W val h hi h1
    simp only [List.all_cons, Bool.and_eq_true, List.length_cons] at h1 hi
    have hs := run_store P W ⟨b, i, none⟩ v .plain h1.1
    rw [h.cell (k := i) (by omega), h.fz] at hs
    simp only [Bool.false_eq_true, if_false] at hs
    obtain ⟨W', hr, hO, hon⟩ := ih (i + 1) _ _ (h.set (k := i) v) (by omega) h1.2
    refine ⟨W', ?_, hO.congr (fun k hk => ?_), (Y.set_only _ _ _ _).trans hon⟩
    · have e : (⟨b, 0, none⟩ : Addr).add i = ⟨b, i, none⟩ := addr_add0 _ _
      simp [storeCells, e, hs, go_sem]
      exact hr
    · simp only [List.length_cons]
      by_cases e : k = i
      · subst e; rw [if_neg (by omega), if_pos rfl, if_pos (by omega)]; simp
      · by_cases e2 : i + 1 ≤ k ∧ k < i + 1 + rest.length
        · rw [if_pos e2, if_pos (by omega), show k - i = (k - (i + 1)) + 1 by omega]; simp
        · rw [if_neg e2, if_neg e, if_neg (by omega)]
theorem OwnP.stL {P : Program} {W : World} {b n : Nat} {val : Nat → Value} {t : TypeId} (vs : List Value) (h : OwnP W b n val) (hn : vs.length = n) (hS : ∀ W, (sizeOf t).run P W = .ok vs.length W) (h1 : (vs.all fun v => v.oneCell') = true) :
    ∃ W', (Instr.storeAt t (.pointer (some ⟨b, 0, none⟩)) (.agg vs.toArray)).run P W = .ok () W' ∧ OwnP W' b n (VL vs) ∧ Only (fun z => z = b) W W' := by
  obtain ⟨W', hr, hO, hon⟩ := stc (P := P) vs 0 W val h (by omega) h1
  refine ⟨W', ?_, hO.congr (fun k hk => ?_), hon⟩
  · simp [Instr.storeAt, storeVar, Instr.sureAddr, hS, Value.cells, go_sem]
    exact hr
  · rw [if_pos (by omega)]; rfl
theorem stAt_own {W : World} {b n k : Nat} {L : List (List Int)} (h : OwnP W b (n * k) (fun j => .int .i64 (cv L (j / k) (j % k)))) (hl : L.length = n) (hk : ∀ j, j < n → (L[j]?.getD []).length = k) (hn : n * k * 8 ≤ 140737488351232) : StAt W k (some ⟨b, 0, none⟩) n L :=
  ⟨hl, hn, fun j hj => ⟨_, rfl, h.lt, hk j hj, fun r hr => by
    rw [addr_add0, Y.addr_add]
    have h1 : (j * k + r) / k = j := by
      rw [Nat.mul_comm, Nat.mul_add_div (by omega), Nat.div_eq_of_lt hr, Nat.add_zero]
    have h2 : (j * k + r) % k = r := by
      rw [Nat.mul_comm, Nat.mul_add_mod, Nat.mod_eq_of_lt hr]
    have h3 : j * k + r < n * k := by
      have := Nat.mul_le_mul_right k (show j + 1 ≤ n by omega)
      rw [Nat.add_mul, Nat.one_mul] at this
      omega
    rw [h.cell h3]
    show some (Value.int .i64 (cv L ((j * k + r) / k) ((j * k + r) % k))) = _
    rw [h1, h2]; rfl⟩⟩
def exN : List (List Int) := [[1, 10, 1, 1, 5], [3, 20, 2, 2, 10], [2, 30, 0, 0, 1]]
def exL : List (List Int) := [[1, 1, 1, 0], [2, 2, 1, 0]]
set_option maxRecDepth 100000 in
theorem ex_e : playE 2 3 exN 6 exL = 0 := by decide +kernel
set_option maxRecDepth 100000 in
theorem ex_t : ticksE 2 3 exN 8 = 0 := by decide +kernel
set_option maxRecDepth 100000 in
theorem ex_p : parkV 2 3 exN 8 = 186 := by decide +kernel
set_option maxRecDepth 100000 in
theorem ex_pr : playRows 2 3 exN 6 exL = [0, 3, 3, 3, 0, 0] := by decide +kernel
set_option maxRecDepth 100000 in
theorem ex_en : playEn 2 3 exN 6 exL = [33, 66, 0] := by decide +kernel
theorem exN_at {W : World} {b : Nat} {t : TypeId} (h : W.heap[b]? = some (.cells #[.int .i64 1, .int .i64 10, .int .i64 1, .int .i64 1, .int .i64 5, .int .i64 3, .int .i64 20, .int .i64 2, .int .i64 2, .int .i64 10, .int .i64 2, .int .i64 30, .int .i64 0, .int .i64 0, .int .i64 1] t)) : StAt W 5 (some ⟨b, 0, none⟩) 3 exN :=
  stAt_own ⟨_, _, h, by simp, fun k hk => by
    match k, hk with
    | 0, _ | 1, _ | 2, _ | 3, _ | 4, _ | 5, _ | 6, _ | 7, _ | 8, _ | 9, _ | 10, _ | 11, _ | 12, _ | 13, _ | 14, _ => rfl⟩ rfl (fun j hj => by
    match j, hj with
    | 0, _ | 1, _ | 2, _ => rfl) (by decide)
theorem exL_at {W : World} {b : Nat} {t : TypeId} (h : W.heap[b]? = some (.cells #[.int .i64 1, .int .i64 1, .int .i64 1, .int .i64 0, .int .i64 2, .int .i64 2, .int .i64 1, .int .i64 0] t)) : StAt W 4 (some ⟨b, 0, none⟩) 2 exL :=
  stAt_own ⟨_, _, h, by simp, fun k hk => by
    match k, hk with
    | 0, _ | 1, _ | 2, _ | 3, _ | 4, _ | 5, _ | 6, _ | 7, _ => rfl⟩ rfl (fun j hj => by
    match j, hj with
    | 0, _ | 1, _ => rfl) (by decide)
theorem Try.exb1 (W : World) : (Instr.build 31 #[(0, .int .i64 1), (1, .int .i64 10), (2, .int .i64 1), (3, .int .i64 1), (4, .int .i64 5)]).run Try.prog W = .ok (.agg #[.int .i64 1, .int .i64 10, .int .i64 1, .int .i64 1, .int .i64 5]) W := by kernel_rfl
theorem Try.exb2 (W : World) : (Instr.build 31 #[(0, .int .i64 3), (1, .int .i64 20), (2, .int .i64 2), (3, .int .i64 2), (4, .int .i64 10)]).run Try.prog W = .ok (.agg #[.int .i64 3, .int .i64 20, .int .i64 2, .int .i64 2, .int .i64 10]) W := by kernel_rfl
theorem Try.exb3 (W : World) : (Instr.build 31 #[(0, .int .i64 2), (1, .int .i64 30), (4, .int .i64 1)]).run Try.prog W = .ok (.agg #[.int .i64 2, .int .i64 30, .int .i64 0, .int .i64 0, .int .i64 1]) W := by kernel_rfl
theorem Try.exs (W : World) : (Instr.buildSlice 22 3 #[(0, .agg #[.int .i64 1, .int .i64 10, .int .i64 1, .int .i64 1, .int .i64 5]), (1, .agg #[.int .i64 3, .int .i64 20, .int .i64 2, .int .i64 2, .int .i64 10]), (2, .agg #[.int .i64 2, .int .i64 30, .int .i64 0, .int .i64 0, .int .i64 1])]).run Try.prog W = .ok (.slice (some ⟨W.heap.size, 0, none⟩) 3 3) (W.alloc (.cells #[.int .i64 1, .int .i64 10, .int .i64 1, .int .i64 1, .int .i64 5, .int .i64 3, .int .i64 20, .int .i64 2, .int .i64 2, .int .i64 10, .int .i64 2, .int .i64 30, .int .i64 0, .int .i64 0, .int .i64 1] 31)) := by kernel_rfl
theorem Try.exc (a : Option Addr) (n c : Nat) (g h : Int) (W : World) : (Instr.build 24 #[(0, .int .i64 g), (1, .int .i64 h), (2, .slice a n c)]).run Try.prog W = .ok (.agg #[.int .i64 g, .int .i64 h, .slice a n c]) W := by kernel_rfl
theorem Try.exn1 (W : World) : (Instr.build 33 #[(0, .int .i64 1), (1, .int .i64 1), (2, .int .i64 1)]).run Try.prog W = .ok (.agg #[.int .i64 1, .int .i64 1, .int .i64 1, .int .i64 0]) W := by kernel_rfl
theorem Try.exn2 (W : World) : (Instr.build 33 #[(0, .int .i64 2), (1, .int .i64 2), (2, .int .i64 1)]).run Try.prog W = .ok (.agg #[.int .i64 2, .int .i64 2, .int .i64 1, .int .i64 0]) W := by kernel_rfl
theorem Try.exm (W : World) : (Instr.buildSlice 25 2 #[(0, .agg #[.int .i64 1, .int .i64 1, .int .i64 1, .int .i64 0]), (1, .agg #[.int .i64 2, .int .i64 2, .int .i64 1, .int .i64 0])]).run Try.prog W = .ok (.slice (some ⟨W.heap.size, 0, none⟩) 2 2) (W.alloc (.cells #[.int .i64 1, .int .i64 1, .int .i64 1, .int .i64 0, .int .i64 2, .int .i64 2, .int .i64 1, .int .i64 0] 33)) := by kernel_rfl
theorem Try.exr (W : World) : (Instr.buildSlice 34 6 #[(0, .int .i64 0), (1, .int .i64 3), (2, .int .i64 3), (3, .int .i64 3), (4, .int .i64 0), (5, .int .i64 0)]).run Try.prog W = .ok (.slice (some ⟨W.heap.size, 0, none⟩) 6 6) (W.alloc (.cells #[.int .i64 0, .int .i64 3, .int .i64 3, .int .i64 3, .int .i64 0, .int .i64 0] 3)) := by kernel_rfl
theorem Try.exq (W : World) : (Instr.buildSlice 34 3 #[(0, .int .i64 33), (1, .int .i64 66), (2, .int .i64 0)]).run Try.prog W = .ok (.slice (some ⟨W.heap.size, 0, none⟩) 3 3) (W.alloc (.cells #[.int .i64 33, .int .i64 66, .int .i64 0] 3)) := by kernel_rfl
theorem exr_at {W : World} {b : Nat} {t : TypeId} (h : W.heap[b]? = some (.cells #[.int .i64 0, .int .i64 3, .int .i64 3, .int .i64 3, .int .i64 0, .int .i64 0] t)) : Ints W (some ⟨b, 0, none⟩) 6 [0, 3, 3, 3, 0, 0] :=
  ⟨rfl, by decide, fun j hj => ⟨_, rfl, (Array.getElem?_eq_some_iff.1 h).1, by
    rw [addr_add0]
    exact cell_at h (by
      match j, hj with
      | 0, _ | 1, _ | 2, _ | 3, _ | 4, _ | 5, _ => rfl)⟩⟩
theorem exq_at {W : World} {b : Nat} {t : TypeId} (h : W.heap[b]? = some (.cells #[.int .i64 33, .int .i64 66, .int .i64 0] t)) : Ints W (some ⟨b, 0, none⟩) 3 [33, 66, 0] :=
  ⟨rfl, by decide, fun j hj => ⟨_, rfl, (Array.getElem?_eq_some_iff.1 h).1, by
    rw [addr_add0]
    exact cell_at h (by
      match j, hj with
      | 0, _ | 1, _ | 2, _ => rfl)⟩⟩
theorem Y.rc13 {P : Program} {A : Act} {W : World} {n : Nat} {L : List (Nat × Value)} {D : List Deferred} {fn : Func} {s b : Nat} {t : TypeId} {x y z : Value} (F : Fr A n L D) (hr : fn.results = #[.cell s t]) (hA : (isAgg t).run P W = .ok true W) (hS : (sizeOf t).run P W = .ok 3 W) (hp : lookS L s = some (.pointer (some ⟨b, 0, none⟩))) (h : OwnP W b 3 (VL [x, y, z])) : (results fn A.tmps).run P W = .ok (.agg #[x, y, z]) W := by
  have e := F.look hp
  have hl : W.cell? ⟨b, 0, none⟩ = some x := h.cell (k := 0) (by decide)
  have hl1 : W.cell? ⟨b, 1, none⟩ = some y := h.cell (k := 1) (by decide)
  have hl2 : W.cell? ⟨b, 2, none⟩ = some z := h.cell (k := 2) (by decide)
  simp [results, hr, e, asAddr, hl, hl1, hl2, hA, hS, go_sem]
theorem same_no {xs ys : List Int} {j : Nat} (hj : j < xs.length) (hl : xs.length = ys.length) (h : ¬ xs[j]?.getD 0 = ys[j]?.getD 0) : decide (xs = ys) = false := by
  simp only [decide_eq_false_iff_not]
  intro e; subst e; exact h rfl
theorem same_yes {xs ys : List Int} (hl : xs.length = ys.length) (h : ∀ j, j < xs.length → xs[j]?.getD 0 = ys[j]?.getD 0) : decide (xs = ys) = true := by
  simp only [decide_eq_true_eq]
  apply List.ext_getElem hl
  intro i h1 h2
  have := h i h1
  rw [List.getElem?_eq_getElem h1, List.getElem?_eq_getElem h2] at this
  simpa using this
end
section
set_option linter.unusedVariables false
open Go.RowKit
theorem bit01 {g k : Int} (h0 : 0 ≤ g) (h1 : g ≤ 1000000) (hk : 0 ≤ k) : andV (shrV g k) 1 = 0 ∨ andV (shrV g k) 1 = 1 := by
  obtain ⟨a, rfl⟩ : ∃ a : Nat, g = a := ⟨g.toNat, by omega⟩
  obtain ⟨b, rfl⟩ : ∃ b : Nat, k = b := ⟨k.toNat, by omega⟩
  rw [shr_nat (by omega), show (1 : Int) = ((1 : Nat) : Int) from rfl, and_nat (Nat.lt_of_le_of_lt (Nat.shiftRight_le a b) (by omega)) (by decide)]
  have h2 : a >>> b &&& 1 ≤ 1 := Nat.and_le_right
  omega
theorem shl_zero (i : Int) : shlV 0 i = 0 := by
  unfold shlV
  rw [Int.zero_mul]; rfl
theorem or_zero {a : Int} (h0 : 0 ≤ a) (h1 : a ≤ 1000000) : orV a 0 = a := by
  obtain ⟨b, rfl⟩ : ∃ b : Nat, a = b := ⟨a.toNat, by omega⟩
  rw [show (0 : Int) = ((0 : Nat) : Int) from rfl, or_nat (by omega) (by decide)]
  simp
theorem or_bd {a b : Int} {k : Nat} (hk : k ≤ 20) (h0 : 0 ≤ a) (h1 : a < 2 ^ k) (h2 : 0 ≤ b) (h3 : b < 2 ^ k) : 0 ≤ orV a b ∧ orV a b < 2 ^ k := by
  obtain ⟨x, rfl⟩ : ∃ x : Nat, a = x := ⟨a.toNat, by omega⟩
  obtain ⟨y, rfl⟩ : ∃ y : Nat, b = y := ⟨b.toNat, by omega⟩
  have e : (2 : Nat) ^ k ≤ 2 ^ 20 := Nat.pow_le_pow_right (by decide) hk
  have e2 : ((2 : Nat) ^ k : Nat) = (2 : Int) ^ k := by simp
  have hx : x < 2 ^ k := by rw [← e2] at h1; exact Int.ofNat_lt.1 h1
  have hy : y < 2 ^ k := by rw [← e2] at h3; exact Int.ofNat_lt.1 h3
  rw [or_nat (by omega) (by omega)]
  have := Nat.or_lt_two_pow hx hy
  rw [← e2]
  omega
/-- which nodes belong to a group -/
def memV (nd : List (List Int)) (k : Int) : Nat → Int
  | 0 => 0
  | i + 1 => if bitB (cv nd i 0) k then orV (memV nd k i) (shlV 1 i) else memV nd k i
theorem memV_bd (nd : List (List Int)) (k : Int) : ∀ i, i ≤ 16 → 0 ≤ memV nd k i ∧ memV nd k i ≤ 65535
  | 0, _ => by simp [memV]
  | i + 1, hi => by
    have ih := memV_bd nd k i (by omega)
    simp only [memV]
    split
    · have h1 := shl_nat (k := i) (by omega)
      have h2 : (2 : Nat) ^ i ≤ 32768 := Nat.le_trans (Nat.pow_le_pow_right (by decide) (by omega : i ≤ 15)) (by decide)
      generalize 2 ^ i = z at h1 h2
      have e : (2 : Int) ^ 16 = 65536 := by decide
      have := or_bd (k := 16) (a := memV nd k i) (b := shlV 1 i) (by decide) ih.1 (by omega) (by omega) (by omega)
      omega
    · exact ih
theorem memV_step {nd : List (List Int)} {k : Int} {i : Nat} (hi : i < 16) (hk : 0 ≤ k) (h0 : 0 ≤ cv nd i 0) (h1 : cv nd i 0 ≤ 1000000) : orV (memV nd k i) (shlV (andV (shrV (cv nd i 0) k) 1) i) = memV nd k (i + 1) := by
  have hb := memV_bd nd k i (by omega)
  simp only [memV]
  rcases bit01 h0 h1 hk with h | h
  · rw [h, if_neg (by unfold bitB; rw [h]; decide), shl_zero, or_zero hb.1 (by omega)]
  · rw [h, if_pos (by unfold bitB; rw [h]; rfl)]
def memE (gr hold : Int) (nd : List (List Int)) (k : Int) : Int := if cluE gr hold nd ≠ 0 then cluE gr hold nd else if withinB k 0 (gr - 1) then 0 else 1
def memR (gr hold : Int) (nd : List (List Int)) (k : Int) : Int := if memE gr hold nd k = 0 then memV nd k nd.length else 0
/-- what all nodes take if some groups are awake -/
def sumC (nd : List (List Int)) (set : Int) : Nat → Int
  | 0 => 0
  | i + 1 => sumC nd set i + (if andV (cv nd i 0) set = 0 then cv nd i 2 else cv nd i 1)
def allC (nd : List (List Int)) (need set : Int) : Nat → Bool
  | 0 => true
  | i + 1 => allC nd need set i && (!(decide (andV (cv nd i 0) set = 0) && bitB need i))
theorem allC_false {nd : List (List Int)} {need set : Int} : ∀ {n i : Nat}, i < n → andV (cv nd i 0) set = 0 → bitB need i = true → allC nd need set n = false
  | n + 1, i, hi, h1, h2 => by
    by_cases e : i = n
    · subst e; simp [allC, h1, h2]
    · simp [allC, allC_false (n := n) (by omega) h1 h2]
theorem sumC_bd {gr hold : Int} {nd : List (List Int)} (h : CluOk gr hold nd) (set : Int) : ∀ i, i ≤ nd.length → 0 ≤ sumC nd set i ∧ sumC nd set i ≤ i * 10000
  | 0, _ => by simp [sumC]
  | i + 1, hi => by
    have ih := sumC_bd h set i (by omega)
    have a := h.awk i (by omega)
    have b := h.asl i (by omega)
    simp only [sumC]
    split <;> omega
/-- found, the groups, the least -/
structure ChS where
  f : Bool
  g : Int
  l : Int
def chS (nd : List (List Int)) (need : Int) : Nat → ChS
  | 0 => ⟨false, 0, 0⟩
  | s + 1 => if (allC nd need s nd.length && (!(chS nd need s).f || decide (sumC nd s nd.length < (chS nd need s).l))) = true then ⟨true, s, sumC nd s nd.length⟩ else chS nd need s
theorem chS_g (nd : List (List Int)) (need : Int) : ∀ s, 0 ≤ (chS nd need s).g
  | 0 => Int.le_refl _
  | s + 1 => by
    simp only [chS]
    split
    · simp only; omega
    · exact chS_g nd need s
def chE (gr hold : Int) (nd : List (List Int)) (need : Int) : Int :=
  if cluE gr hold nd ≠ 0 then cluE gr hold nd else if withinB need 0 (shlV 1 (nd.length : Nat) - 1) then (if (chS nd need (shlV 1 gr).toNat).f then 0 else 3) else 1
def chG (gr hold : Int) (nd : List (List Int)) (need : Int) : Int := if chE gr hold nd need = 0 then (chS nd need (shlV 1 gr).toNat).g else 0
def chL (gr hold : Int) (nd : List (List Int)) (need : Int) : Int := if chE gr hold nd need = 0 then (chS nd need (shlV 1 gr).toNat).l else 0
end
section
set_option linter.unusedVariables false
open Go.RowKit
/-- the nudges of the law: all members of the groups ask for them -/
def wnN (nd : List (List Int)) (G : Int) (g : Nat) : Nat → List (List Int)
  | 0 => []
  | i + 1 => wnN nd G g i ++ (if bitB G g && bitB (cv nd i 0) g then [[0, 1, (i : Int), (g : Int)]] else [])
def wnL (nd : List (List Int)) (G : Int) (n : Nat) : Nat → List (List Int)
  | 0 => []
  | g + 1 => wnL nd G n g ++ wnN nd G g n
section
variable {nd : List (List Int)} {G : Int}
theorem wnN_len (g : Nat) : ∀ i, (wnN nd G g i).length ≤ i
  | 0 => Nat.le_refl _
  | i + 1 => by
    have := wnN_len g i
    simp only [wnN, List.length_append]
    split <;> simp <;> omega
theorem wnL_len (n : Nat) : ∀ g, (wnL nd G n g).length ≤ g * n
  | 0 => Nat.zero_le _
  | g + 1 => by
    have h1 := wnL_len n g
    have h2 := wnN_len (nd := nd) (G := G) g n
    simp only [wnL, List.length_append]
    rw [Nat.succ_mul]; omega
theorem wnN_mem {g : Nat} {x : List Int} : ∀ {i : Nat}, x ∈ wnN nd G g i ↔ ∃ j, j < i ∧ bitB G g = true ∧ bitB (cv nd j 0) g = true ∧ x = [0, 1, (j : Int), (g : Int)]
  | 0 => by simp [wnN]
  | i + 1 => by
    simp only [wnN, List.mem_append, wnN_mem (i := i)]
    constructor
    · rintro (⟨j, hj, h⟩ | h)
      · exact ⟨j, by omega, h⟩
      · split at h
        · rename_i hc
          rw [Bool.and_eq_true] at hc
          exact ⟨i, by omega, hc.1, hc.2, by simpa using h⟩
        · cases h
    · rintro ⟨j, hj, h1, h2, h3⟩
      by_cases e : j = i
      · subst e; right; rw [h1, h2]; simpa using h3
      · left; exact ⟨j, by omega, h1, h2, h3⟩
theorem wnL_mem {n : Nat} {x : List Int} : ∀ {g : Nat}, x ∈ wnL nd G n g ↔ ∃ b, b < g ∧ ∃ j, j < n ∧ bitB G b = true ∧ bitB (cv nd j 0) b = true ∧ x = [0, 1, (j : Int), (b : Int)]
  | 0 => by simp [wnL]
  | g + 1 => by
    simp only [wnL, List.mem_append, wnL_mem (g := g), wnN_mem]
    constructor
    · rintro (⟨b, hb, h⟩ | h)
      · exact ⟨b, by omega, h⟩
      · exact ⟨g, by omega, h⟩
    · rintro ⟨b, hb, h⟩
      by_cases e : b = g
      · subst e; exact .inr h
      · exact .inl ⟨b, by omega, h⟩
end
theorem wk_valid {gr hold G : Int} {nd : List (List Int)} {n : Nat} (hc : cluE gr hold nd = 0) (hn : nd.length = n) : playE gr hold nd 1 (wnL nd G n gr.toNat) = 0 := by
  have hk := cluE_ok hc
  have h8 := hk.g8
  have h1 := hk.g1
  have h16 := hk.n16
  have hT : ticksE gr hold nd 1 = 0 := by
    unfold ticksE
    rw [if_neg (by rw [hc]; simp), if_pos (withinB_of (by omega) (by omega))]
  have hlen : (wnL nd G n gr.toNat).length ≤ 128 := by
    have h2 := wnL_len (nd := nd) (G := G) n gr.toNat
    have : gr.toNat * n ≤ 8 * 16 := Nat.mul_le_mul (by omega) (by omega)
    omega
  have hall : allN (fun i => rightB gr nd 1 ((wnL nd G n gr.toNat)[i]?.getD [])) (wnL nd G n gr.toNat).length = true := allN_iff.2 fun i hi => by
    rw [List.getElem?_eq_getElem hi]
    show rightB gr nd _ (wnL nd G n gr.toNat)[i] = true
    obtain ⟨b, hb, j, hj, _, h3, e⟩ := wnL_mem.1 (List.getElem_mem hi)
    rw [e]
    unfold rightB kindB
    show (withinB (0 : Int) 0 _ && (withinB (j : Int) 0 _ && (if (1 : Int) = 1 ∨ (1 : Int) = 2 then withinB (b : Int) 0 (gr - 1) && bitB (cv nd (j : Int).toNat 0) b else _))) = true
    rw [if_pos (.inl rfl), withinB_of (by omega) (by omega), withinB_of (by omega) (by omega), withinB_of (by omega) (by omega), Int.toNat_natCast, h3]
    rfl
  unfold playE nudgeB
  rw [if_neg (by rw [hT]; simp), hall]
  simp
  omega
theorem asks_fold : ∀ (L : List (List Int)) (s : PS), AskOk s → (∀ x ∈ L, nv x 1 = 1 ∧ 0 ≤ nv x 2 ∧ 0 ≤ nv x 3 ∧ nv x 3 < 8) → ∀ j b : Nat, ((L.foldl askX s) j 5).toNat.testBit b = true ↔ ((s j 5).toNat.testBit b = true ∨ ∃ x ∈ L, nv x 2 = j ∧ nv x 3 = b)
  | [], s, _, _, j, b => by simp
  | x :: L, s, hs, hL, j, b => by
    obtain ⟨h1, h2, h3, h4⟩ := hL x (by simp)
    show ((L.foldl askX (askX s x)) j 5).toNat.testBit b = true ↔ _
    rw [asks_fold L _ (hs.askX h3 h4) (fun y hy => hL y (by simp [hy])) j b]
    have key : (askX s x j 5).toNat.testBit b = true ↔ ((s j 5).toNat.testBit b = true ∨ nv x 2 = j ∧ nv x 3 = b) := by
      unfold askX askA
      rw [if_neg (by omega)]
      by_cases e : j = (nv x 2).toNat
      · subst e
        obtain ⟨A, hA, hA2⟩ := hs (nv x 2).toNat
        obtain ⟨k, hk⟩ : ∃ k : Nat, nv x 3 = k := ⟨(nv x 3).toNat, by omega⟩
        have h5 : (2 : Nat) ^ k < 2 ^ 8 := Nat.pow_lt_pow_right (by decide) (by omega)
        have h6 : (2 : Nat) ^ 8 = 256 := by decide
        rw [up_same, hA, hk, shl_nat (by omega), or_nat (by omega) (by omega), Int.toNat_natCast, Int.toNat_natCast, Nat.testBit_or, Nat.testBit_two_pow]
        simp only [Bool.or_eq_true, decide_eq_true_eq]
        constructor
        · rintro (h | h)
          · exact .inl h
          · exact .inr ⟨by omega, by omega⟩
        · rintro (h | h)
          · exact .inl h
          · exact .inr (by omega)
      · rw [up_ne _ _ (.inl e)]
        constructor
        · exact .inl
        · rintro (h | h)
          · exact h
          · exact absurd h.1 (by omega)
    rw [key]
    simp only [List.mem_cons, exists_eq_or_imp]
    constructor
    · rintro ((h | h) | h)
      · exact .inl h
      · exact .inr (.inl h)
      · exact .inr (.inr h)
    · rintro (h | h | h)
      · exact .inl (.inl h)
      · exact .inl (.inr h)
      · exact .inr h
section
variable {gr hold G : Int} {nd : List (List Int)}
theorem wk_ask (hE : playE gr hold nd 1 (wnL nd G nd.length gr.toNat) = 0) (j b : Nat) : (askT hold gr.toNat nd.length (wnL nd G nd.length gr.toNat) (startS nd) 0 j 5).toNat.testBit b = true ↔ (b < gr.toNat ∧ j < nd.length ∧ bitB G b = true ∧ bitB (cv nd j 0) b = true) := by
  have hok := playE_ok hE
  have h8 := hok.c.g8
  have hp : picks (wnL nd G nd.length gr.toNat) ((0 : Nat) : Int) [1, 2] = wnL nd G nd.length gr.toNat := List.filter_eq_self.2 fun x hx => by
    obtain ⟨b, _, j, _, _, _, rfl⟩ := wnL_mem.1 hx
    rfl
  show ((askS (wnL nd G nd.length gr.toNat) ((0 : Nat) : Int) (startS nd)) j 5).toNat.testBit b = true ↔ _
  unfold askS
  rw [hp, asks_fold _ _ (startS_askOk nd) (fun x hx => by
    obtain ⟨b, hb, j, _, _, _, rfl⟩ := wnL_mem.1 hx
    exact ⟨rfl, Int.natCast_nonneg j, Int.natCast_nonneg b, by show (b : Int) < 8; omega⟩)]
  have h0 : (startS nd j 5).toNat.testBit b = false := by
    show (0 : Int).toNat.testBit b = false
    exact Nat.zero_testBit b
  rw [h0]
  constructor
  · rintro (h | ⟨x, hx, h2, h3⟩)
    · cases h
    · obtain ⟨b', hb, j', hj, h4, h5, rfl⟩ := wnL_mem.1 hx
      have e1 : (j' : Int) = j := h2
      have e2 : (b' : Int) = b := h3
      obtain rfl : j' = j := by omega
      obtain rfl : b' = b := by omega
      exact ⟨hb, hj, h4, h5⟩
  · rintro ⟨hb, hj, h4, h5⟩
    exact .inr ⟨_, wnL_mem.2 ⟨b, hb, j, hj, h4, h5, rfl⟩, rfl, rfl⟩
/-- who is awake in the first tick -/
theorem wk_row (hE : playE gr hold nd 1 (wnL nd G nd.length gr.toNat) = 0) (hG0 : 0 ≤ G) (hG1 : G ≤ 65535) {i : Nat} (hi : i < nd.length) : bitB ((playRows gr hold nd 1 (wnL nd G nd.length gr.toNat))[0]?.getD 0) i = true ↔ andV (cv nd i 0) G ≠ 0 := by
  have hok := playE_ok hE
  have h16 := hok.c.n16
  have h8 := hok.c.g8
  obtain ⟨Gi, hGi, hGi2, hGi3⟩ := hok.c.groups hi
  obtain ⟨g, rfl⟩ : ∃ g : Nat, G = g := ⟨G.toNat, by omega⟩
  rw [hGi, and_bit (by omega) (by omega)]
  constructor
  · intro h
    refine Classical.byContradiction fun hn => ?_
    have hq : andV ((playAsk gr hold nd 1 (wnL nd (g : Int) nd.length gr.toNat))[0]?.getD 0) (cv nd i 0) = 0 := by
      obtain ⟨A, h1, h2, h3⟩ := asks_nat (fun i hi => askT_ok hE 0 hi) nd.length (Nat.le_refl _)
      rw [play_ask hE (by decide), hGi]
      unfold asksG
      rw [h1]
      refine Classical.byContradiction fun hne => ?_
      obtain ⟨b, hb1, hb2⟩ := (and_bit (by omega) (by omega)).1 hne
      obtain ⟨j, hj, hjb⟩ := (h3 b).1 hb1
      have h4 := (wk_ask hE j b).1 hjb
      have h5 := h4.2.2.1
      rw [bit_nat (by omega)] at h5
      exact hn ⟨b, hb2, h5⟩
    have hz : ∀ j, j < 9 → sndT hold gr.toNat nd.length (wnL nd (g : Int) nd.length gr.toNat) (startS nd) 0 i (6 + j) = 0 := fun j hj => by
      rw [quiet_tick hE (by decide) hi hq (fun x hx hc => by
        obtain ⟨b, _, j, _, _, _, rfl⟩ := wnL_mem.1 hx
        exact absurd hc.1 (by show ¬ (1 : Int) = 3; decide)) hj]
      show startS nd i (6 + j) = 0
      unfold startS
      rw [if_neg (by omega), if_neg (by omega)]
    rw [play_bit hE (by decide) hi] at h
    obtain ⟨j, hj, hp⟩ := awB_iff.1 h
    rw [hz j hj] at hp
    omega
  · rintro ⟨b, h1, h2⟩
    have hb := hGi3 b h1
    have hgb : bitB (cv nd i 0) b = true := by rw [hGi, bit_nat (by omega)]; exact h1
    refine awake_hit (b := b) hE (by decide) hi hi ?_ ((wk_ask hE i b).2 ⟨hb, hi, by rw [bit_nat (by omega)]; exact h2, hgb⟩) (by rw [hGi]; simpa using h1)
    exact lost_none (fun x hx => by
      obtain ⟨b, _, j, _, _, _, rfl⟩ := wnL_mem.1 hx
      show ¬ (1 : Int) = 4; decide) _ _ _
theorem wk_en (hE : playE gr hold nd 1 (wnL nd G nd.length gr.toNat) = 0) (hG0 : 0 ≤ G) (hG1 : G ≤ 65535) {i : Nat} (hi : i < nd.length) : (playEn gr hold nd 1 (wnL nd G nd.length gr.toNat))[i]?.getD 0 = if andV (cv nd i 0) G = 0 then cv nd i 2 else cv nd i 1 := by
  have h1 := wk_row hE hG0 hG1 hi
  have hl := playRows_len hE
  have e : playEn gr hold nd 1 (wnL nd G nd.length gr.toNat) = (List.range nd.length).map (enS nd (playRows gr hold nd 1 (wnL nd G nd.length gr.toNat))) := by
    unfold playEn playRows; rw [if_pos hE, if_pos hE]
  rw [e]
  obtain ⟨r, hr⟩ : ∃ r, playRows gr hold nd 1 (wnL nd G nd.length gr.toNat) = [r] := by
    match hp : playRows gr hold nd 1 (wnL nd G nd.length gr.toNat), hl with
    | [r], _ => exact ⟨r, rfl⟩
    | [], h => exact absurd h (by decide)
    | _ :: _ :: _, h => exact absurd h (by simp)
  rw [hr] at h1 ⊢
  have h2 : bitB r i = true ↔ andV (cv nd i 0) G ≠ 0 := h1
  simp only [List.getElem?_map, List.getElem?_range hi, Option.map_some, Option.getD_some]
  show 0 + en1 nd r i = _
  rw [Int.zero_add]
  unfold en1
  by_cases ha : andV (cv nd i 0) G = 0
  · rw [if_pos ha, if_neg (fun h => (h2.1 h) ha)]
  · rw [if_neg ha, if_pos (h2.2 ha)]
end
/-- what Choose finds -/
theorem chS_ok {nd : List (List Int)} {need : Int} : ∀ S : Nat, (chS nd need S).f = true → (chS nd need S).g < S ∧ allC nd need (chS nd need S).g nd.length = true ∧ (chS nd need S).l = sumC nd (chS nd need S).g nd.length
  | 0, h => by cases h
  | S + 1, h => by
    simp only [chS] at h ⊢
    split
    · rename_i hc
      rw [Bool.and_eq_true] at hc
      exact ⟨by show (S : Int) < _; omega, hc.1, rfl⟩
    · rename_i hc
      rw [if_neg hc] at h
      have ih := chS_ok S h
      exact ⟨by have := ih.1; omega, ih.2.1, ih.2.2⟩
theorem chS_opt {nd : List (List Int)} {need : Int} : ∀ S s : Nat, s < S → allC nd need s nd.length = true → (chS nd need S).f = true ∧ (chS nd need S).l ≤ sumC nd s nd.length
  | 0, s, h, _ => by omega
  | S + 1, s, h, ha => by
    by_cases e : s = S
    · subst e
      simp only [chS]
      split
      · exact ⟨rfl, Int.le_refl _⟩
      · rename_i hc
        rw [ha, Bool.true_and, Bool.or_eq_true, Bool.not_eq_true', decide_eq_true_eq] at hc
        refine ⟨?_, by omega⟩
        cases hf : (chS nd need s).f with
        | true => rfl
        | false => exact absurd (.inl hf) hc
    · have ih := chS_opt S s (by omega) ha
      simp only [chS]
      split
      · rename_i hc
        rw [Bool.and_eq_true, Bool.or_eq_true, decide_eq_true_eq] at hc
        refine ⟨rfl, ?_⟩
        have h1 := ih.2
        rcases hc.2 with h2 | h2
        · rw [ih.1] at h2; cases h2
        · show sumC nd S nd.length ≤ _; omega
      · exact ih
structure ChOk (gr hold : Int) (nd : List (List Int)) (need : Int) : Prop where
  c : cluE gr hold nd = 0
  n0 : 0 ≤ need
  n1 : need ≤ shlV 1 (nd.length : Nat) - 1
  g0 : 0 ≤ chG gr hold nd need
  g1 : chG gr hold nd need < shlV 1 gr
  all : allC nd need (chG gr hold nd need) nd.length = true
  l : chL gr hold nd need = sumC nd (chG gr hold nd need) nd.length
  opt : ∀ o : Int, 0 ≤ o → o < shlV 1 gr → allC nd need o nd.length = true → chL gr hold nd need ≤ sumC nd o nd.length
theorem chE_ok {gr hold : Int} {nd : List (List Int)} {need : Int} (h : chE gr hold nd need = 0) : ChOk gr hold nd need := by
  have h0 := h
  unfold chE at h0
  split at h0
  · contradiction
  · rename_i hc
    split at h0
    · rename_i hw
      split at h0
      · rename_i hf
        have h1 := withinB_ok hw
        have h2 := chS_ok _ hf
        have eG : chG gr hold nd need = (chS nd need (shlV 1 gr).toNat).g := by unfold chG; rw [if_pos h]
        have eL : chL gr hold nd need = (chS nd need (shlV 1 gr).toNat).l := by unfold chL; rw [if_pos h]
        have hg := chS_g nd need (shlV 1 gr).toNat
        refine ⟨by simpa using hc, h1.1, h1.2, by rw [eG]; exact hg, by rw [eG]; have := h2.1; omega, by rw [eG]; exact h2.2.1, by rw [eG, eL]; exact h2.2.2, fun o h3 h4 h5 => ?_⟩
        obtain ⟨s, rfl⟩ : ∃ s : Nat, o = s := ⟨o.toNat, by omega⟩
        rw [eL]
        exact (chS_opt _ s (by omega) h5).2
      · cases h0
    · cases h0
theorem allC_ok {nd : List (List Int)} {need set : Int} {n i : Nat} (h : allC nd need set n = true) (hi : i < n) (hb : bitB need i = true) : andV (cv nd i 0) set ≠ 0 := fun e => by
  rw [allC_false hi e hb] at h; cases h
/-- all that are needed are awake -/
theorem wk_need {gr hold need : Int} {nd : List (List Int)} (h : ChOk gr hold nd need) (hE : playE gr hold nd 1 (wnL nd (chG gr hold nd need) nd.length gr.toNat) = 0) :
    andV ((playRows gr hold nd 1 (wnL nd (chG gr hold nd need) nd.length gr.toNat))[0]?.getD 0) need = need := by
  have hok := playE_ok hE
  have h16 := hok.c.n16
  have h8 := hok.c.g8
  have hg1 := hok.c.g1
  have hsh := shl_le8 (g := gr) (by omega) (by omega)
  have hG1 : chG gr hold nd need ≤ 65535 := by have := h.g1; omega
  have hrow := fun i (hi : i < nd.length) => wk_row (G := chG gr hold nd need) hE h.g0 hG1 hi
  obtain ⟨R, hR, hR2, _⟩ := passS_row (s := sndT hold gr.toNat nd.length (wnL nd (chG gr hold nd need) nd.length gr.toNat) (startS nd) 0) (n := nd.length) (by omega)
  have hp : (2 : Nat) ^ nd.length ≤ 2 ^ 16 := Nat.pow_le_pow_right (by decide) (by omega)
  have h6 : (2 : Nat) ^ 16 = 65536 := by decide
  have hn1 := h.n1
  rw [shl_nat (by omega)] at hn1
  have hn0 := h.n0
  obtain ⟨D, hD⟩ : ∃ D : Nat, need = D := ⟨need.toNat, by omega⟩
  rw [hD] at hn1
  have hrow2 : ∀ i, i < nd.length → D.testBit i = true → R.testBit i = true := fun i hi hb => by
    have h1 := (hrow i hi).2 (allC_ok h.all hi (by rw [hD, bit_nat (by omega)]; exact hb))
    rw [play_row hE (by decide), hR, bit_nat (by omega)] at h1
    exact h1
  rw [play_row hE (by decide), hR, hD, and_nat (by omega) (by omega)]
  congr 1
  refine Nat.eq_of_testBit_eq fun i => ?_
  rw [Nat.testBit_and]
  cases hb : D.testBit i with
  | false => simp
  | true =>
    have hi : i < nd.length := by
      refine Classical.byContradiction fun hn => ?_
      have : D < 2 ^ i := Nat.lt_of_lt_of_le (by omega : D < 2 ^ nd.length) (Nat.pow_le_pow_right (by decide) (by omega))
      rw [Nat.testBit_lt_two_pow this] at hb; cases hb
    rw [hrow2 i hi hb]; rfl
/-- the members of a group, as bits -/
theorem memV_bit {gr hold : Int} {nd : List (List Int)} (hc : CluOk gr hold nd) {g : Nat} : ∀ m, m ≤ nd.length → ∃ M : Nat, memV nd g m = M ∧ M < 2 ^ m ∧ ∀ i, i < m → M.testBit i = bitB (cv nd i 0) g
  | 0, _ => ⟨0, rfl, by decide, fun i h => absurd h (Nat.not_lt_zero _)⟩
  | m + 1, hm => by
    obtain ⟨M, h1, h2, h3⟩ := memV_bit hc (g := g) m (by omega)
    have h16 := hc.n16
    have hp1 : (2 : Nat) ^ m * 2 = 2 ^ (m + 1) := (Nat.pow_succ 2 m).symm
    have hp : (2 : Nat) ^ m ≤ 2 ^ 16 := Nat.pow_le_pow_right (by decide) (by omega)
    have h6 : (2 : Nat) ^ 16 = 65536 := by decide
    simp only [memV]
    cases hb : bitB (cv nd m 0) g with
    | false =>
      refine ⟨M, by simp [h1], by omega, fun i hi => ?_⟩
      by_cases e : i = m
      · subst e; rw [hb]; exact Nat.testBit_lt_two_pow h2
      · exact h3 i (by omega)
    | true =>
      refine ⟨M ||| 2 ^ m, ?_, Nat.or_lt_two_pow (by omega) (by omega), fun i hi => ?_⟩
      · rw [if_pos rfl, h1, shl_nat (by omega), or_nat (by omega) (by omega)]
      · rw [Nat.testBit_or, Nat.testBit_two_pow]
        by_cases e : i = m
        · subst e; simp [hb]
        · rw [h3 i (by omega)]; simp [Ne.symm e]
theorem mem_bit {gr hold : Int} {nd : List (List Int)} (hc : cluE gr hold nd = 0) {g i : Nat} (hg : (g : Int) < gr) (hi : i < nd.length) : memE gr hold nd g = 0 ∧ bitB (memR gr hold nd g) i = bitB (cv nd i 0) g := by
  have hE : memE gr hold nd g = 0 := by
    unfold memE
    rw [if_neg (by rw [hc]; simp), withinB_of (by omega) (by omega)]; rfl
  have hk := cluE_ok hc
  have h16 := hk.n16
  obtain ⟨M, h1, h2, h3⟩ := memV_bit hk (g := g) nd.length (Nat.le_refl _)
  have hp : (2 : Nat) ^ nd.length ≤ 2 ^ 16 := Nat.pow_le_pow_right (by decide) (by omega)
  have h6 : (2 : Nat) ^ 16 = 65536 := by decide
  refine ⟨hE, ?_⟩
  unfold memR
  rw [if_pos hE, h1, bit_nat (by omega), h3 i hi]
end
section
set_option linter.unusedVariables false
open Go.RowKit
/-- what was there before stays -/
theorem Gr.own {wb W W' : World} {v : Value} (g : Gr wb W) (h : Only (fun b => v.ownBlock = some b) W W') (hb : ∀ b, v.ownBlock = some b → wb.heap.size ≤ b) : Gr wb W' :=
  ((g.only (fun x => wb.heap.size ≤ x)).trans (h.mono' (fun i e => hb i e))).gr (fun i hi e => by omega)
/-- the cells of nudges -/
def nu4 (x : List Int) : List Value := [.int .i64 (nv x 0), .int .i64 (nv x 1), .int .i64 (nv x 2), .int .i64 (nv x 3)]
def flat4 (l : List (List Int)) : List Value := l.flatMap nu4
theorem flat4_snoc (l : List (List Int)) (x : List Int) : flat4 (l ++ [x]) = flat4 l ++ nu4 x := by
  unfold flat4; rw [List.flatMap_append]; simp
theorem flat4_at : ∀ (l : List (List Int)) (j : Nat) (u : Value), (flat4 l)[j]? = some u → u = .int .i64 (cv l (j / 4) (j % 4))
  | [], j, u, h => by simp [flat4] at h
  | x :: l, j, u, h => by
    have e : flat4 (x :: l) = nu4 x ++ flat4 l := by simp [flat4]
    rw [e] at h
    by_cases hj : j < 4
    · rw [List.getElem?_append_left (by simpa [nu4] using hj)] at h
      have h0 : j / 4 = 0 := by omega
      have h1 : j % 4 = j := by omega
      rw [h0, h1]
      obtain rfl | rfl | rfl | rfl : j = 0 ∨ j = 1 ∨ j = 2 ∨ j = 3 := by omega
      all_goals (simp [nu4] at h; rw [← h]; rfl)
    · rw [List.getElem?_append_right (by simp [nu4]; omega)] at h
      have := flat4_at l (j - 4) u (by simpa [nu4] using h)
      have h0 : j / 4 = (j - 4) / 4 + 1 := by omega
      have h1 : j % 4 = (j - 4) % 4 := by omega
      rw [h0, h1, this]; rfl
theorem OwnR.nudges {w : World} {B e n : Nat} {v : Value} {l : List (List Int)} (h : OwnR w B e 4 v n (flat4 l)) (hn : l.length = n) (h4 : ∀ x ∈ l, x.length = 4) (hm : n ≤ 1000000) :
    ∃ a c, v = .slice a n c ∧ StAt w 4 a n l := by
  have h4' : ∀ j, j < n → (l[j]?.getD []).length = 4 := fun j hj => by
    rw [List.getElem?_eq_getElem (by omega)]; exact h4 _ (List.getElem_mem _)
  rcases h.shape with ⟨rfl, h0⟩ | ⟨g, c, rfl, _, _⟩
  · subst h0
    exact ⟨none, 0, rfl, hn, by omega, fun j hj => by omega⟩
  · exact ⟨_, c, rfl, stAt_own (h.ownP (fun j u hu => flat4_at l j u hu)) hn h4' (by omega)⟩
theorem Try.bs25 (a b c d : Int) (w : World) : (Instr.buildSlice 25 1 #[(0, .agg #[.int .i64 a, .int .i64 b, .int .i64 c, .int .i64 d])]).run Try.prog w = .ok (.slice (some ⟨w.heap.size, 0, none⟩) 1 1) (w.alloc (.cells #[.int .i64 a, .int .i64 b, .int .i64 c, .int .i64 d] 33)) := by kernel_rfl
end
section
set_option linter.unusedVariables false
open Go.RowKit
theorem tmod_bd (p : Int) {q : Int} (h1 : 0 < q) : -q < p.tmod q ∧ p.tmod q < q := by
  have h2 := Int.tmod_lt_of_pos p h1
  have h3 := Int.tmod_lt_of_pos (-p) h1
  rw [Int.neg_tmod] at h3
  omega
theorem X.remT {P : Program} {W : World} {t : TypeId} (_hu : P.underlying t = some (.int .i64)) {x y : Operand} {p q z : Int} (hz : p.tmod q = z) (h1 : 0 < q) (h2 : q ≤ 4611686018427387904) : (do eqGuard .rem t x y (.int .i64 p) (.int .i64 q); binOp .rem t (.int .i64 p) (.int .i64 q) : Sem Value).run P W = .ok (.int .i64 z) W := by
  have hb := tmod_bd p h1
  have hne : ¬ q = 0 := by omega
  subst hz
  have hw := IntWalk.i64_in (p.tmod q) ⟨by omega, by omega⟩
  simp [eqGuard, binOp, Op.intDiv, go_sem, hne, hw]
end
end Go.Proofs.Ytoalamakhjbedaa
