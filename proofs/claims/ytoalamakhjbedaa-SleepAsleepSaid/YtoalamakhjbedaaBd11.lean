/- Several texts of this claim in one file. (1) Contract: Play. (2) A map keyed by states of two numbers: what a lookup and a store do. Nothing of the program is walked here. (3) Regions that draw their order and store into small variables. Nothing of the program is proved here. (4) What noise can do to a node that is parked, in plain words. Nothing of the program is proved here. (5) Contracts: cmp.Compare, cmp.Or. -/
import Derived.Test.YtoalamakhjbedaaBd7
import Derived.Test.YtoalamakhjbedaaBd10
import Derived.Test.YtoalamakhjbedaaBd4
import Derived.Test.YtoalamakhjbedaaBd3
import Derived.WideKeyArr
import Derived.MapKept
import Derived.Outline
namespace Go.Proofs.Ytoalamakhjbedaa
section
open Go.RowKit

set_option maxRecDepth 100000 in
set_option maxHeartbeats 1000000 in
theorem play_any (na la : Option Addr) (n nc m lc : Nat) (gr hold t : Int) (nd l : List (List Int)) (w : World) (hnd : StAt w 5 na n nd) (hl : StAt w 4 la m l) :
  Calls Try.prog 18 #[.agg #[.int .i64 gr, .int .i64 hold, .slice na n nc], .int .i64 t, .slice la m lc] w fun e w' => ∃ ra rn rc ea en ec, e = .returned (.tuple #[.slice ra rn rc, .slice ea en ec, .int .i64 (playE gr hold nd t l)]) ∧ Ints w' ra rn (playRows gr hold nd t l) ∧ Ints w' ea en (playEn gr hold nd t l) ∧ Gr w w' := by
 have G := Gr.refl w
 have hnd0 := hnd
 have hl0 := hl
 have hlm := hl.lt
 have hlnn := hnd.lt
 refine Y.calls 73 Try.func18 rfl rfl ?_
 intro ac F0
 have F : Fr ac 73 [(0, .agg #[.int .i64 gr, .int .i64 hold, .slice na n nc]), (1, .int .i64 t), (2, .slice la m lc)] := F0.sub _
 clear F0
 refine Y.seq ?_
 refine Y.lit (by kernel_rfl) ?_
 refine Y.pval F (X.w0 rfl) rfl (X.box rfl (F.ev 0 (.agg #[.int .i64 gr, .int .i64 hold, .slice na n nc])) X.bx) ?_
 clear F ac
 intro ac F
 have g := Gr.alloc w (.cells #[.int .i64 gr, .int .i64 hold, .slice na n nc] 24)
 have hb := heap_alloc_new w (.cells #[.int .i64 gr, .int .i64 hold, .slice na n nc] 24)
 have hbl : w.heap.size < (w.alloc (.cells #[.int .i64 gr, .int .i64 hold, .slice na n nc] 24)).heap.size := by simp
 have hC2 : RCells (w.alloc (.cells #[.int .i64 gr, .int .i64 hold, .slice na n nc] 24)) [(⟨w.heap.size, 0, none⟩, .int .i64 gr), (⟨w.heap.size, 1, none⟩, .int .i64 hold), (⟨w.heap.size, 2, none⟩, .slice na n nc)] := (RCells.nil w).box (b := w.heap.size) #[.int .i64 gr, .int .i64 hold, .slice na n nc] 24 rfl
 generalize w.alloc (.cells #[.int .i64 gr, .int .i64 hold, .slice na n nc] 24) = w3 at *
 replace G := G.trans g
 have hC := hC2
 clear hC2
 replace hnd := hnd.gr g
 replace hl := hl.gr g
 clear g hb hbl
 have hC0 := hC
 refine Y.pval F (X.w0 rfl) rfl (X.assign rfl (X.kc (.slice none 0 0) rfl)) ?_
 clear F ac
 intro ac F
 refine Y.pval F (X.w0 rfl) rfl (X.assign rfl (X.kc (.slice none 0 0) rfl)) ?_
 clear F ac
 intro ac F
 refine Y.pval F (X.w0 rfl) rfl (X.assign rfl (X.kc (.int .i64 0) rfl)) ?_
 clear F ac
 intro ac F
 refine Y.nil ?_
 replace F : Fr ac 73 [(0, .agg #[.int .i64 gr, .int .i64 hold, .slice na n nc]), (1, .int .i64 t), (2, .slice la m lc), (3, .pointer (some ⟨w.heap.size, 0, none⟩)), (6, .slice none 0 0), (7, .slice none 0 0), (8, .int .i64 0)] := F.sub _
 refine X.thenN ?_
 refine Y.seq ?_
 refine Y.lit (by kernel_rfl) ?_
 refine Y.pval F (X.w0 rfl) rfl (X.load rfl (F.ev 3 (.pointer (some ⟨w.heap.size, 0, none⟩))) (X.ldN (Try.agg24 _) (Try.siz24 _) (Y.atz (⟨w.heap.size, 0, none⟩) (Y.AtFrom.cons (hC.at 0 rfl) (Y.AtFrom.cons (hC.at 1 rfl) (Y.AtFrom.cons (hC.at 2 rfl) (Y.AtFrom.nil _ _ _))))))) ?_
 clear F ac
 intro ac F
 refine Y.pval F (X.w0 rfl) rfl (X.move rfl (F.ev 1 (.int .i64 t))) ?_
 clear F ac
 intro ac F
 refine Y.pval F (X.w0 rfl) rfl (X.move rfl (F.ev 2 (.slice la m lc))) ?_
 clear F ac
 intro ac F
 by_cases hE : playE gr hold nd t l = 0
 ·have hE := hE
  refine Y.pcall F (X.w0 rfl) rfl (X.enter (F := 44) rfl (X.kc (.func (.func 44) #[] #[]) rfl) (X.a3 (F.ev 15 (.agg #[.int .i64 gr, .int .i64 hold, .slice na n nc])) (F.ev 16 (.int .i64 t)) (F.ev 17 (.slice la m lc))) (enters_of Try.func44 (by kernel_rfl) rfl _)) (begin_any na la n nc m lc gr hold t nd l w3 hnd hl) ?_
  clear F ac
  rintro e w5 ⟨-, g, h0⟩
  obtain ⟨bp, rfl, hBg⟩ := h0 hE
  clear h0
  refine ⟨_, rfl, ?_⟩
  intro ac F
  have hBsz : w3.heap.size = w3.heap.size := rfl
  replace G := G.trans g
  replace hC := hC.gr g
  replace hnd := hnd.gr g
  replace hl := hl.gr g
  clear g
  refine Y.pval F (X.w0 rfl) rfl (X.move rfl (F.ev 18 (.tuple #[.pointer (some ⟨bp, 0, none⟩), .int .i64 0]))) ?_
  clear F ac
  intro ac F
  refine Y.pval F (X.w0 rfl) rfl (X.extract rfl (F.ev 14 (.tuple #[.pointer (some ⟨bp, 0, none⟩), .int .i64 0])) rfl) ?_
  clear F ac
  intro ac F
  refine Y.pval F (X.w0 rfl) rfl (X.extract rfl (F.ev 14 (.tuple #[.pointer (some ⟨bp, 0, none⟩), .int .i64 0])) rfl) ?_
  clear F ac
  intro ac F
  refine Y.pval F (X.w0 rfl) rfl (X.assign rfl (F.ev 19 (.pointer (some ⟨bp, 0, none⟩)))) ?_
  clear F ac
  intro ac F
  refine Y.pval F (X.w0 rfl) rfl (X.assign rfl (F.ev 20 (.int .i64 0))) ?_
  clear F ac
  intro ac F
  refine Y.nil ?_
  replace F : Fr ac 73 [(0, .agg #[.int .i64 gr, .int .i64 hold, .slice na n nc]), (1, .int .i64 t), (2, .slice la m lc), (3, .pointer (some ⟨w.heap.size, 0, none⟩)), (6, .slice none 0 0), (7, .slice none 0 0), (8, .int .i64 0), (9, .pointer (some ⟨bp, 0, none⟩))] := F.sub _
  refine X.thenN ?_
  refine Y.seq ?_
  refine Y.seq ?_
  refine Y.lit (by kernel_rfl) ?_
  refine Y.pval F (X.w0 rfl) rfl (X.move rfl (F.ev 8 (.int .i64 0))) ?_
  clear F ac
  intro ac F
  refine Y.pval F (X.w0 rfl) rfl (X.binop rfl (F.ev 21 (.int .i64 0)) (X.kc (.int .i64 0) rfl) (X.neqI Try.underlying26 (show ((0 : Int) != 0) = false by simp))) ?_
  clear F ac
  intro ac F
  refine Y.nil ?_
  replace F : Fr ac 73 [(0, .agg #[.int .i64 gr, .int .i64 hold, .slice na n nc]), (1, .int .i64 t), (2, .slice la m lc), (3, .pointer (some ⟨w.heap.size, 0, none⟩)), (6, .slice none 0 0), (7, .slice none 0 0), (8, .int .i64 0), (9, .pointer (some ⟨bp, 0, none⟩)), (22, .bool false)] := F.sub _
  refine X.thenN ?_
  refine Y.condF (F.ev 22 (.bool false)) ?_
  refine Y.skip ?_
  refine X.thenN ?_
  refine Y.seq ?_
  refine Y.lit (by kernel_rfl) ?_
  refine Y.pval F (X.w0 rfl) rfl (X.move rfl (F.ev 9 (.pointer (some ⟨bp, 0, none⟩)))) ?_
  clear F ac
  intro ac F
  refine Y.pval F (X.w0 rfl) rfl (X.move rfl (F.ev 1 (.int .i64 t))) ?_
  clear F ac
  intro ac F
  have hok := playE_ok hE
  have hc := hok.c
  have ht0 := hok.t0
  have ht1 := hok.t1
  have hln := hnd.len
  have h16 : n ≤ 16 := by have := hc.n16; omega
  obtain ⟨bn, pa, cap, hP, hS⟩ := hBg
  have hpb := hP.pb
  have hnb := hP.nb
  have hg1 := hc.g1
  have hg8 := hc.g8
  have hSO : SOk n (startS nd) := by have := SOk.start hc; rwa [hln] at this
  have htt : t = ((t.toNat : Nat) : Int) := by omega
  have hgw := G.size
  have hnu : ∀ x ∈ l, NuOk gr nd t x := fun x hx => by obtain ⟨i, hi, rfl⟩ := List.getElem_of_mem hx; have := hok.nu i hi; rwa [List.getElem?_eq_getElem hi] at this
  refine Y.pcall F (X.w0 rfl) rfl (X.enter (F := 45) rfl (X.kc (.func (.func 45) #[] #[]) rfl) (X.a2 (F.ev 25 (.pointer (some ⟨bp, 0, none⟩))) (F.ev 26 (.int .i64 t))) (enters_of Try.func45 (by kernel_rfl) rfl _)) (by have h := run_any w3 w5 bp bn gr hold na la pa n nc m lc cap l (startS nd) t.toNat hP hS h16 ⟨nd, t, hln, hg8, hnu⟩ hSO hc.h1 hc.h100 (by omega) (by omega); rw [← htt] at h; exact h) ?_
  clear F ac
  rintro e w6 ⟨v1, v2, rfl, hon, -, hO1, hO2⟩
  refine ⟨_, rfl, ?_⟩
  intro ac F
  have hcb : w.heap.size < w3.heap.size := lt_cell (hC0.at 0 rfl)
  replace hC : RCells w6 [(⟨w.heap.size, 0, none⟩, .int .i64 gr), (⟨w.heap.size, 1, none⟩, .int .i64 hold), (⟨w.heap.size, 2, none⟩, .slice na n nc)] := (RCells.cons (hon.cell (hC.at 0 rfl) (by show ¬ w.heap.size = bn; omega)) (RCells.cons (hon.cell (hC.at 1 rfl) (by show ¬ w.heap.size = bn; omega)) (RCells.cons (hon.cell (hC.at 2 rfl) (by show ¬ w.heap.size = bn; omega)) (RCells.nil _))))
  replace G := Y.Only.up G hon (by omega)
  replace hnd := hnd0.gr G
  replace hl := hl0.gr G
  clear hon hS hP
  obtain ⟨aa, ac1, rfl, hIa, hIab⟩ := hO1.intsN (runFrom_len t.toNat).1 (by omega)
  obtain ⟨ra, rc, rfl, hIr, hIrb⟩ := hO2.intsN (runFrom_len t.toNat).2 (by omega)
  clear hO1 hO2
  refine Y.pval F (X.w0 rfl) rfl (X.move rfl (F.ev 27 (.tuple #[.slice aa t.toNat ac1, .slice ra t.toNat rc]))) ?_
  clear F ac
  intro ac F
  refine Y.pval F (X.w0 rfl) rfl (X.extract rfl (F.ev 24 (.tuple #[.slice aa t.toNat ac1, .slice ra t.toNat rc])) rfl) ?_
  clear F ac
  intro ac F
  refine Y.pval F (X.w0 rfl) rfl (X.extract rfl (F.ev 24 (.tuple #[.slice aa t.toNat ac1, .slice ra t.toNat rc])) rfl) ?_
  clear F ac
  intro ac F
  refine Y.pval F (X.w0 rfl) rfl (X.assign rfl (F.ev 29 (.slice ra t.toNat rc))) ?_
  clear F ac
  intro ac F
  refine Y.nil ?_
  replace F : Fr ac 73 [(0, .agg #[.int .i64 gr, .int .i64 hold, .slice na n nc]), (1, .int .i64 t), (2, .slice la m lc), (3, .pointer (some ⟨w.heap.size, 0, none⟩)), (6, .slice ra t.toNat rc), (7, .slice none 0 0), (8, .int .i64 0), (9, .pointer (some ⟨bp, 0, none⟩)), (22, .bool false)] := F.sub _
  refine X.thenN ?_
  refine Y.seq ?_
  refine Y.lit (by kernel_rfl) ?_
  refine Y.pval F (X.w0 rfl) rfl (X.field rfl (F.ev 3 (.pointer (some ⟨w.heap.size, 0, none⟩))) (X.fld Try.underlying24 rfl (Try.siz22 _) rfl rfl)) ?_
  clear F ac
  intro ac F
  refine Y.pval F (X.w0 rfl) rfl (X.load rfl (F.ev 30 (.pointer (some ⟨w.heap.size, 2, none⟩))) (X.ld1 (Try.agg22 _) (hC.at 2 rfl))) ?_
  clear F ac
  intro ac F
  refine Y.pval F (X.w0 rfl) rfl (X.len1 Try.underlying22 rfl (F.ev 31 (.slice na n nc))) ?_
  clear F ac
  intro ac F
  have hq8 : w.heap.size < w6.heap.size := lt_cell (hC.at 0 rfl)
  have hgsw7 := G.size
  refine Y.pval F (X.w0 rfl) rfl (Y.mk rfl (F.ev 32 (.int .i64 n)) (F.ev 32 (.int .i64 n)) (Try.mk34 n _ (by omega))) ?_
  clear F ac
  intro ac F
  have g := Gr.alloc w6 (.cells (List.replicate n (.int .i64 0)).toArray 3)
  have hS := zeros_own w6 n
  generalize w6.alloc (.cells (List.replicate n (.int .i64 0)).toArray 3) = w7 at *
  replace G := G.trans g
  replace hC := hC.gr g
  replace hnd := hnd.gr g
  replace hl := hl.gr g
  replace hIa := hIa.gr g
  replace hIr := hIr.gr g
  clear g
  have hml : w6.heap.size < w7.heap.size := hS.lt
  have hS := hS
  refine Y.pval F (X.w0 rfl) rfl (X.assign rfl (F.ev 33 (.slice (some ⟨w6.heap.size, 0, none⟩) n n))) ?_
  clear F ac
  intro ac F
  refine Y.nil ?_
  replace F : Fr ac 73 [(0, .agg #[.int .i64 gr, .int .i64 hold, .slice na n nc]), (1, .int .i64 t), (2, .slice la m lc), (3, .pointer (some ⟨w.heap.size, 0, none⟩)), (6, .slice ra t.toNat rc), (7, .slice (some ⟨w6.heap.size, 0, none⟩) n n), (8, .int .i64 0), (9, .pointer (some ⟨bp, 0, none⟩)), (22, .bool false)] := F.sub _
  refine X.thenN ?_
  refine Y.seq ?_
  refine Y.seq ?_
  refine Y.lit (by kernel_rfl) ?_
  refine Y.pval F (X.w0 rfl) rfl (X.move rfl (F.ev 6 (.slice ra t.toNat rc))) ?_
  clear F ac
  intro ac F
  refine Y.pval F (X.w0 rfl) rfl (X.len1 Try.underlying34 rfl (F.ev 34 (.slice ra t.toNat rc))) ?_
  clear F ac
  intro ac F
  refine Y.pval F (X.w0 rfl) rfl (X.move rfl (X.kc (.int .i64 0) rfl)) ?_
  clear F ac
  intro ac F
  refine Y.nil ?_
  replace F : Fr ac 73 [(0, .agg #[.int .i64 gr, .int .i64 hold, .slice na n nc]), (1, .int .i64 t), (2, .slice la m lc), (3, .pointer (some ⟨w.heap.size, 0, none⟩)), (6, .slice ra t.toNat rc), (7, .slice (some ⟨w6.heap.size, 0, none⟩) n n), (8, .int .i64 0), (9, .pointer (some ⟨bp, 0, none⟩)), (22, .bool false), (34, .slice ra t.toNat rc), (35, .int .i64 t.toNat), (36, .int .i64 0)] := F.sub _
  refine X.thenN ?_
  refine Y.block ?_
  have hIa_1 := hIa
  have hIr_1 := hIr
  have G_1 := G
  have hC_1 := hC
  refine Y.loop (fun me_ ac wr => ∃ (k : Nat), me_ = t.toNat - k ∧ k ≤ t.toNat ∧ Only (fun b => b = w6.heap.size) w7 wr ∧ OwnP wr w6.heap.size (n) (EV (enS nd ((runFrom hold gr.toNat n l (startS nd) t.toNat).rows.take k))) ∧ Fr ac 73 [(0, .agg #[.int .i64 gr, .int .i64 hold, .slice na n nc]), (1, .int .i64 t), (2, .slice la m lc), (3, .pointer (some ⟨w.heap.size, 0, none⟩)), (6, .slice ra t.toNat rc), (7, .slice (some ⟨w6.heap.size, 0, none⟩) n n), (8, .int .i64 0), (9, .pointer (some ⟨bp, 0, none⟩)), (22, .bool false), (34, .slice ra t.toNat rc), (35, .int .i64 t.toNat), (36, .int .i64 k)]) _ ⟨0, rfl, Nat.zero_le _, Only.refl _ _, hS, F.sub _⟩ ?_
  clear F G ac hC hS hIa hIr hnd hl
  intro me_ ac w9 hI
  obtain ⟨k, rfl, hk, hI1, hS, F⟩ := hI
  have G := Y.Only.up G_1 hI1 (by omega)
  have hnd := hnd0.gr G
  have hl := hl0.gr G
  have hIa := hIa_1.onlyAt hI1 (fun ad e h => by have := hIab ad e; omega)
  have hIr := hIr_1.onlyAt hI1 (fun ad e h => by have := hIrb ad e; omega)
  have hC : RCells w9 [(⟨w.heap.size, 0, none⟩, .int .i64 gr), (⟨w.heap.size, 1, none⟩, .int .i64 hold), (⟨w.heap.size, 2, none⟩, .slice na n nc)] := (RCells.cons (hI1.cell (hC_1.at 0 rfl) (by show ¬ w.heap.size = w6.heap.size; omega)) (RCells.cons (hI1.cell (hC_1.at 1 rfl) (by show ¬ w.heap.size = w6.heap.size; omega)) (RCells.cons (hI1.cell (hC_1.at 2 rfl) (by show ¬ w.heap.size = w6.heap.size; omega)) (RCells.nil _))))
  refine Y.seq ?_
  refine Y.lit (by kernel_rfl) ?_
  refine Y.pval F (X.w0 rfl) rfl (X.binop rfl (F.ev 36 (.int .i64 k)) (F.ev 35 (.int .i64 t.toNat)) (X.lssI Try.underlying3 rfl)) ?_
  clear F ac
  intro ac F
  refine Y.nil ?_
  replace F : Fr ac 73 [(0, .agg #[.int .i64 gr, .int .i64 hold, .slice na n nc]), (1, .int .i64 t), (2, .slice la m lc), (3, .pointer (some ⟨w.heap.size, 0, none⟩)), (6, .slice ra t.toNat rc), (7, .slice (some ⟨w6.heap.size, 0, none⟩) n n), (8, .int .i64 0), (9, .pointer (some ⟨bp, 0, none⟩)), (22, .bool false), (34, .slice ra t.toNat rc), (35, .int .i64 t.toNat), (36, .int .i64 k), (37, .bool (decide ((k : Int) < t.toNat)))] := F.sub _
  refine X.thenN ?_
  refine Y.seq ?_
  cases h10 : decide ((k : Int) < t.toNat) with
  | false =>
   try rw [h10] at F
   have h10p : ¬ ((k : Int) < t.toNat) := of_decide_eq_false h10
   have hkt : k = t.toNat := by omega
   subst hkt
   refine Y.condF (F.ev 37 (.bool false)) ?_
   refine Y.exit ?_
   refine X.thenX ?_
   refine X.thenX ?_
   refine X.blockX ?_
   refine X.thenN ?_
   refine Y.seq ?_
   refine Y.lit (by kernel_rfl) ?_
   refine Y.pval F (X.w0 rfl) rfl (X.move rfl (F.ev 6 (.slice ra t.toNat rc))) ?_
   clear F ac
   intro ac F
   refine Y.pval F (X.w0 rfl) rfl (X.move rfl (F.ev 7 (.slice (some ⟨w6.heap.size, 0, none⟩) n n))) ?_
   clear F ac
   intro ac F
   refine Y.pval F (X.w0 rfl) rfl (X.assign rfl (F.ev 71 (.slice ra t.toNat rc))) ?_
   clear F ac
   intro ac F
   refine Y.pval F (X.w0 rfl) rfl (X.assign rfl (F.ev 72 (.slice (some ⟨w6.heap.size, 0, none⟩) n n))) ?_
   clear F ac
   intro ac F
   refine Y.pval F (X.w0 rfl) rfl (X.assign rfl (X.kc (.int .i64 0) rfl)) ?_
   clear F ac
   intro ac F
   refine Y.nil ?_
   replace F : Fr ac 73 [(0, .agg #[.int .i64 gr, .int .i64 hold, .slice na n nc]), (1, .int .i64 t), (2, .slice la m lc), (3, .pointer (some ⟨w.heap.size, 0, none⟩)), (6, .slice ra t.toNat rc), (7, .slice (some ⟨w6.heap.size, 0, none⟩) n n), (8, .int .i64 0), (9, .pointer (some ⟨bp, 0, none⟩)), (22, .bool false), (34, .slice ra t.toNat rc), (35, .int .i64 t.toNat), (36, .int .i64 t.toNat), (37, .bool false)] := F.sub _
   refine X.thenN ?_
   refine Y.ret ?_
   have e1 : playRows gr hold nd t l = (runFrom hold gr.toNat n l (startS nd) t.toNat).rows := by unfold playRows playR; rw [if_pos hE, hln]
   have e2 : playEn gr hold nd t l = (List.range n).map (enS nd (runFrom hold gr.toNat n l (startS nd) t.toNat).rows) := by unfold playEn playR; rw [if_pos hE, hln]
   have e3 : (runFrom hold gr.toNat n l (startS nd) t.toNat).rows.take t.toNat = (runFrom hold gr.toNat n l (startS nd) t.toNat).rows := List.take_of_length_le (by rw [(runFrom_len t.toNat).2]; omega)
   rw [e3] at hS
   exact Y.ret0 (v := .tuple #[.slice ra t.toNat rc, .slice (some ⟨w6.heap.size, 0, none⟩) n n, .int .i64 0]) F (Y.rs3 F rfl (by kernel_rfl) (by kernel_rfl) (by kernel_rfl)) ⟨_, _, _, _, _, _, by rw [hE], by rw [e1]; exact hIr, by rw [e2]; exact ownP_ints hS (by omega), G⟩
  | true =>
   try rw [h10] at F
   have h10p : ((k : Int) < t.toNat) := of_decide_eq_true h10
   have hk2 : k < t.toNat := by omega
   have hrl := (runFrom_len (n := n) (gr := gr.toNat) (s := startS nd) (hold := hold) (l := l) t.toNat).2
   refine Y.condT (F.ev 37 (.bool true)) ?_
   refine Y.skip ?_
   refine X.thenN ?_
   refine Y.seq ?_
   refine Y.block ?_
   refine Y.seq ?_
   refine Y.lit (by kernel_rfl) ?_
   obtain ⟨pd11, pe11, -, pc11⟩ := hIr.at (j := k) (by omega)
   subst pe11
   replace hC : RCells w9 [(⟨w.heap.size, 0, none⟩, .int .i64 gr), (⟨w.heap.size, 1, none⟩, .int .i64 hold), (⟨w.heap.size, 2, none⟩, .slice na n nc), (pd11.add k, .int .i64 (((runFrom hold gr.toNat n l (startS nd) t.toNat).rows)[k]?.getD 0))] := hC.append ((RCells.cons pc11 (RCells.nil _)))
   clear pc11
   refine Y.pval F (X.w0 rfl) rfl (X.index rfl (F.ev 34 (.slice (some pd11) t.toNat rc)) (F.ev 36 (.int .i64 k)) (X.idx (k := k) Try.underlying34 (Try.siz3 _) (by omega) (by omega) (by rw [Nat.mul_one]))) ?_
   clear F ac
   intro ac F
   refine Y.pval F (X.w0 rfl) rfl (X.load rfl (F.ev 38 (.pointer (some (pd11.add k)))) (X.ld1 (Try.agg3 _) (hC.at 3 rfl))) ?_
   clear F ac
   intro ac F
   refine Y.pval F (X.w0 rfl) rfl (X.assign rfl (F.ev 39 (.int .i64 (((runFrom hold gr.toNat n l (startS nd) t.toNat).rows)[k]?.getD 0)))) ?_
   clear F ac
   intro ac F
   refine Y.nil ?_
   replace F : Fr ac 73 [(0, .agg #[.int .i64 gr, .int .i64 hold, .slice na n nc]), (1, .int .i64 t), (2, .slice la m lc), (3, .pointer (some ⟨w.heap.size, 0, none⟩)), (6, .slice (some pd11) t.toNat rc), (7, .slice (some ⟨w6.heap.size, 0, none⟩) n n), (8, .int .i64 0), (9, .pointer (some ⟨bp, 0, none⟩)), (11, .int .i64 (((runFrom hold gr.toNat n l (startS nd) t.toNat).rows)[k]?.getD 0)), (22, .bool false), (34, .slice (some pd11) t.toNat rc), (35, .int .i64 t.toNat), (36, .int .i64 k), (37, .bool true)] := F.sub _
   refine X.thenN ?_
   refine Y.seq ?_
   refine Y.lit (by kernel_rfl) ?_
   refine Y.pval F (X.w0 rfl) rfl (X.field rfl (F.ev 3 (.pointer (some ⟨w.heap.size, 0, none⟩))) (X.fld Try.underlying24 rfl (Try.siz22 _) rfl rfl)) ?_
   clear F ac
   intro ac F
   refine Y.pval F (X.w0 rfl) rfl (X.load rfl (F.ev 40 (.pointer (some ⟨w.heap.size, 2, none⟩))) (X.ld1 (Try.agg22 _) (hC.at 2 rfl))) ?_
   clear F ac
   intro ac F
   refine Y.pval F (X.w0 rfl) rfl (X.len1 Try.underlying22 rfl (F.ev 41 (.slice na n nc))) ?_
   clear F ac
   intro ac F
   refine Y.pval F (X.w0 rfl) rfl (X.move rfl (X.kc (.int .i64 0) rfl)) ?_
   clear F ac
   intro ac F
   refine Y.nil ?_
   replace F : Fr ac 73 [(0, .agg #[.int .i64 gr, .int .i64 hold, .slice na n nc]), (1, .int .i64 t), (2, .slice la m lc), (3, .pointer (some ⟨w.heap.size, 0, none⟩)), (6, .slice (some pd11) t.toNat rc), (7, .slice (some ⟨w6.heap.size, 0, none⟩) n n), (8, .int .i64 0), (9, .pointer (some ⟨bp, 0, none⟩)), (11, .int .i64 (((runFrom hold gr.toNat n l (startS nd) t.toNat).rows)[k]?.getD 0)), (22, .bool false), (34, .slice (some pd11) t.toNat rc), (35, .int .i64 t.toNat), (36, .int .i64 k), (37, .bool true), (41, .slice na n nc), (42, .int .i64 n), (43, .int .i64 0)] := F.sub _
   refine X.thenN ?_
   refine Y.block ?_
   have hI1_2 := hI1
   have hIa_2 := hIa
   have hIr_2 := hIr
   have G_2 := G
   have hC_2 := hC
   refine Y.loop (fun me_ ac wr => ∃ (i : Nat), me_ = n - i ∧ i ≤ n ∧ Only (fun b => b = w6.heap.size) w9 wr ∧ OwnP wr w6.heap.size (n) (EV (enP nd ((runFrom hold gr.toNat n l (startS nd) t.toNat).rows[k]?.getD 0) i (enS nd ((runFrom hold gr.toNat n l (startS nd) t.toNat).rows.take k)))) ∧ Fr ac 73 [(0, .agg #[.int .i64 gr, .int .i64 hold, .slice na n nc]), (1, .int .i64 t), (2, .slice la m lc), (3, .pointer (some ⟨w.heap.size, 0, none⟩)), (6, .slice (some pd11) t.toNat rc), (7, .slice (some ⟨w6.heap.size, 0, none⟩) n n), (8, .int .i64 0), (9, .pointer (some ⟨bp, 0, none⟩)), (11, .int .i64 (((runFrom hold gr.toNat n l (startS nd) t.toNat).rows)[k]?.getD 0)), (22, .bool false), (34, .slice (some pd11) t.toNat rc), (35, .int .i64 t.toNat), (36, .int .i64 k), (37, .bool true), (41, .slice na n nc), (42, .int .i64 n), (43, .int .i64 i)]) _ ⟨0, rfl, Nat.zero_le _, Only.refl _ _, (by rw [enP_zero]; exact hS), F.sub _⟩ ?_
   clear F G ac hC hS hI1 hIa hIr hnd hl
   intro me_ ac w12 hI
   obtain ⟨i, rfl, hi, hI2, hS, F⟩ := hI
   have G := Y.Only.up G_2 hI2 (by omega)
   have hI1 := hI1_2.trans hI2
   have hnd := hnd0.gr G
   have hl := hl0.gr G
   have hIa := hIa_2.onlyAt hI2 (fun ad e h => by have := hIab ad e; omega)
   have hIr := hIr_2.onlyAt hI2 (fun ad e h => by have := hIrb ad e; omega)
   have hC : RCells w12 [(⟨w.heap.size, 0, none⟩, .int .i64 gr), (⟨w.heap.size, 1, none⟩, .int .i64 hold), (⟨w.heap.size, 2, none⟩, .slice na n nc)] := (RCells.cons (hI2.cell (hC_2.at 0 rfl) (by show ¬ w.heap.size = w6.heap.size; omega)) (RCells.cons (hI2.cell (hC_2.at 1 rfl) (by show ¬ w.heap.size = w6.heap.size; omega)) (RCells.cons (hI2.cell (hC_2.at 2 rfl) (by show ¬ w.heap.size = w6.heap.size; omega)) (RCells.nil _))))
   refine Y.seq ?_
   refine Y.lit (by kernel_rfl) ?_
   refine Y.pval F (X.w0 rfl) rfl (X.binop rfl (F.ev 43 (.int .i64 i)) (F.ev 42 (.int .i64 n)) (X.lssI Try.underlying3 rfl)) ?_
   clear F ac
   intro ac F
   refine Y.nil ?_
   replace F : Fr ac 73 [(0, .agg #[.int .i64 gr, .int .i64 hold, .slice na n nc]), (1, .int .i64 t), (2, .slice la m lc), (3, .pointer (some ⟨w.heap.size, 0, none⟩)), (6, .slice (some pd11) t.toNat rc), (7, .slice (some ⟨w6.heap.size, 0, none⟩) n n), (8, .int .i64 0), (9, .pointer (some ⟨bp, 0, none⟩)), (11, .int .i64 (((runFrom hold gr.toNat n l (startS nd) t.toNat).rows)[k]?.getD 0)), (22, .bool false), (34, .slice (some pd11) t.toNat rc), (35, .int .i64 t.toNat), (36, .int .i64 k), (37, .bool true), (41, .slice na n nc), (42, .int .i64 n), (43, .int .i64 i), (44, .bool (decide ((i : Int) < n)))] := F.sub _
   refine X.thenN ?_
   refine Y.seq ?_
   cases h13 : decide ((i : Int) < n) with
   | false =>
    try rw [h13] at F
    have h13p : ¬ ((i : Int) < n) := of_decide_eq_false h13
    obtain rfl : n = i := by omega
    refine Y.condF (F.ev 44 (.bool false)) ?_
    refine Y.exit ?_
    refine X.thenX ?_
    refine X.thenX ?_
    refine X.blockX ?_
    refine X.blockN ?_
    refine X.thenN ?_
    refine Y.lit (by kernel_rfl) ?_
    refine Y.pval F (X.w0 rfl) rfl (X.binop rfl (F.ev 36 (.int .i64 k)) (X.kc (.int .i64 1) rfl) (X.addI Try.underlying3 rfl (by omega) (by omega))) ?_
    clear F ac
    intro ac F
    refine Y.pval F (X.w0 rfl) rfl (X.move rfl (F.ev 70 (.int .i64 ((k : Int) + 1)))) ?_
    clear F ac
    intro ac F
    refine Y.nil ?_
    replace F : Fr ac 73 [(0, .agg #[.int .i64 gr, .int .i64 hold, .slice na n nc]), (1, .int .i64 t), (2, .slice la m lc), (3, .pointer (some ⟨w.heap.size, 0, none⟩)), (6, .slice (some pd11) t.toNat rc), (7, .slice (some ⟨w6.heap.size, 0, none⟩) n n), (8, .int .i64 0), (9, .pointer (some ⟨bp, 0, none⟩)), (11, .int .i64 (((runFrom hold gr.toNat n l (startS nd) t.toNat).rows)[k]?.getD 0)), (22, .bool false), (34, .slice (some pd11) t.toNat rc), (35, .int .i64 t.toNat), (36, .int .i64 ((k : Int) + 1)), (37, .bool true), (41, .slice na n nc), (42, .int .i64 n), (43, .int .i64 n), (44, .bool false)] := F.sub _
    refine X.thenN ?_
    refine ⟨_, ?_, k + 1, rfl, by omega, hI1, hS.congr (fun j hj => by unfold EV; rw [enS_take (by omega) j]; unfold enP; rw [if_pos hj]), F.sub _⟩
    omega
   | true =>
    try rw [h13] at F
    have h13p : ((i : Int) < n) := of_decide_eq_true h13
    have hi2 : i < n := by omega
    have hb1 := enS_bd hc (j := i) (by omega) ((runFrom hold gr.toNat n l (startS nd) t.toNat).rows.take k)
    have hb2 := enP_at nd ((runFrom hold gr.toNat n l (startS nd) t.toNat).rows[k]?.getD 0) i (enS nd ((runFrom hold gr.toNat n l (startS nd) t.toNat).rows.take k))
    have hb3 : ((runFrom hold gr.toNat n l (startS nd) t.toNat).rows.take k).length ≤ 1000 := by rw [List.length_take]; omega
    have hb4 := hc.awk i (by omega)
    have hb5 := hc.asl i (by omega)
    refine Y.condT (F.ev 44 (.bool true)) ?_
    refine Y.skip ?_
    refine X.thenN ?_
    refine Y.seq ?_
    refine Y.block ?_
    refine Y.seq ?_
    refine Y.lit (by kernel_rfl) ?_
    refine Y.pval F (X.w0 rfl) rfl (X.move rfl (F.ev 43 (.int .i64 i))) ?_
    clear F ac
    intro ac F
    obtain ⟨pd14, pe14, -, -, pc14⟩ := hnd.at (j := i) (by omega)
    subst pe14
    replace hC : RCells w12 [(⟨w.heap.size, 0, none⟩, .int .i64 gr), (⟨w.heap.size, 1, none⟩, .int .i64 hold), (⟨w.heap.size, 2, none⟩, .slice (some pd14) n nc), (pd14.add (i * 5), .int .i64 (cv nd i 0)), (⟨(pd14.add (i * 5)).block, (pd14.add (i * 5)).off + 1, none⟩, .int .i64 (cv nd i 1)), (⟨(pd14.add (i * 5)).block, (pd14.add (i * 5)).off + 2, none⟩, .int .i64 (cv nd i 2)), (⟨(pd14.add (i * 5)).block, (pd14.add (i * 5)).off + 3, none⟩, .int .i64 (cv nd i 3)), (⟨(pd14.add (i * 5)).block, (pd14.add (i * 5)).off + 4, none⟩, .int .i64 (cv nd i 4))] := hC.append ((RCells.cons (pc14 0 (by decide)) (RCells.cons (pc14 1 (by decide)) (RCells.cons (pc14 2 (by decide)) (RCells.cons (pc14 3 (by decide)) (RCells.cons (pc14 4 (by decide)) (RCells.nil _)))))))
    clear pc14
    refine Y.pval F (X.w0 rfl) rfl (X.index rfl (F.ev 41 (.slice (some pd14) n nc)) (F.ev 43 (.int .i64 i)) (X.idx (k := i) Try.underlying22 (Try.siz31 _) (by omega) (by omega) rfl)) ?_
    clear F ac
    intro ac F
    refine Y.pval F (X.w0 rfl) rfl (X.load rfl (F.ev 46 (.pointer (some (pd14.add (i * 5))))) (X.ldN (Try.agg31 _) (Try.siz31 _) (Y.atz (pd14.add (i * 5)) (Y.AtFrom.cons (hC.at 3 rfl) (Y.AtFrom.cons (hC.at 4 rfl) (Y.AtFrom.cons (hC.at 5 rfl) (Y.AtFrom.cons (hC.at 6 rfl) (Y.AtFrom.cons (hC.at 7 rfl) (Y.AtFrom.nil _ _ _))))))))) ?_
    clear F ac
    intro ac F
    refine Y.pval F (X.w0 rfl) rfl (Y.al rfl (Try.new31 _)) ?_
    clear F ac
    intro ac F
    refine Y.pval F (X.w0 rfl) rfl (X.assign rfl (F.ev 45 (.int .i64 i))) ?_
    clear F ac
    intro ac F
    refine Y.punit F (X.w0 rfl) rfl (X.store rfl (F.ev 13 (.pointer (some ⟨w12.heap.size, 0, none⟩))) (F.ev 47 (.agg #[.int .i64 (cv nd i 0), .int .i64 (cv nd i 1), .int .i64 (cv nd i 2), .int .i64 (cv nd i 3), .int .i64 (cv nd i 4)])) (Y.stNew [.int .i64 (cv nd i 0), .int .i64 (cv nd i 1), .int .i64 (cv nd i 2), .int .i64 (cv nd i 3), .int .i64 (cv nd i 4)] [.int .i64 0, .int .i64 0, .int .i64 0, .int .i64 0, .int .i64 0] (Try.siz31 _) rfl rfl)) ?_
    clear F ac
    intro ac F
    have hq15 : w6.heap.size < w12.heap.size := hS.lt
    have hq16 : w.heap.size < w12.heap.size := lt_cell (hC.at 0 rfl)
    have g := Gr.alloc w12 (.cells #[.int .i64 (cv nd i 0), .int .i64 (cv nd i 1), .int .i64 (cv nd i 2), .int .i64 (cv nd i 3), .int .i64 (cv nd i 4)] 31)
    have hb := heap_alloc_new w12 (.cells #[.int .i64 (cv nd i 0), .int .i64 (cv nd i 1), .int .i64 (cv nd i 2), .int .i64 (cv nd i 3), .int .i64 (cv nd i 4)] 31)
    have hbl : w12.heap.size < (w12.alloc (.cells #[.int .i64 (cv nd i 0), .int .i64 (cv nd i 1), .int .i64 (cv nd i 2), .int .i64 (cv nd i 3), .int .i64 (cv nd i 4)] 31)).heap.size := by simp
    have hC2 : RCells (w12.alloc (.cells #[.int .i64 (cv nd i 0), .int .i64 (cv nd i 1), .int .i64 (cv nd i 2), .int .i64 (cv nd i 3), .int .i64 (cv nd i 4)] 31)) [(⟨w.heap.size, 0, none⟩, .int .i64 gr), (⟨w.heap.size, 1, none⟩, .int .i64 hold), (⟨w.heap.size, 2, none⟩, .slice (some pd14) n nc), (pd14.add (i * 5), .int .i64 (cv nd i 0)), (⟨(pd14.add (i * 5)).block, (pd14.add (i * 5)).off + 1, none⟩, .int .i64 (cv nd i 1)), (⟨(pd14.add (i * 5)).block, (pd14.add (i * 5)).off + 2, none⟩, .int .i64 (cv nd i 2)), (⟨(pd14.add (i * 5)).block, (pd14.add (i * 5)).off + 3, none⟩, .int .i64 (cv nd i 3)), (⟨(pd14.add (i * 5)).block, (pd14.add (i * 5)).off + 4, none⟩, .int .i64 (cv nd i 4)), (⟨w12.heap.size, 0, none⟩, .int .i64 (cv nd i 0)), (⟨w12.heap.size, 1, none⟩, .int .i64 (cv nd i 1)), (⟨w12.heap.size, 2, none⟩, .int .i64 (cv nd i 2)), (⟨w12.heap.size, 3, none⟩, .int .i64 (cv nd i 3)), (⟨w12.heap.size, 4, none⟩, .int .i64 (cv nd i 4))] := hC.box (b := w12.heap.size) #[.int .i64 (cv nd i 0), .int .i64 (cv nd i 1), .int .i64 (cv nd i 2), .int .i64 (cv nd i 3), .int .i64 (cv nd i 4)] 31 rfl
    generalize w12.alloc (.cells #[.int .i64 (cv nd i 0), .int .i64 (cv nd i 1), .int .i64 (cv nd i 2), .int .i64 (cv nd i 3), .int .i64 (cv nd i 4)] 31) = w17 at *
    replace G := G.trans g
    replace hC := hC2
    clear hC2
    replace hI1 := hI1.thenGr g
    replace hI2 := hI2.thenGr g
    replace hnd := hnd.gr g
    replace hl := hl.gr g
    replace hIa := hIa.gr g
    replace hIr := hIr.gr g
    replace hS := hS.gr g
    clear g hb hbl
    refine Y.nil ?_
    replace F : Fr ac 73 [(0, .agg #[.int .i64 gr, .int .i64 hold, .slice (some pd14) n nc]), (1, .int .i64 t), (2, .slice la m lc), (3, .pointer (some ⟨w.heap.size, 0, none⟩)), (6, .slice (some pd11) t.toNat rc), (7, .slice (some ⟨w6.heap.size, 0, none⟩) n n), (8, .int .i64 0), (9, .pointer (some ⟨bp, 0, none⟩)), (11, .int .i64 (((runFrom hold gr.toNat n l (startS nd) t.toNat).rows)[k]?.getD 0)), (12, .int .i64 i), (13, .pointer (some ⟨w12.heap.size, 0, none⟩)), (22, .bool false), (34, .slice (some pd11) t.toNat rc), (35, .int .i64 t.toNat), (36, .int .i64 k), (37, .bool true), (41, .slice (some pd14) n nc), (42, .int .i64 n), (43, .int .i64 i), (44, .bool true)] := F.sub _
    refine X.thenN ?_
    refine Y.seq ?_
    refine Y.lit (by kernel_rfl) ?_
    refine Y.pval F (X.w0 rfl) rfl (X.move rfl (F.ev 11 (.int .i64 (((runFrom hold gr.toNat n l (startS nd) t.toNat).rows)[k]?.getD 0)))) ?_
    clear F ac
    intro ac F
    refine Y.pval F (X.w0 rfl) rfl (X.move rfl (F.ev 12 (.int .i64 i))) ?_
    clear F ac
    intro ac F
    refine Y.pval F (X.w0 rfl) rfl (X.binop rfl (F.ev 48 (.int .i64 (((runFrom hold gr.toNat n l (startS nd) t.toNat).rows)[k]?.getD 0))) (F.ev 49 (.int .i64 i)) (X.shrI Try.underlying3 rfl (by omega))) ?_
    clear F ac
    intro ac F
    refine Y.pval F (X.w0 rfl) rfl (X.binop rfl (F.ev 50 (.int .i64 (shrV (((runFrom hold gr.toNat n l (startS nd) t.toNat).rows)[k]?.getD 0 : Int) (i : Int)))) (X.kc (.int .i64 1) rfl) (X.andI Try.underlying3 rfl)) ?_
    clear F ac
    intro ac F
    refine Y.pval F (X.w0 rfl) rfl (X.binop rfl (F.ev 51 (.int .i64 (andV (shrV (((runFrom hold gr.toNat n l (startS nd) t.toNat).rows)[k]?.getD 0 : Int) (i : Int) : Int) 1))) (X.kc (.int .i64 1) rfl) (X.eqlI Try.underlying3 rfl)) ?_
    clear F ac
    intro ac F
    refine Y.nil ?_
    replace F : Fr ac 73 [(0, .agg #[.int .i64 gr, .int .i64 hold, .slice (some pd14) n nc]), (1, .int .i64 t), (2, .slice la m lc), (3, .pointer (some ⟨w.heap.size, 0, none⟩)), (6, .slice (some pd11) t.toNat rc), (7, .slice (some ⟨w6.heap.size, 0, none⟩) n n), (8, .int .i64 0), (9, .pointer (some ⟨bp, 0, none⟩)), (11, .int .i64 (((runFrom hold gr.toNat n l (startS nd) t.toNat).rows)[k]?.getD 0)), (12, .int .i64 i), (13, .pointer (some ⟨w12.heap.size, 0, none⟩)), (22, .bool false), (34, .slice (some pd11) t.toNat rc), (35, .int .i64 t.toNat), (36, .int .i64 k), (37, .bool true), (41, .slice (some pd14) n nc), (42, .int .i64 n), (43, .int .i64 i), (44, .bool true), (52, .bool ((andV (shrV (((runFrom hold gr.toNat n l (startS nd) t.toNat).rows)[k]?.getD 0 : Int) (i : Int) : Int) 1 : Int) == 1))] := F.sub _
    refine X.thenN ?_
    cases h18 : ((andV (shrV (((runFrom hold gr.toNat n l (startS nd) t.toNat).rows)[k]?.getD 0 : Int) (i : Int) : Int) 1 : Int) == 1) with
    | false =>
     try rw [h18] at F
     have h18p : ¬ (andV (shrV (((runFrom hold gr.toNat n l (startS nd) t.toNat).rows)[k]?.getD 0 : Int) (i : Int) : Int) 1 : Int) = 1 := by simpa using h18
     refine Y.condF (F.ev 52 (.bool false)) ?_
     replace hC : RCells w17 [(⟨w.heap.size, 0, none⟩, .int .i64 gr), (⟨w.heap.size, 1, none⟩, .int .i64 hold), (⟨w.heap.size, 2, none⟩, .slice (some pd14) n nc), (pd14.add (i * 5), .int .i64 (cv nd i 0)), (⟨(pd14.add (i * 5)).block, (pd14.add (i * 5)).off + 1, none⟩, .int .i64 (cv nd i 1)), (⟨(pd14.add (i * 5)).block, (pd14.add (i * 5)).off + 2, none⟩, .int .i64 (cv nd i 2)), (⟨(pd14.add (i * 5)).block, (pd14.add (i * 5)).off + 3, none⟩, .int .i64 (cv nd i 3)), (⟨(pd14.add (i * 5)).block, (pd14.add (i * 5)).off + 4, none⟩, .int .i64 (cv nd i 4)), (⟨w12.heap.size, 0, none⟩, .int .i64 (cv nd i 0)), (⟨w12.heap.size, 1, none⟩, .int .i64 (cv nd i 1)), (⟨w12.heap.size, 2, none⟩, .int .i64 (cv nd i 2)), (⟨w12.heap.size, 3, none⟩, .int .i64 (cv nd i 3)), (⟨w12.heap.size, 4, none⟩, .int .i64 (cv nd i 4)), (⟨w6.heap.size, i, none⟩, .int .i64 ((enP nd ((runFrom hold gr.toNat n l (startS nd) t.toNat).rows[k]?.getD 0) i (enS nd ((runFrom hold gr.toNat n l (startS nd) t.toNat).rows.take k))) i))] := hC.append ((RCells.cons (hS.cell (k := i) (by omega)) (RCells.nil _)))
     refine Y.regionS F [some (.slice (some ⟨w6.heap.size, 0, none⟩) n n), some (.int .i64 i), some (.pointer (some ⟨w6.heap.size, i, none⟩)), some (.int .i64 ((enP nd ((runFrom hold gr.toNat n l (startS nd) t.toNat).rows[k]?.getD 0) i (enS nd ((runFrom hold gr.toNat n l (startS nd) t.toNat).rows.take k))) i)), some (.pointer (some ⟨w12.heap.size, 2, none⟩)), some (.int .i64 (cv nd i 2)), some (.int .i64 (((enP nd ((runFrom hold gr.toNat n l (startS nd) t.toNat).rows[k]?.getD 0) i (enS nd ((runFrom hold gr.toNat n l (startS nd) t.toNat).rows.take k))) i : Int) + (cv nd i 2))), some (.pointer (some ⟨w6.heap.size, i, none⟩)), none] [] 8 (fun _ W => Only (fun x => x = w6.heap.size) w17 W ∧ OwnP W w6.heap.size (n) (EV ((fun z_ => if z_ = i then ((enP nd ((runFrom hold gr.toNat n l (startS nd) t.toNat).rows[k]?.getD 0) i (enS nd ((runFrom hold gr.toNat n l (startS nd) t.toNat).rows.take k))) i : Int) + (cv nd i 2) else (enP nd ((runFrom hold gr.toNat n l (startS nd) t.toNat).rows[k]?.getD 0) i (enS nd ((runFrom hold gr.toNat n l (startS nd) t.toNat).rows.take k))) z_)))) rfl ⟨by kernel_rfl, of_decide_eq_true (by kernel_rfl), by kernel_rfl, by kernel_rfl, by kernel_rfl⟩ (of_decide_eq_true (by kernel_rfl)) ⟨?_, ?_, ?_, ?_, ?_, ?_, ?_, ?_, ?_, trivial⟩ ?_
     ·intro ac done u W Sx hT
      have hs := Sx.no 8 (by kernel_rfl)
      have hR := hT.1 hs
      exact X.val (X.w0 rfl) rfl (X.move rfl (Sx.ev 7 (.slice (some ⟨w6.heap.size, 0, none⟩) n n))) (Y.RT.of hs rfl (hR.step (Gr.refl _) rfl))
     ·intro ac done u W Sx hT
      have hs := Sx.no 8 (by kernel_rfl)
      have hR := hT.1 hs
      exact X.val (X.w0 rfl) rfl (X.move rfl (Sx.ev 12 (.int .i64 i))) (Y.RT.of hs rfl (hR.step (Gr.refl _) rfl))
     ·intro ac done u W Sx hT
      have hs := Sx.no 8 (by kernel_rfl)
      have hR := hT.1 hs
      exact X.val (X.w0 rfl) rfl (X.index rfl (Sx.ev 61 (.slice (some ⟨w6.heap.size, 0, none⟩) n n)) (Sx.ev 62 (.int .i64 i)) (X.idx (k := i) Try.underlying34 (Try.siz3 _) (by omega) (by omega) (by rw [Nat.mul_one]; exact addr_add0 _ _))) (Y.RT.of hs rfl (hR.step (Gr.refl _) rfl))
     ·intro ac done u W Sx hT
      have hs := Sx.no 8 (by kernel_rfl)
      have hR := hT.1 hs
      have g : Gr w17 W := hR.1
      exact X.val (X.w0 rfl) rfl (X.load rfl (Sx.ev 63 (.pointer (some ⟨w6.heap.size, i, none⟩))) (X.ld1 (Try.agg3 _) ((hC.gr g).at 13 rfl))) (Y.RT.of hs rfl (hR.step (Gr.refl _) rfl))
     ·intro ac done u W Sx hT
      have hs := Sx.no 8 (by kernel_rfl)
      have hR := hT.1 hs
      exact X.val (X.w0 rfl) rfl (X.field rfl (Sx.ev 13 (.pointer (some ⟨w12.heap.size, 0, none⟩))) (X.fld Try.underlying31 rfl (Try.siz3 _) rfl rfl)) (Y.RT.of hs rfl (hR.step (Gr.refl _) rfl))
     ·intro ac done u W Sx hT
      have hs := Sx.no 8 (by kernel_rfl)
      have hR := hT.1 hs
      have g : Gr w17 W := hR.1
      exact X.val (X.w0 rfl) rfl (X.load rfl (Sx.ev 65 (.pointer (some ⟨w12.heap.size, 2, none⟩))) (X.ld1 (Try.agg3 _) ((hC.gr g).at 10 rfl))) (Y.RT.of hs rfl (hR.step (Gr.refl _) rfl))
     ·intro ac done u W Sx hT
      have hs := Sx.no 8 (by kernel_rfl)
      have hR := hT.1 hs
      exact X.val (X.w0 rfl) rfl (X.binop rfl (Sx.ev 64 (.int .i64 ((enP nd ((runFrom hold gr.toNat n l (startS nd) t.toNat).rows[k]?.getD 0) i (enS nd ((runFrom hold gr.toNat n l (startS nd) t.toNat).rows.take k))) i))) (Sx.ev 66 (.int .i64 (cv nd i 2))) (X.addI Try.underlying3 rfl (by omega) (by omega))) (Y.RT.of hs rfl (hR.step (Gr.refl _) rfl))
     ·intro ac done u W Sx hT
      have hs := Sx.no 8 (by kernel_rfl)
      have hR := hT.1 hs
      exact X.val (X.w0 rfl) rfl (X.index rfl (Sx.ev 61 (.slice (some ⟨w6.heap.size, 0, none⟩) n n)) (Sx.ev 62 (.int .i64 i)) (X.idx (k := i) Try.underlying34 (Try.siz3 _) (by omega) (by omega) (by rw [Nat.mul_one]; exact addr_add0 _ _))) (Y.RT.of hs rfl (hR.step (Gr.refl _) rfl))
     ·intro ac done u W Sx hT
      have hR := hT.1 Sx.nd
      have g : Gr w17 W := hR.1
      have hS2 := (hS.gr g).set (k := i) (.int .i64 (((enP nd ((runFrom hold gr.toNat n l (startS nd) t.toNat).rows[k]?.getD 0) i (enS nd ((runFrom hold gr.toNat n l (startS nd) t.toNat).rows.take k))) i : Int) + (cv nd i 2)))
      rw [EV_up] at hS2
      exact X.unit (X.w0 rfl) rfl (X.store rfl (Sx.ev 68 (.pointer (some ⟨w6.heap.size, i, none⟩))) (Sx.ev 67 (.int .i64 (((enP nd ((runFrom hold gr.toNat n l (startS nd) t.toNat).rows[k]?.getD 0) i (enS nd ((runFrom hold gr.toNat n l (startS nd) t.toNat).rows.take k))) i : Int) + (cv nd i 2)))) ((hS.gr g).st1 (Try.siz3 _) rfl rfl (by omega))) (Y.RT.fin ⟨(g.only _).trans (Y.set_only _ _ _ _), hS2⟩)
     rintro ac u w19 hs hd hl_ ho ⟨hon, hS2⟩
     replace F : Fr ac 73 [(0, .agg #[.int .i64 gr, .int .i64 hold, .slice (some pd14) n nc]), (1, .int .i64 t), (2, .slice la m lc), (3, .pointer (some ⟨w.heap.size, 0, none⟩)), (6, .slice (some pd11) t.toNat rc), (7, .slice (some ⟨w6.heap.size, 0, none⟩) n n), (8, .int .i64 0), (9, .pointer (some ⟨bp, 0, none⟩)), (11, .int .i64 (((runFrom hold gr.toNat n l (startS nd) t.toNat).rows)[k]?.getD 0)), (12, .int .i64 i), (13, .pointer (some ⟨w12.heap.size, 0, none⟩)), (22, .bool false), (34, .slice (some pd11) t.toNat rc), (35, .int .i64 t.toNat), (36, .int .i64 k), (37, .bool true), (41, .slice (some pd14) n nc), (42, .int .i64 n), (43, .int .i64 i), (44, .bool true), (52, .bool false)] := X.fr hs hd hl_ _ (by kernel_rfl)
     clear hs hd hl_ ho
     replace G := Y.Only.up G hon (by omega)
     replace hnd := hnd0.gr G
     replace hl := hl0.gr G
     replace hIa := hIa.onlyAt hon (fun ad e h => by have := hIab ad e; omega)
     replace hIr := hIr.onlyAt hon (fun ad e h => by have := hIrb ad e; omega)
     replace hC : RCells w19 [(⟨w.heap.size, 0, none⟩, .int .i64 gr), (⟨w.heap.size, 1, none⟩, .int .i64 hold), (⟨w.heap.size, 2, none⟩, .slice (some pd14) n nc), (⟨w12.heap.size, 0, none⟩, .int .i64 (cv nd i 0)), (⟨w12.heap.size, 1, none⟩, .int .i64 (cv nd i 1)), (⟨w12.heap.size, 2, none⟩, .int .i64 (cv nd i 2)), (⟨w12.heap.size, 3, none⟩, .int .i64 (cv nd i 3)), (⟨w12.heap.size, 4, none⟩, .int .i64 (cv nd i 4))] := (RCells.cons (hon.cell (hC.at 0 rfl) (by show ¬ w.heap.size = w6.heap.size; omega)) (RCells.cons (hon.cell (hC.at 1 rfl) (by show ¬ w.heap.size = w6.heap.size; omega)) (RCells.cons (hon.cell (hC.at 2 rfl) (by show ¬ w.heap.size = w6.heap.size; omega)) (RCells.cons (hon.cell (hC.at 8 rfl) (by show ¬ w12.heap.size = w6.heap.size; omega)) (RCells.cons (hon.cell (hC.at 9 rfl) (by show ¬ w12.heap.size = w6.heap.size; omega)) (RCells.cons (hon.cell (hC.at 10 rfl) (by show ¬ w12.heap.size = w6.heap.size; omega)) (RCells.cons (hon.cell (hC.at 11 rfl) (by show ¬ w12.heap.size = w6.heap.size; omega)) (RCells.cons (hon.cell (hC.at 12 rfl) (by show ¬ w12.heap.size = w6.heap.size; omega)) (RCells.nil _)))))))))
     replace hI1 := hI1.step hon (.inl rfl)
     replace hI2 := hI2.step hon (.inl rfl)
     replace hS : OwnP w19 w6.heap.size (n) (EV ((fun z_ => if z_ = i then ((enP nd ((runFrom hold gr.toNat n l (startS nd) t.toNat).rows[k]?.getD 0) i (enS nd ((runFrom hold gr.toNat n l (startS nd) t.toNat).rows.take k))) i : Int) + (cv nd i 2) else (enP nd ((runFrom hold gr.toNat n l (startS nd) t.toNat).rows[k]?.getD 0) i (enS nd ((runFrom hold gr.toNat n l (startS nd) t.toNat).rows.take k))) z_))) := hS2
     clear hS2 hon
     refine X.blockN ?_
     refine X.thenN ?_
     refine Y.lit (by kernel_rfl) ?_
     refine Y.pval F (X.w0 rfl) rfl (X.binop rfl (F.ev 43 (.int .i64 i)) (X.kc (.int .i64 1) rfl) (X.addI Try.underlying3 rfl (by omega) (by omega))) ?_
     clear F ac
     intro ac F
     refine Y.pval F (X.w0 rfl) rfl (X.move rfl (F.ev 69 (.int .i64 ((i : Int) + 1)))) ?_
     clear F ac
     intro ac F
     refine Y.nil ?_
     replace F : Fr ac 73 [(0, .agg #[.int .i64 gr, .int .i64 hold, .slice (some pd14) n nc]), (1, .int .i64 t), (2, .slice la m lc), (3, .pointer (some ⟨w.heap.size, 0, none⟩)), (6, .slice (some pd11) t.toNat rc), (7, .slice (some ⟨w6.heap.size, 0, none⟩) n n), (8, .int .i64 0), (9, .pointer (some ⟨bp, 0, none⟩)), (11, .int .i64 (((runFrom hold gr.toNat n l (startS nd) t.toNat).rows)[k]?.getD 0)), (12, .int .i64 i), (13, .pointer (some ⟨w12.heap.size, 0, none⟩)), (22, .bool false), (34, .slice (some pd11) t.toNat rc), (35, .int .i64 t.toNat), (36, .int .i64 k), (37, .bool true), (41, .slice (some pd14) n nc), (42, .int .i64 n), (43, .int .i64 ((i : Int) + 1)), (44, .bool true), (52, .bool false)] := F.sub _
     refine X.thenN ?_
     refine ⟨_, ?_, i + 1, rfl, by omega, hI2, (by rw [enP_succ nd _ i _ (by unfold en1 bitB; simp [h18])] at hS; exact hS), F.sub _⟩
     omega
    | true =>
     try rw [h18] at F
     have h18p : (andV (shrV (((runFrom hold gr.toNat n l (startS nd) t.toNat).rows)[k]?.getD 0 : Int) (i : Int) : Int) 1 : Int) = 1 := by simpa using h18
     refine Y.condT (F.ev 52 (.bool true)) ?_
     replace hC : RCells w17 [(⟨w.heap.size, 0, none⟩, .int .i64 gr), (⟨w.heap.size, 1, none⟩, .int .i64 hold), (⟨w.heap.size, 2, none⟩, .slice (some pd14) n nc), (pd14.add (i * 5), .int .i64 (cv nd i 0)), (⟨(pd14.add (i * 5)).block, (pd14.add (i * 5)).off + 1, none⟩, .int .i64 (cv nd i 1)), (⟨(pd14.add (i * 5)).block, (pd14.add (i * 5)).off + 2, none⟩, .int .i64 (cv nd i 2)), (⟨(pd14.add (i * 5)).block, (pd14.add (i * 5)).off + 3, none⟩, .int .i64 (cv nd i 3)), (⟨(pd14.add (i * 5)).block, (pd14.add (i * 5)).off + 4, none⟩, .int .i64 (cv nd i 4)), (⟨w12.heap.size, 0, none⟩, .int .i64 (cv nd i 0)), (⟨w12.heap.size, 1, none⟩, .int .i64 (cv nd i 1)), (⟨w12.heap.size, 2, none⟩, .int .i64 (cv nd i 2)), (⟨w12.heap.size, 3, none⟩, .int .i64 (cv nd i 3)), (⟨w12.heap.size, 4, none⟩, .int .i64 (cv nd i 4)), (⟨w6.heap.size, i, none⟩, .int .i64 ((enP nd ((runFrom hold gr.toNat n l (startS nd) t.toNat).rows[k]?.getD 0) i (enS nd ((runFrom hold gr.toNat n l (startS nd) t.toNat).rows.take k))) i))] := hC.append ((RCells.cons (hS.cell (k := i) (by omega)) (RCells.nil _)))
     refine Y.regionS F [some (.slice (some ⟨w6.heap.size, 0, none⟩) n n), some (.int .i64 i), some (.pointer (some ⟨w6.heap.size, i, none⟩)), some (.int .i64 ((enP nd ((runFrom hold gr.toNat n l (startS nd) t.toNat).rows[k]?.getD 0) i (enS nd ((runFrom hold gr.toNat n l (startS nd) t.toNat).rows.take k))) i)), some (.pointer (some ⟨w12.heap.size, 1, none⟩)), some (.int .i64 (cv nd i 1)), some (.int .i64 (((enP nd ((runFrom hold gr.toNat n l (startS nd) t.toNat).rows[k]?.getD 0) i (enS nd ((runFrom hold gr.toNat n l (startS nd) t.toNat).rows.take k))) i : Int) + (cv nd i 1))), some (.pointer (some ⟨w6.heap.size, i, none⟩)), none] [] 8 (fun _ W => Only (fun x => x = w6.heap.size) w17 W ∧ OwnP W w6.heap.size (n) (EV ((fun z_ => if z_ = i then ((enP nd ((runFrom hold gr.toNat n l (startS nd) t.toNat).rows[k]?.getD 0) i (enS nd ((runFrom hold gr.toNat n l (startS nd) t.toNat).rows.take k))) i : Int) + (cv nd i 1) else (enP nd ((runFrom hold gr.toNat n l (startS nd) t.toNat).rows[k]?.getD 0) i (enS nd ((runFrom hold gr.toNat n l (startS nd) t.toNat).rows.take k))) z_)))) rfl ⟨by kernel_rfl, of_decide_eq_true (by kernel_rfl), by kernel_rfl, by kernel_rfl, by kernel_rfl⟩ (of_decide_eq_true (by kernel_rfl)) ⟨?_, ?_, ?_, ?_, ?_, ?_, ?_, ?_, ?_, trivial⟩ ?_
     ·intro ac done u W Sx hT
      have hs := Sx.no 8 (by kernel_rfl)
      have hR := hT.1 hs
      exact X.val (X.w0 rfl) rfl (X.move rfl (Sx.ev 7 (.slice (some ⟨w6.heap.size, 0, none⟩) n n))) (Y.RT.of hs rfl (hR.step (Gr.refl _) rfl))
     ·intro ac done u W Sx hT
      have hs := Sx.no 8 (by kernel_rfl)
      have hR := hT.1 hs
      exact X.val (X.w0 rfl) rfl (X.move rfl (Sx.ev 12 (.int .i64 i))) (Y.RT.of hs rfl (hR.step (Gr.refl _) rfl))
     ·intro ac done u W Sx hT
      have hs := Sx.no 8 (by kernel_rfl)
      have hR := hT.1 hs
      exact X.val (X.w0 rfl) rfl (X.index rfl (Sx.ev 53 (.slice (some ⟨w6.heap.size, 0, none⟩) n n)) (Sx.ev 54 (.int .i64 i)) (X.idx (k := i) Try.underlying34 (Try.siz3 _) (by omega) (by omega) (by rw [Nat.mul_one]; exact addr_add0 _ _))) (Y.RT.of hs rfl (hR.step (Gr.refl _) rfl))
     ·intro ac done u W Sx hT
      have hs := Sx.no 8 (by kernel_rfl)
      have hR := hT.1 hs
      have g : Gr w17 W := hR.1
      exact X.val (X.w0 rfl) rfl (X.load rfl (Sx.ev 55 (.pointer (some ⟨w6.heap.size, i, none⟩))) (X.ld1 (Try.agg3 _) ((hC.gr g).at 13 rfl))) (Y.RT.of hs rfl (hR.step (Gr.refl _) rfl))
     ·intro ac done u W Sx hT
      have hs := Sx.no 8 (by kernel_rfl)
      have hR := hT.1 hs
      exact X.val (X.w0 rfl) rfl (X.field rfl (Sx.ev 13 (.pointer (some ⟨w12.heap.size, 0, none⟩))) (X.fld Try.underlying31 rfl (Try.siz3 _) rfl rfl)) (Y.RT.of hs rfl (hR.step (Gr.refl _) rfl))
     ·intro ac done u W Sx hT
      have hs := Sx.no 8 (by kernel_rfl)
      have hR := hT.1 hs
      have g : Gr w17 W := hR.1
      exact X.val (X.w0 rfl) rfl (X.load rfl (Sx.ev 57 (.pointer (some ⟨w12.heap.size, 1, none⟩))) (X.ld1 (Try.agg3 _) ((hC.gr g).at 9 rfl))) (Y.RT.of hs rfl (hR.step (Gr.refl _) rfl))
     ·intro ac done u W Sx hT
      have hs := Sx.no 8 (by kernel_rfl)
      have hR := hT.1 hs
      exact X.val (X.w0 rfl) rfl (X.binop rfl (Sx.ev 56 (.int .i64 ((enP nd ((runFrom hold gr.toNat n l (startS nd) t.toNat).rows[k]?.getD 0) i (enS nd ((runFrom hold gr.toNat n l (startS nd) t.toNat).rows.take k))) i))) (Sx.ev 58 (.int .i64 (cv nd i 1))) (X.addI Try.underlying3 rfl (by omega) (by omega))) (Y.RT.of hs rfl (hR.step (Gr.refl _) rfl))
     ·intro ac done u W Sx hT
      have hs := Sx.no 8 (by kernel_rfl)
      have hR := hT.1 hs
      exact X.val (X.w0 rfl) rfl (X.index rfl (Sx.ev 53 (.slice (some ⟨w6.heap.size, 0, none⟩) n n)) (Sx.ev 54 (.int .i64 i)) (X.idx (k := i) Try.underlying34 (Try.siz3 _) (by omega) (by omega) (by rw [Nat.mul_one]; exact addr_add0 _ _))) (Y.RT.of hs rfl (hR.step (Gr.refl _) rfl))
     ·intro ac done u W Sx hT
      have hR := hT.1 Sx.nd
      have g : Gr w17 W := hR.1
      have hS2 := (hS.gr g).set (k := i) (.int .i64 (((enP nd ((runFrom hold gr.toNat n l (startS nd) t.toNat).rows[k]?.getD 0) i (enS nd ((runFrom hold gr.toNat n l (startS nd) t.toNat).rows.take k))) i : Int) + (cv nd i 1)))
      rw [EV_up] at hS2
      exact X.unit (X.w0 rfl) rfl (X.store rfl (Sx.ev 60 (.pointer (some ⟨w6.heap.size, i, none⟩))) (Sx.ev 59 (.int .i64 (((enP nd ((runFrom hold gr.toNat n l (startS nd) t.toNat).rows[k]?.getD 0) i (enS nd ((runFrom hold gr.toNat n l (startS nd) t.toNat).rows.take k))) i : Int) + (cv nd i 1)))) ((hS.gr g).st1 (Try.siz3 _) rfl rfl (by omega))) (Y.RT.fin ⟨(g.only _).trans (Y.set_only _ _ _ _), hS2⟩)
     rintro ac u w20 hs hd hl_ ho ⟨hon, hS2⟩
     replace F : Fr ac 73 [(0, .agg #[.int .i64 gr, .int .i64 hold, .slice (some pd14) n nc]), (1, .int .i64 t), (2, .slice la m lc), (3, .pointer (some ⟨w.heap.size, 0, none⟩)), (6, .slice (some pd11) t.toNat rc), (7, .slice (some ⟨w6.heap.size, 0, none⟩) n n), (8, .int .i64 0), (9, .pointer (some ⟨bp, 0, none⟩)), (11, .int .i64 (((runFrom hold gr.toNat n l (startS nd) t.toNat).rows)[k]?.getD 0)), (12, .int .i64 i), (13, .pointer (some ⟨w12.heap.size, 0, none⟩)), (22, .bool false), (34, .slice (some pd11) t.toNat rc), (35, .int .i64 t.toNat), (36, .int .i64 k), (37, .bool true), (41, .slice (some pd14) n nc), (42, .int .i64 n), (43, .int .i64 i), (44, .bool true), (52, .bool true)] := X.fr hs hd hl_ _ (by kernel_rfl)
     clear hs hd hl_ ho
     replace G := Y.Only.up G hon (by omega)
     replace hnd := hnd0.gr G
     replace hl := hl0.gr G
     replace hIa := hIa.onlyAt hon (fun ad e h => by have := hIab ad e; omega)
     replace hIr := hIr.onlyAt hon (fun ad e h => by have := hIrb ad e; omega)
     replace hC : RCells w20 [(⟨w.heap.size, 0, none⟩, .int .i64 gr), (⟨w.heap.size, 1, none⟩, .int .i64 hold), (⟨w.heap.size, 2, none⟩, .slice (some pd14) n nc), (⟨w12.heap.size, 0, none⟩, .int .i64 (cv nd i 0)), (⟨w12.heap.size, 1, none⟩, .int .i64 (cv nd i 1)), (⟨w12.heap.size, 2, none⟩, .int .i64 (cv nd i 2)), (⟨w12.heap.size, 3, none⟩, .int .i64 (cv nd i 3)), (⟨w12.heap.size, 4, none⟩, .int .i64 (cv nd i 4))] := (RCells.cons (hon.cell (hC.at 0 rfl) (by show ¬ w.heap.size = w6.heap.size; omega)) (RCells.cons (hon.cell (hC.at 1 rfl) (by show ¬ w.heap.size = w6.heap.size; omega)) (RCells.cons (hon.cell (hC.at 2 rfl) (by show ¬ w.heap.size = w6.heap.size; omega)) (RCells.cons (hon.cell (hC.at 8 rfl) (by show ¬ w12.heap.size = w6.heap.size; omega)) (RCells.cons (hon.cell (hC.at 9 rfl) (by show ¬ w12.heap.size = w6.heap.size; omega)) (RCells.cons (hon.cell (hC.at 10 rfl) (by show ¬ w12.heap.size = w6.heap.size; omega)) (RCells.cons (hon.cell (hC.at 11 rfl) (by show ¬ w12.heap.size = w6.heap.size; omega)) (RCells.cons (hon.cell (hC.at 12 rfl) (by show ¬ w12.heap.size = w6.heap.size; omega)) (RCells.nil _)))))))))
     replace hI1 := hI1.step hon (.inl rfl)
     replace hI2 := hI2.step hon (.inl rfl)
     replace hS : OwnP w20 w6.heap.size (n) (EV ((fun z_ => if z_ = i then ((enP nd ((runFrom hold gr.toNat n l (startS nd) t.toNat).rows[k]?.getD 0) i (enS nd ((runFrom hold gr.toNat n l (startS nd) t.toNat).rows.take k))) i : Int) + (cv nd i 1) else (enP nd ((runFrom hold gr.toNat n l (startS nd) t.toNat).rows[k]?.getD 0) i (enS nd ((runFrom hold gr.toNat n l (startS nd) t.toNat).rows.take k))) z_))) := hS2
     clear hS2 hon
     refine X.blockN ?_
     refine X.thenN ?_
     refine Y.lit (by kernel_rfl) ?_
     refine Y.pval F (X.w0 rfl) rfl (X.binop rfl (F.ev 43 (.int .i64 i)) (X.kc (.int .i64 1) rfl) (X.addI Try.underlying3 rfl (by omega) (by omega))) ?_
     clear F ac
     intro ac F
     refine Y.pval F (X.w0 rfl) rfl (X.move rfl (F.ev 69 (.int .i64 ((i : Int) + 1)))) ?_
     clear F ac
     intro ac F
     refine Y.nil ?_
     replace F : Fr ac 73 [(0, .agg #[.int .i64 gr, .int .i64 hold, .slice (some pd14) n nc]), (1, .int .i64 t), (2, .slice la m lc), (3, .pointer (some ⟨w.heap.size, 0, none⟩)), (6, .slice (some pd11) t.toNat rc), (7, .slice (some ⟨w6.heap.size, 0, none⟩) n n), (8, .int .i64 0), (9, .pointer (some ⟨bp, 0, none⟩)), (11, .int .i64 (((runFrom hold gr.toNat n l (startS nd) t.toNat).rows)[k]?.getD 0)), (12, .int .i64 i), (13, .pointer (some ⟨w12.heap.size, 0, none⟩)), (22, .bool false), (34, .slice (some pd11) t.toNat rc), (35, .int .i64 t.toNat), (36, .int .i64 k), (37, .bool true), (41, .slice (some pd14) n nc), (42, .int .i64 n), (43, .int .i64 ((i : Int) + 1)), (44, .bool true), (52, .bool true)] := F.sub _
     refine X.thenN ?_
     refine ⟨_, ?_, i + 1, rfl, by omega, hI2, (by rw [enP_succ nd _ i _ (by unfold en1 bitB; simp [h18])] at hS; exact hS), F.sub _⟩
     omega
 ·have hE := hE
  refine Y.pcall F (X.w0 rfl) rfl (X.enter (F := 44) rfl (X.kc (.func (.func 44) #[] #[]) rfl) (X.a3 (F.ev 15 (.agg #[.int .i64 gr, .int .i64 hold, .slice na n nc])) (F.ev 16 (.int .i64 t)) (F.ev 17 (.slice la m lc))) (enters_of Try.func44 (by kernel_rfl) rfl _)) (begin_any na la n nc m lc gr hold t nd l w3 hnd hl) ?_
  clear F ac
  rintro e w21 ⟨h1, g, -⟩
  obtain rfl := h1 hE
  refine ⟨_, rfl, ?_⟩
  intro ac F
  replace G := G.trans g
  replace hC := hC.gr g
  replace hnd := hnd.gr g
  replace hl := hl.gr g
  clear g
  refine Y.pval F (X.w0 rfl) rfl (X.move rfl (F.ev 18 (.tuple #[.pointer none, .int .i64 (playE gr hold nd t l)]))) ?_
  clear F ac
  intro ac F
  refine Y.pval F (X.w0 rfl) rfl (X.extract rfl (F.ev 14 (.tuple #[.pointer none, .int .i64 (playE gr hold nd t l)])) rfl) ?_
  clear F ac
  intro ac F
  refine Y.pval F (X.w0 rfl) rfl (X.extract rfl (F.ev 14 (.tuple #[.pointer none, .int .i64 (playE gr hold nd t l)])) rfl) ?_
  clear F ac
  intro ac F
  refine Y.pval F (X.w0 rfl) rfl (X.assign rfl (F.ev 19 (.pointer none))) ?_
  clear F ac
  intro ac F
  refine Y.pval F (X.w0 rfl) rfl (X.assign rfl (F.ev 20 (.int .i64 (playE gr hold nd t l)))) ?_
  clear F ac
  intro ac F
  refine Y.nil ?_
  replace F : Fr ac 73 [(0, .agg #[.int .i64 gr, .int .i64 hold, .slice na n nc]), (1, .int .i64 t), (2, .slice la m lc), (3, .pointer (some ⟨w.heap.size, 0, none⟩)), (6, .slice none 0 0), (7, .slice none 0 0), (8, .int .i64 (playE gr hold nd t l)), (9, .pointer none)] := F.sub _
  refine X.thenN ?_
  refine Y.seq ?_
  refine Y.seq ?_
  refine Y.lit (by kernel_rfl) ?_
  refine Y.pval F (X.w0 rfl) rfl (X.move rfl (F.ev 8 (.int .i64 (playE gr hold nd t l)))) ?_
  clear F ac
  intro ac F
  refine Y.pval F (X.w0 rfl) rfl (X.binop rfl (F.ev 21 (.int .i64 (playE gr hold nd t l))) (X.kc (.int .i64 0) rfl) (X.neqI Try.underlying26 rfl)) ?_
  clear F ac
  intro ac F
  refine Y.nil ?_
  replace F : Fr ac 73 [(0, .agg #[.int .i64 gr, .int .i64 hold, .slice na n nc]), (1, .int .i64 t), (2, .slice la m lc), (3, .pointer (some ⟨w.heap.size, 0, none⟩)), (6, .slice none 0 0), (7, .slice none 0 0), (8, .int .i64 (playE gr hold nd t l)), (9, .pointer none), (22, .bool ((playE gr hold nd t l : Int) != 0))] := F.sub _
  refine X.thenN ?_
  have h23 : ((playE gr hold nd t l : Int) != 0) = true := by simpa using hE
  try rw [h23] at F
  refine Y.condT (F.ev 22 (.bool true)) ?_
  refine Y.seq ?_
  refine Y.lit (by kernel_rfl) ?_
  refine Y.pval F (X.w0 rfl) rfl (X.move rfl (F.ev 8 (.int .i64 (playE gr hold nd t l)))) ?_
  clear F ac
  intro ac F
  refine Y.pval F (X.w0 rfl) rfl (X.assign rfl (X.kc (.slice none 0 0) rfl)) ?_
  clear F ac
  intro ac F
  refine Y.pval F (X.w0 rfl) rfl (X.assign rfl (X.kc (.slice none 0 0) rfl)) ?_
  clear F ac
  intro ac F
  refine Y.pval F (X.w0 rfl) rfl (X.assign rfl (F.ev 23 (.int .i64 (playE gr hold nd t l)))) ?_
  clear F ac
  intro ac F
  refine Y.nil ?_
  replace F : Fr ac 73 [(0, .agg #[.int .i64 gr, .int .i64 hold, .slice na n nc]), (1, .int .i64 t), (2, .slice la m lc), (3, .pointer (some ⟨w.heap.size, 0, none⟩)), (6, .slice none 0 0), (7, .slice none 0 0), (8, .int .i64 (playE gr hold nd t l)), (9, .pointer none), (22, .bool true)] := F.sub _
  refine X.thenN ?_
  refine Y.ret ?_
  refine X.thenR ?_
  exact Y.ret0 (v := .tuple #[.slice none 0 0, .slice none 0 0, .int .i64 (playE gr hold nd t l)]) F (Y.rs3 F rfl (by kernel_rfl) (by kernel_rfl) (by kernel_rfl)) ⟨none, 0, 0, none, 0, 0, rfl, by unfold playRows; rw [if_neg hE]; exact Ints.nil _, by unfold playEn; rw [if_neg hE]; exact Ints.nil _, G⟩
end
section
set_option linter.unusedVariables false
open Go.RowKit
theorem Try.klaw72 : WideMaps.KeyLaw Try.prog 72 := Go.deep_law (m := 2) (by omega) (by kernel_rfl) (by kernel_rfl) (by kernel_rfl)
/-- a state as a key -/
def keyS (t x : Int) : Value := .agg #[.int .i64 t, .int .i64 x]
def SmallS (t x : Int) : Prop := 0 ≤ t ∧ t ≤ 1000000 ∧ 0 ≤ x ∧ x ≤ 1000000
theorem keyOf_keyS {t x : Int} (h : SmallS t x) : ∃ l, keyOf Try.prog 72 (keyS t x) = some l := by
  have h0 : (Lit.int .i64 t).wf = true := by obtain ⟨_, _, _, _⟩ := h; simp [Lit.wf, IntKind.min, IntKind.max, IntKind.signed, IntKind.bits]; omega
  have h1 : (Lit.int .i64 x).wf = true := by obtain ⟨_, _, _, _⟩ := h; simp [Lit.wf, IntKind.min, IntKind.max, IntKind.signed, IntKind.bits]; omega
  unfold keyOf keyS
  rw [Try.underlying72]
  simp only
  rw [if_pos (by kernel_rfl)]
  have hs : ∃ m, Try.prog.types.size = m + 1 := ⟨Try.prog.types.size - 1, by kernel_rfl⟩
  obtain ⟨m, hm⟩ := hs
  rw [hm]
  have c1 : Try.prog.cellsOf 72 = 2 := by kernel_rfl
  have c2 : Try.prog.cellsOf 3 = 1 := by kernel_rfl
  simp [Program.keyLits, Try.underlying72, Try.underlying3, c1, c2, Value.cells, List.range, List.range.loop, h0, h1]
theorem keyS_inj {t x u y : Int} (h : keyS t x = keyS u y) : t = u ∧ x = y := by
  unfold keyS at h
  injection h with h
  simpa using h
/-- block m is a map whose keys are states, and whose values are good for them -/
def Memo (W : World) (m : Nat) (G : Int → Int → Value → Prop) : Prop := ∃ es clk, W.heap[m]? = some (.map es clk) ∧ ∀ e ∈ es.toList, ∃ t x, e.key = keyS t x ∧ SmallS t x ∧ G t x e.val
theorem Memo.lt {W : World} {m : Nat} {G : Int → Int → Value → Prop} (h : Memo W m G) : m < W.heap.size := by
  obtain ⟨es, clk, hb, _⟩ := h
  exact (Array.getElem?_eq_some_iff.1 hb).1
theorem Memo.only {S : Nat → Prop} {W W' : World} {m : Nat} {G : Int → Int → Value → Prop} (h : Memo W m G) (g : Only S W W') (hs : ¬ S m) : Memo W' m G := by
  have hlt := h.lt
  obtain ⟨es, clk, hm, hall⟩ := h
  exact ⟨es, clk, (g.block m hlt hs).trans hm, hall⟩
theorem Memo.gr {W W' : World} {m : Nat} {G : Int → Int → Value → Prop} (h : Memo W m G) (g : Gr W W') : Memo W' m G := h.only (g.only (fun _ => False)) (fun h => h)
theorem memo_new {W : World} {m : Nat} {G : Int → Int → Value → Prop} (h : W.heap[m]? = some (.map #[] 0)) : Memo W m G := ⟨_, _, h, fun e he => by simp at he⟩
/-- a lookup: a value that is good for the state, or none -/
theorem memo_lookup {W : World} {m t e : Nat} {G : Int → Int → Value → Prop} {z : Value} {a x : Int} (ht : Try.prog.underlying t = some (.map 72 e)) (hz : (zeroValue e).run Try.prog W = .ok z W) (h : Memo W m G) (hs : SmallS a x) :
    (∃ v, (Instr.lookup t (.map (some m)) (keyS a x) true).run Try.prog W = .ok (.tuple #[v, .bool true]) W ∧ G a x v) ∨ (Instr.lookup t (.map (some m)) (keyS a x) true).run Try.prog W = .ok (.tuple #[z, .bool false]) W := by
  obtain ⟨es, clk, hb, hall⟩ := h
  obtain ⟨l, hl⟩ := keyOf_keyS hs
  have K := Try.klaw72
  rcases K.find W hl es.toList (fun e he => by obtain ⟨t', x', h1, h2, _⟩ := hall e he; rw [h1]; exact keyOf_keyS h2) with ⟨h1, h2⟩ | ⟨j, e0, h1, h2, h3⟩
  · exact .inr (by simp [Instr.lookup, run_underlying ht, MapKept.run_getObj_map hb, K.check W _ hl, h1, hz, Result.andThen])
  · have hm0 : e0 ∈ es.toList := List.mem_of_getElem? h2
    obtain ⟨t', x', k1, k2, k3⟩ := hall e0 hm0
    obtain ⟨rfl, rfl⟩ := keyS_inj (k1.symm.trans h3)
    exact .inl ⟨e0.val, by simp [Instr.lookup, run_underlying ht, MapKept.run_getObj_map hb, K.check W _ hl, h1, Result.andThen], k3⟩
/-- a store of a value that is good for the state -/
theorem memo_store {W : World} {m t e : Nat} {G : Int → Int → Value → Prop} {v : Value} {a x : Int} (ht : Try.prog.underlying t = some (.map 72 e)) (h : Memo W m G) (hs : SmallS a x) (hG : G a x v) :
    ∃ W', (Instr.mapUpdate t (.map (some m)) (keyS a x) v).run Try.prog W = .ok () W' ∧ Memo W' m G ∧ Only (fun b => b = m) W W' := by
  obtain ⟨es, clk, hb, hall⟩ := h
  obtain ⟨l, hl⟩ := keyOf_keyS hs
  have K := Try.klaw72
  have hlt : m < W.heap.size := (Array.getElem?_eq_some_iff.1 hb).1
  have hset : ∀ o, (setObj m o).run Try.prog W = .ok () (W.putObj m o) := fun o => by
    simp [setObj, Sem.run, hb, World.putObj]
  rcases K.find W hl es.toList (fun e he => by obtain ⟨t', x', h1, h2, _⟩ := hall e he; rw [h1]; exact keyOf_keyS h2) with ⟨h1, h2⟩ | ⟨j, e0, h1, h2, h3⟩
  · refine ⟨W.putObj m (.map (es.push { key := keyS a x, val := v, born := clk }) (clk + 1)), by simp [Instr.mapUpdate, run_underlying ht, MapKept.run_getObj_map hb, K.check W _ hl, h1, Result.andThen, hset], ⟨es.push { key := keyS a x, val := v, born := clk }, clk + 1, World.putObj_heap_same hlt, ?_⟩, putObj_only _ _ _⟩
    intro e he
    simp at he
    rcases he with he | he
    · exact hall e (by simpa using he)
    · subst he; exact ⟨a, x, rfl, hs, hG⟩
  · have hj : es[j]? = some e0 := by simpa using h2
    have hst := K.stays W hl
    refine ⟨W.putObj m (.map (es.modify j fun e => { e with key := keyS a x, val := v }) clk), by simp [Instr.mapUpdate, run_underlying ht, MapKept.run_getObj_map hb, K.check W _ hl, h1, Result.andThen, hset, hj, h3, hst], ⟨es.modify j fun e => { e with key := keyS a x, val := v }, clk, World.putObj_heap_same hlt, ?_⟩, putObj_only _ _ _⟩
    intro e he
    rw [List.mem_iff_getElem?] at he
    obtain ⟨i, hi⟩ := he
    rw [Array.toList_modify, List.getElem?_modify] at hi
    by_cases hji : j = i
    · simp [hji] at hi
      obtain ⟨x', _, rfl⟩ := hi
      exact ⟨a, x, rfl, hs, hG⟩
    · simp [hji] at hi
      exact hall e (List.mem_of_getElem? (by simpa using hi))
end
section
set_option linter.unusedVariables false
open Go.RowKit
namespace X
variable {P : Program} {W W' : World} {o : Oper} {ρ : Operand → Value}
theorem lk {t : TypeId} {x y : Operand} {b : Bool} {p q v : Value} (ho : o.op = .lookup t x y b) (hx : ρ x = p) (hy : ρ y = q) (hr : (Instr.lookup t p q b).run P W = .ok v W) : (execOp ρ o).run P W = .ok (.value v) W := by
  unfold execOp; rw [ho]; simp only [hx, hy]; exact run_v hr
theorem mu {t : TypeId} {x y z : Operand} {p q v : Value} (ho : o.op = .mapUpdate t x y z) (hx : ρ x = p) (hy : ρ y = q) (hz : ρ z = v) (hr : (Instr.mapUpdate t p q v).run P W = .ok () W') : (execOp ρ o).run P W = .ok .skip W' := by
  unfold execOp; rw [ho]; simp only [hx, hy, hz]; exact run_u hr
theorem ins {t : TypeId} {x y z : Operand} {p q v : Value} (ho : o.op = .insert t x y z) (hx : ρ x = p) (hy : ρ y = q) (hz : ρ z = v) (hr : (Instr.mapUpdate t p q v).run P W = .ok () W') : (execOp ρ o).run P W = .ok .skip W' := by
  unfold execOp; rw [ho]; simp only [hx, hy, hz]; exact run_u hr
theorem mm {t : TypeId} (ho : o.op = .makeMap t none) : (execOp ρ o).run P W = .ok (.value (.map (some W.heap.size))) (W.alloc (.map #[] 0)) := by
  unfold execOp; rw [ho]; exact run_v (run_makeMap t W)
end X
/-- a lookup in some worlds that hold the same map -/
theorem memo_look {W : World} {m t e : Nat} {gf : Int → Int → Value} {z : Value} {a x : Int} (ht : Try.prog.underlying t = some (.map 72 e)) (hz : ∀ W, (zeroValue e).run Try.prog W = .ok z W) (h : Memo W m (fun t x v => v = gf t x)) (hs : SmallS a x) :
    ∃ b : Bool, ∀ W', W'.heap[m]? = W.heap[m]? → (Instr.lookup t (.map (some m)) (keyS a x) true).run Try.prog W' = .ok (.tuple #[if b then gf a x else z, .bool b]) W' := by
  obtain ⟨es, clk, hb, hall⟩ := h
  obtain ⟨l, hl⟩ := keyOf_keyS hs
  have K := Try.klaw72
  have hk : ∀ e ∈ es.toList, ∃ l, keyOf Try.prog 72 e.key = some l := fun e he => by
    obtain ⟨t', x', h1, h2, _⟩ := hall e he
    rw [h1]; exact keyOf_keyS h2
  have hv : ∀ e ∈ es.toList, e.key = keyS a x → e.val = gf a x := fun e he hek => by
    obtain ⟨t', x', k1, k2, k3⟩ := hall e he
    obtain ⟨rfl, rfl⟩ := keyS_inj (k1.symm.trans hek)
    exact k3
  rcases K.find W hl es.toList hk with ⟨h1, h2⟩ | ⟨j, e0, h1, h2, h3⟩
  · refine ⟨false, fun W' hW => ?_⟩
    have hb' := hW.trans hb
    rcases K.find W' hl es.toList hk with ⟨g1, g2⟩ | ⟨j, e0, g1, g2, g3⟩
    · simp [Instr.lookup, run_underlying ht, MapKept.run_getObj_map hb', K.check W' _ hl, g1, hz, Result.andThen]
    · exact absurd g3 (h2 e0 (List.mem_of_getElem? g2))
  · have hm0 : e0 ∈ es.toList := List.mem_of_getElem? h2
    refine ⟨true, fun W' hW => ?_⟩
    have hb' := hW.trans hb
    rcases K.find W' hl es.toList hk with ⟨g1, g2⟩ | ⟨j', e1, g1, g2, g3⟩
    · exact absurd h3 (g2 e0 hm0)
    · have := hv e1 (List.mem_of_getElem? g2) g3
      simp [Instr.lookup, run_underlying ht, MapKept.run_getObj_map hb', K.check W' _ hl, g1, this, Result.andThen]
theorem Try.zero69 (W : World) : (zeroValue 69).run Try.prog W = .ok (.agg #[.int .i64 0, .int .i64 0]) W := by kernel_rfl
theorem Try.bd72 (a b : Int) (W : World) : (Instr.build 72 #[(0, .int .i64 a), (1, .int .i64 b)]).run Try.prog W = .ok (.agg #[.int .i64 a, .int .i64 b]) W := by kernel_rfl
theorem Try.bd69 (a b : Int) (W : World) : (Instr.build 69 #[(0, .int .i64 a), (1, .int .i64 b)]).run Try.prog W = .ok (.agg #[.int .i64 a, .int .i64 b]) W := by kernel_rfl
theorem Try.bd69a (a : Int) (W : World) : (Instr.build 69 #[(0, .int .i64 a)]).run Try.prog W = .ok (.agg #[.int .i64 a, .int .i64 0]) W := by kernel_rfl
theorem Try.bd69b (W : World) : (Instr.build 69 #[]).run Try.prog W = .ok (.agg #[.int .i64 0, .int .i64 0]) W := by kernel_rfl
theorem Try.bd110 (a b c d e f g : Int) (m : Nat) (W : World) : (Instr.build 110 #[(0, .agg #[.int .i64 a, .int .i64 b, .int .i64 c, .int .i64 d, .int .i64 e]), (1, .int .i64 f), (2, .int .i64 g), (3, .map (some m))]).run Try.prog W = .ok (.agg #[.int .i64 a, .int .i64 b, .int .i64 c, .int .i64 d, .int .i64 e, .int .i64 f, .int .i64 g, .map (some m)]) W := by kernel_rfl
theorem Y.bd0 {ρ : Operand → Value} : ([] : List (Nat × Operand)).map (fun p : Nat × Operand => (p.1, ρ p.2)) = [] := rfl
theorem Y.bd1 {ρ : Operand → Value} {x : Operand} {v : Value} (h : ρ x = v) : [(0, x)].map (fun p : Nat × Operand => (p.1, ρ p.2)) = [(0, v)] := by simp [h]
theorem Y.bd2 {ρ : Operand → Value} {x y : Operand} {v z : Value} (h : ρ x = v) (k : ρ y = z) : [(0, x), (1, y)].map (fun p : Nat × Operand => (p.1, ρ p.2)) = [(0, v), (1, z)] := by simp [h, k]
theorem Y.bd4 {ρ : Operand → Value} {x y a b : Operand} {v z c d : Value} (h : ρ x = v) (k : ρ y = z) (ha : ρ a = c) (hb : ρ b = d) : [(0, x), (1, y), (2, a), (3, b)].map (fun p : Nat × Operand => (p.1, ρ p.2)) = [(0, v), (1, z), (2, c), (3, d)] := by simp [h, k, ha, hb]
/-- a new slice of two numbers -/
def Y.MP.two (x y : Int) : Y.MP := ⟨fun v W => ∃ b, v = .slice (some ⟨b, 0, none⟩) 2 2 ∧ W.cell? ⟨b, 0, none⟩ = some (.int .i64 x) ∧ W.cell? ⟨b, 1, none⟩ = some (.int .i64 y),
  fun _ _ _ ⟨b, h1, h2, h3⟩ g => ⟨b, h1, (g.cell (lt_cell h2)).trans h2, (g.cell (lt_cell h3)).trans h3⟩⟩
/-- a variable's cells -/
def VL (l : List Value) : Nat → Value := fun k => l.getD k undef
theorem VL_set0 (x y z : Value) : ∀ k, k < 2 → (fun j => if j = 0 then z else VL [x, y] j) k = VL [z, y] k := by
  intro k hk
  match k, hk with
  | 0, _ | 1, _ => rfl
theorem ownP_box {W : World} {b : Nat} {vs : List Value} {t : TypeId} (h : W.heap[b]? = some (.cells vs.toArray t)) : OwnP W b vs.length (VL vs) :=
  ⟨_, _, h, by simp, fun k hk => by simp [VL, hk]⟩
theorem ownP_2 {W : World} {b : Nat} {x y : Value} {t : TypeId} (h : W.heap[b]? = some (.cells #[x, y] t)) : OwnP W b 2 (VL [x, y]) := ownP_box (vs := [x, y]) h
/-- a struct of two that is written -/
theorem OwnP.st2 {P : Program} {W : World} {b : Nat} {val : Nat → Value} {t : TypeId} {x y : Value} (h : OwnP W b 2 val) (hS : ∀ W, (sizeOf t).run P W = .ok 2 W) (h1 : x.oneCell' = true) (h2 : y.oneCell' = true) :
    ∃ W', (Instr.storeAt t (.pointer (some ⟨b, 0, none⟩)) (.agg #[x, y])).run P W = .ok () W' ∧ OwnP W' b 2 (VL [x, y]) ∧ Only (fun z => z = b) W W' := by
  have hs1 := run_store P W ⟨b, 0, none⟩ x .plain h1
  rw [h.cell (k := 0) (by decide), h.fz] at hs1
  simp only [Bool.false_eq_true, if_false] at hs1
  have hA := h.set (k := 0) x
  have hs2 := run_store P (W.setCell ⟨b, 0, none⟩ x) ⟨b, 1, none⟩ y .plain h2
  rw [hA.cell (k := 1) (by decide), hA.fz] at hs2
  simp only [Bool.false_eq_true, if_false] at hs2
  have hB := hA.set (k := 1) y
  refine ⟨(W.setCell ⟨b, 0, none⟩ x).setCell ⟨b, 1, none⟩ y, ?_, hB.congr (fun k hk => ?_), (Y.set_only _ _ _ _).trans (Y.set_only _ _ _ _)⟩
  · have e0 : (⟨b, 0, none⟩ : Addr).add 0 = ⟨b, 0, none⟩ := rfl
    have e1 : (⟨b, 0, none⟩ : Addr).add 1 = ⟨b, 1, none⟩ := rfl
    simp [Instr.storeAt, storeVar, Instr.sureAddr, hS, Value.cells, storeCells, e0, e1, hs1, hs2, go_sem]
  · match k, hk with
    | 0, _ | 1, _ => rfl
/-- two variables of two cells that a region writes -/
structure RT2 (w : World) (b1 s1 b2 s2 : Nat) (o1 n1 o2 n2 : Nat → Value) (done : Nat → Bool) (u : Nat → Value) (W : World) : Prop where
  o : Only (fun b => b = b1 ∨ b = b2) w W
  p1 : done s1 = false → OwnP W b1 2 o1
  q1 : done s1 = true → OwnP W b1 2 n1
  p2 : done s2 = false → OwnP W b2 2 o2
  q2 : done s2 = true → OwnP W b2 2 n2
section
variable {w W W' : World} {b1 s1 b2 s2 i : Nat} {o1 n1 o2 n2 : Nat → Value} {done : Nat → Bool} {u : Nat → Value} {v : Value}
theorem RT2.start {u : Nat → Value} (g : Gr w W) (h1 : OwnP w b1 2 o1) (h2 : OwnP w b2 2 o2) : RT2 w b1 s1 b2 s2 o1 n1 o2 n2 (fun _ => false) u W :=
  ⟨g.only _, fun _ => h1.gr g, fun h => by simp at h, fun _ => h2.gr g, fun h => by simp at h⟩
theorem RT2.grow (h : RT2 w b1 s1 b2 s2 o1 n1 o2 n2 done u W) (hi : (i == s1 || i == s2) = false) (g : Gr W W') : RT2 w b1 s1 b2 s2 o1 n1 o2 n2 (upd done i) (fun j => if j = i then v else u j) W' := by
  simp only [Bool.or_eq_false_iff, beq_eq_false_iff_ne] at hi
  have e1 := upd_ne (done := done) (Ne.symm hi.1)
  have e2 := upd_ne (done := done) (Ne.symm hi.2)
  exact ⟨h.o.thenGr g, fun k => (h.p1 (e1 ▸ k)).gr g, fun k => (h.q1 (e1 ▸ k)).gr g, fun k => (h.p2 (e2 ▸ k)).gr g, fun k => (h.q2 (e2 ▸ k)).gr g⟩
theorem RT2.quiet (h : RT2 w b1 s1 b2 s2 o1 n1 o2 n2 done u W) (hi : (i == s1 || i == s2) = false) : RT2 w b1 s1 b2 s2 o1 n1 o2 n2 (upd done i) (fun j => if j = i then v else u j) W := h.grow hi (Gr.refl _)
theorem RT2.st1 (h : RT2 w b1 s1 b2 s2 o1 n1 o2 n2 done u W) (hs : (s1 == s2) = false) (hb : ¬ b2 = b1) (hn : OwnP W' b1 2 n1) (g : Only (fun b => b = b1) W W') : RT2 w b1 s1 b2 s2 o1 n1 o2 n2 (upd done s1) (fun j => if j = s1 then v else u j) W' := by
  have e2 := upd_ne (done := done) (i := s1) (j := s2) (by intro e; simp [e] at hs)
  exact ⟨h.o.trans (g.mono' (fun i e => .inl e)), fun k => (by rw [upd_self] at k; cases k), fun _ => hn, fun k => (h.p2 (e2 ▸ k)).only g hb, fun k => (h.q2 (e2 ▸ k)).only g hb⟩
theorem RT2.st2 (h : RT2 w b1 s1 b2 s2 o1 n1 o2 n2 done u W) (hs : (s1 == s2) = false) (hb : ¬ b1 = b2) (hn : OwnP W' b2 2 n2) (g : Only (fun b => b = b2) W W') : RT2 w b1 s1 b2 s2 o1 n1 o2 n2 (upd done s2) (fun j => if j = s2 then v else u j) W' := by
  have e2 := upd_ne (done := done) (i := s2) (j := s1) (by intro e; simp [e] at hs)
  exact ⟨h.o.trans (g.mono' (fun i e => .inr e)), fun k => (h.p1 (e2 ▸ k)).only g hb, fun k => (h.q1 (e2 ▸ k)).only g hb, fun k => (by rw [upd_self] at k; cases k), fun _ => hn⟩
end
/-- a variable of two cells that a region makes (a) and writes (s), while blocks S turn and M is kept -/
structure RTk (w : World) (S : Nat → Prop) (M : World → Prop) (a s : Nat) (old new : Nat → Value) (done : Nat → Bool) (u : Nat → Value) (W : World) : Prop where
  o : Only S w W
  m : M W
  q : done a = true → ∃ b, u a = .pointer (some ⟨b, 0, none⟩) ∧ w.heap.size ≤ b ∧ (done s = false → OwnP W b 2 old) ∧ (done s = true → OwnP W b 2 new)
section
variable {w W W' : World} {S : Nat → Prop} {M : World → Prop} {a s i : Nat} {old new : Nat → Value} {done : Nat → Bool} {u : Nat → Value} {v : Value}
theorem RTk.start {u : Nat → Value} (g : Gr w W) (h : M W) : RTk w S M a s old new (fun _ => false) u W := ⟨g.only _, h, fun h => by simp at h⟩
theorem RTk.call (h : RTk w S M a s old new done u W) (hi : (i == a || i == s) = false) (hS : ∀ b, S b → b < w.heap.size) (g : Only S W W') (hm : M W') : RTk w S M a s old new (upd done i) (fun j => if j = i then v else u j) W' := by
  simp only [Bool.or_eq_false_iff, beq_eq_false_iff_ne] at hi
  have e1 := upd_ne (done := done) (Ne.symm hi.1)
  have e2 := upd_ne (done := done) (Ne.symm hi.2)
  refine ⟨h.o.trans g, hm, fun k => ?_⟩
  obtain ⟨b, h1, h2, h3, h4⟩ := h.q (e1 ▸ k)
  have hb : ¬ S b := fun e => by have := hS b e; omega
  exact ⟨b, by simpa [Ne.symm hi.1] using h1, h2, fun k => (h3 (e2 ▸ k)).only g hb, fun k => (h4 (e2 ▸ k)).only g hb⟩
theorem RTk.quiet (h : RTk w S M a s old new done u W) (hi : (i == a || i == s) = false) : RTk w S M a s old new (upd done i) (fun j => if j = i then v else u j) W := by
  simp only [Bool.or_eq_false_iff, beq_eq_false_iff_ne] at hi
  have e1 := upd_ne (done := done) (Ne.symm hi.1)
  have e2 := upd_ne (done := done) (Ne.symm hi.2)
  refine ⟨h.o, h.m, fun k => ?_⟩
  obtain ⟨b, h1, h2, h3, h4⟩ := h.q (e1 ▸ k)
  exact ⟨b, by simpa [Ne.symm hi.1] using h1, h2, fun k => h3 (e2 ▸ k), fun k => h4 (e2 ▸ k)⟩
theorem RTk.alloc (h : RTk w S M a s old new done u W) (has : (a == s) = false) (hs : done s = false) {b : Nat} (hb : w.heap.size ≤ b) (g : Gr W W') (hm : M W') (hn : OwnP W' b 2 old) : RTk w S M a s old new (upd done a) (fun j => if j = a then .pointer (some ⟨b, 0, none⟩) else u j) W' := by
  have e2 := upd_ne (done := done) (i := a) (j := s) (by intro e; simp [e] at has)
  exact ⟨h.o.thenGr g, hm, fun _ => ⟨b, by simp, hb, fun _ => hn, fun k => (by rw [e2, hs] at k; cases k)⟩⟩
theorem RTk.st (h : RTk w S M a s old new done u W) (has : (a == s) = false) {b : Nat} (hu : u a = .pointer (some ⟨b, 0, none⟩)) (hb : w.heap.size ≤ b) (hm : M W') (g : Only (fun x => x = b) W W') (hn : OwnP W' b 2 new) : RTk w S M a s old new (upd done s) (fun j => if j = s then v else u j) W' := by
  have hne : ¬ a = s := by intro e; simp [e] at has
  exact ⟨h.o.step g (.inr hb), hm, fun _ => ⟨b, by simpa [hne] using hu, hb, fun k => (by rw [upd_self] at k; cases k), fun _ => hn⟩⟩
end
/-- the cells of a node that is parked -/
def PqC (bq : Nat) (gq aw za bu re hold T : Int) (bm : Nat) : List (Addr × Value) :=
  [(⟨bq, 0, none⟩, .int .i64 gq), (⟨bq, 1, none⟩, .int .i64 aw), (⟨bq, 2, none⟩, .int .i64 za), (⟨bq, 3, none⟩, .int .i64 bu), (⟨bq, 4, none⟩, .int .i64 re), (⟨bq, 5, none⟩, .int .i64 hold), (⟨bq, 6, none⟩, .int .i64 T), (⟨bq, 7, none⟩, .map (some bm))]
def Pq (W : World) (bq : Nat) (gq aw za bu re hold T : Int) (bm : Nat) : Prop := RCells W (PqC bq gq aw za bu re hold T bm)
section
variable {W W' : World} {bq : Nat} {gq aw za bu re hold T : Int} {bm : Nat}
theorem Pq.lt (h : Pq W bq gq aw za bu re hold T bm) : bq < W.heap.size := lt_cell (RCells.at h 0 rfl)
theorem Pq.gr (h : Pq W bq gq aw za bu re hold T bm) (g : Gr W W') : Pq W' bq gq aw za bu re hold T bm := RCells.gr h g
theorem Pq.only {S : Nat → Prop} (h : Pq W bq gq aw za bu re hold T bm) (g : Only S W W') (hn : ¬ S bq) : Pq W' bq gq aw za bu re hold T bm := RCells.only h g (fun p hp e => hn (by
  have : p.1.block = bq := by simp only [PqC, List.mem_cons, List.not_mem_nil, or_false] at hp; rcases hp with rfl | rfl | rfl | rfl | rfl | rfl | rfl | rfl <;> rfl
  rw [← this]; exact e))
end
/-- result variables -/
theorem OwnP.lc2 {P : Program} {W : World} {b : Nat} {x y : Value} (h : OwnP W b 2 (VL [x, y])) : (loadCellsFrom ⟨b, 0, none⟩ 0 2 #[]).run P W = .ok #[x, y] W := by
  have := X.loadCells_run (P := P) (W := W) (p := ⟨b, 0, none⟩) 2 0 #[] [x, y] rfl (fun j v hj => by
    rw [Nat.zero_add, addr_add0]
    match j with
    | 0 => simp at hj; subst hj; exact h.cell (k := 0) (by decide)
    | 1 => simp at hj; subst hj; exact h.cell (k := 1) (by decide)
    | j + 2 => simp at hj)
  simpa using this
section
variable {P : Program} {A : Act} {W : World} {n : Nat} {L : List (Nat × Value)} {D : List Deferred} {fn : Func} {s s2 s3 b b2 : Nat} {t t2 : TypeId} {x y x2 y2 v3 : Value}
theorem Y.rc1 (F : Fr A n L D) (hr : fn.results = #[.cell s t]) (hA : (isAgg t).run P W = .ok true W) (hS : (sizeOf t).run P W = .ok 2 W) (hp : lookS L s = some (.pointer (some ⟨b, 0, none⟩))) (h : OwnP W b 2 (VL [x, y])) : (results fn A.tmps).run P W = .ok (.agg #[x, y]) W := by
  have e := F.look hp
  have hl : W.cell? ⟨b, 0, none⟩ = some x := h.cell (k := 0) (by decide)
  have hl' : W.cell? ⟨b, 1, none⟩ = some y := h.cell (k := 1) (by decide)
  simp [results, hr, e, asAddr, hl, hl', hA, hS, go_sem]
theorem Y.rcc2 (F : Fr A n L D) (hr : fn.results = #[.cell s t, .cell s2 t2]) (hA : (isAgg t).run P W = .ok true W) (hS : (sizeOf t).run P W = .ok 2 W) (hA2 : (isAgg t2).run P W = .ok true W) (hS2 : (sizeOf t2).run P W = .ok 2 W) (hp : lookS L s = some (.pointer (some ⟨b, 0, none⟩))) (hp2 : lookS L s2 = some (.pointer (some ⟨b2, 0, none⟩))) (h : OwnP W b 2 (VL [x, y])) (h2 : OwnP W b2 2 (VL [x2, y2])) :
    (results fn A.tmps).run P W = .ok (.tuple #[.agg #[x, y], .agg #[x2, y2]]) W := by
  have e := F.look hp
  have e2 := F.look hp2
  have hl : W.cell? ⟨b, 0, none⟩ = some x := h.cell (k := 0) (by decide)
  have hl' : W.cell? ⟨b, 1, none⟩ = some y := h.cell (k := 1) (by decide)
  have hl2 : W.cell? ⟨b2, 0, none⟩ = some x2 := h2.cell (k := 0) (by decide)
  have hl2' : W.cell? ⟨b2, 1, none⟩ = some y2 := h2.cell (k := 1) (by decide)
  simp [results, hr, e, e2, asAddr, hl, hl', hl2, hl2', hA, hS, hA2, hS2, go_sem]
theorem Y.rcc3 (F : Fr A n L D) (hr : fn.results = #[.cell s t, .cell s2 t2, .tmp s3]) (hA : (isAgg t).run P W = .ok true W) (hS : (sizeOf t).run P W = .ok 2 W) (hA2 : (isAgg t2).run P W = .ok true W) (hS2 : (sizeOf t2).run P W = .ok 2 W) (hp : lookS L s = some (.pointer (some ⟨b, 0, none⟩))) (hp2 : lookS L s2 = some (.pointer (some ⟨b2, 0, none⟩))) (h3 : lookS L s3 = some v3) (h : OwnP W b 2 (VL [x, y])) (h2 : OwnP W b2 2 (VL [x2, y2])) :
    (results fn A.tmps).run P W = .ok (.tuple #[.agg #[x, y], .agg #[x2, y2], v3]) W := by
  have e := F.look hp
  have e2 := F.look hp2
  have e3 := F.look h3
  have hl : W.cell? ⟨b, 0, none⟩ = some x := h.cell (k := 0) (by decide)
  have hl' : W.cell? ⟨b, 1, none⟩ = some y := h.cell (k := 1) (by decide)
  have hl2 : W.cell? ⟨b2, 0, none⟩ = some x2 := h2.cell (k := 0) (by decide)
  have hl2' : W.cell? ⟨b2, 1, none⟩ = some y2 := h2.cell (k := 1) (by decide)
  simp [results, hr, e, e2, e3, asAddr, hl, hl', hl2, hl2', hA, hS, hA2, hS2, go_sem]
end
end
section
set_option linter.unusedVariables false
open Go.RowKit
/-- -1, 0, 1 -/
def cmpI (x y : Int) : Int := if x < y then -1 else if y < x then 1 else 0
/-- the first of two that is not 0 -/
def orI (x y : Int) : Int := if x = 0 then y else x
/-- the numbers of a node: awake, asleep, budget, refill, hold, ticks -/
structure Nd where
  aw : Int
  za : Int
  bu : Int
  re : Int
  hold : Int
  T : Int
structure NdOk (p : Nd) : Prop where
  a0 : 0 ≤ p.za
  a1 : p.za ≤ p.aw
  a2 : p.aw ≤ 10000
  b0 : 0 ≤ p.bu
  b1 : p.bu ≤ 20
  r0 : 1 ≤ p.re
  r1 : p.re ≤ 1000
  h0 : 1 ≤ p.hold
  h1 : p.hold ≤ 103
  t0 : 0 ≤ p.T
  t1 : p.T ≤ 1001
def refV (p : Nd) (t x : Int) : Int := if 0 < t ∧ t % p.re = 0 then min (x + 1) p.bu else x
/-- tokens and energy, k ticks behind the tick in which noise wakes it -/
def wkV (p : Nd) (t a : Int) : Nat → Int × Int
  | 0 => (a - 1, p.aw)
  | k + 1 => (refV p (t + 1 + k) (wkV p t a k).1, (wkV p t a k).2 + (if t + 1 + k < t + p.hold then p.aw else p.za))
def wkN (p : Nd) (t : Int) : Nat := (min p.hold (p.T - 1 - t)).toNat
def add2 (a b : Int × Int) : Int × Int := (a.1 + b.1, a.2 + b.2)
def betB (x y : Int × Int) : Bool := decide (0 < orI (cmpI x.1 y.1) (cmpI y.2 x.2))
def pick2 (x y : Int × Int) : Int × Int := if betB x y then x else y
def bestF (p : Nd) : Nat → Int → Int → Int × Int
  | 0, _, _ => (0, 0)
  | f + 1, t, x =>
    if p.T ≤ t then (0, 0)
    else if refV p t x = 0 then add2 (bestF p f (t + 1) (refV p t x)) (p.za, 0)
    else pick2 (add2 (bestF p f (t + 1 + wkN p t) (wkV p t (refV p t x) (wkN p t)).1) ((wkV p t (refV p t x) (wkN p t)).2, 1)) (add2 (bestF p f (t + 1) (refV p t x)) (p.za, 0))
def bestV (p : Nd) (t x : Int) : Int × Int := bestF p (p.T - t).toNat t x
theorem bestF_eq (p : Nd) : ∀ (f f' : Nat) (t x : Int), (p.T - t).toNat ≤ f → (p.T - t).toNat ≤ f' → bestF p f t x = bestF p f' t x := by
  intro f
  induction f with
  | zero =>
    intro f' t x h h'
    cases f' with
    | zero => rfl
    | succ f' =>
      unfold bestF
      rw [if_pos (by omega)]
  | succ f ih =>
    intro f' t x h h'
    cases f' with
    | zero =>
      unfold bestF
      rw [if_pos (by omega)]
    | succ f' =>
      unfold bestF
      by_cases ht : p.T ≤ t
      · rw [if_pos ht, if_pos ht]
      · rw [if_neg ht, if_neg ht, ih f' (t + 1) _ (by omega) (by omega), ih f' (t + 1 + wkN p t) _ (by omega) (by omega)]
theorem bestV_done {p : Nd} {t : Int} (x : Int) (h : p.T ≤ t) : bestV p t x = (0, 0) := by
  unfold bestV
  rw [show (p.T - t).toNat = 0 by omega]
  rfl
theorem bestV_stay {p : Nd} {t x : Int} (h : t < p.T) (ha : refV p t x = 0) : bestV p t x = add2 (bestV p (t + 1) (refV p t x)) (p.za, 0) := by
  obtain ⟨f, hf⟩ : ∃ f, (p.T - t).toNat = f + 1 := ⟨(p.T - t).toNat - 1, by omega⟩
  unfold bestV
  rw [hf]
  conv => lhs; unfold bestF
  rw [if_neg (by omega), if_pos ha, bestF_eq p f (p.T - (t + 1)).toNat (t + 1) _ (by omega) (by omega)]
theorem bestV_wake {p : Nd} {t x : Int} (h : t < p.T) (ha : ¬ refV p t x = 0) : bestV p t x = pick2 (add2 (bestV p (t + 1 + wkN p t) (wkV p t (refV p t x) (wkN p t)).1) ((wkV p t (refV p t x) (wkN p t)).2, 1)) (add2 (bestV p (t + 1) (refV p t x)) (p.za, 0)) := by
  obtain ⟨f, hf⟩ : ∃ f, (p.T - t).toNat = f + 1 := ⟨(p.T - t).toNat - 1, by omega⟩
  unfold bestV
  rw [hf]
  conv => lhs; unfold bestF
  rw [if_neg (by omega), if_neg ha, bestF_eq p f (p.T - (t + 1)).toNat (t + 1) _ (by omega) (by omega), bestF_eq p f (p.T - (t + 1 + wkN p t)).toNat (t + 1 + wkN p t) _ (by omega) (by omega)]
theorem refV_bd {p : Nd} (h : NdOk p) {t x : Int} (h0 : 0 ≤ x) (h1 : x ≤ p.bu) : 0 ≤ refV p t x ∧ refV p t x ≤ p.bu := by
  have := h.b0
  unfold refV
  split
  · simp only [Int.min_def]; split <;> omega
  · omega
theorem wkV_bd {p : Nd} (h : NdOk p) {t a : Int} (h0 : 1 ≤ a) (h1 : a ≤ p.bu) : ∀ k, (0 ≤ (wkV p t a k).1 ∧ (wkV p t a k).1 ≤ p.bu) ∧ 0 ≤ (wkV p t a k).2 ∧ (wkV p t a k).2 ≤ (k + 1) * 10000 := by
  have := h.a0
  have := h.a1
  have := h.a2
  intro k
  induction k with
  | zero => simp only [wkV]; omega
  | succ k ih =>
    simp only [wkV]
    have hr := refV_bd h (t := t + 1 + k) ih.1.1 ih.1.2
    refine ⟨hr, ?_⟩
    split <;> omega
theorem refV_nn {p : Nd} (h : NdOk p) {t x : Int} (h0 : 0 ≤ x) (h1 : x ≤ 100000) : 0 ≤ refV p t x ∧ refV p t x ≤ 100000 := by
  have := h.b0
  have := h.b1
  unfold refV
  split
  · simp only [Int.min_def]; split <;> omega
  · omega
theorem wkV_bd2 {p : Nd} (h : NdOk p) {t a : Int} (h0 : 1 ≤ a) (h1 : a ≤ 100000) : ∀ k, (0 ≤ (wkV p t a k).1 ∧ (wkV p t a k).1 ≤ 100000) ∧ 0 ≤ (wkV p t a k).2 ∧ (wkV p t a k).2 ≤ (k + 1) * 10000 := by
  have := h.a0
  have := h.a1
  have := h.a2
  intro k
  induction k with
  | zero => simp only [wkV]; omega
  | succ k ih =>
    simp only [wkV]
    have hr := refV_nn h (t := t + 1 + k) ih.1.1 ih.1.2
    refine ⟨hr, ?_⟩
    split <;> omega
theorem wkN_eq {p : Nd} {t : Int} {q : Nat} (h0 : 1 ≤ p.hold) (h : (q : Int) ≤ wkN p t) (k : ¬ (t + 1 + q ≤ t + p.hold) ∨ ¬ (t + 1 + q < p.T)) : wkN p t = q := by
  unfold wkN at *
  simp only [Int.min_def] at *
  split at h <;> split <;> omega
theorem wkN_lt {p : Nd} {t : Int} {q : Nat} (h : t + 1 + q ≤ t + p.hold) (k : t + 1 + q < p.T) : ((q + 1 : Nat) : Int) ≤ wkN p t := by
  unfold wkN
  simp only [Int.min_def]
  split <;> omega
theorem wkN_hold {p : Nd} (h0 : 1 ≤ p.hold) (t : Int) : (wkN p t : Int) ≤ p.hold := by
  unfold wkN
  simp only [Int.min_def]
  split <;> omega
theorem wkN_bd {p : Nd} (h : NdOk p) {t : Int} (h0 : 0 ≤ t) (h1 : t < p.T) : t + 1 + wkN p t ≤ p.T ∧ (wkN p t : Int) ≤ p.hold := by
  have := h.h0
  unfold wkN
  simp only [Int.min_def]
  split <;> omega
theorem bestF_bd {p : Nd} (h : NdOk p) : ∀ (f : Nat) (t x : Int), 0 ≤ t → t ≤ p.T → 0 ≤ x → x ≤ p.bu → (0 ≤ (bestF p f t x).1 ∧ (bestF p f t x).1 ≤ (p.T - t) * 10000) ∧ 0 ≤ (bestF p f t x).2 ∧ (bestF p f t x).2 ≤ p.T - t := by
  have := h.a0
  have := h.a1
  have := h.a2
  intro f
  induction f with
  | zero => intro t x h0 h1 _ _; simp only [bestF]; omega
  | succ f ih =>
    intro t x h0 h1 hx0 hx1
    simp only [bestF]
    by_cases ht : p.T ≤ t
    · rw [if_pos ht]; simp only; omega
    · rw [if_neg ht]
      have hr := refV_bd h (t := t) hx0 hx1
      have hs := ih (t + 1) (refV p t x) (by omega) (by omega) hr.1 hr.2
      by_cases ha : refV p t x = 0
      · rw [if_pos ha]; simp only [add2]; omega
      · rw [if_neg ha]
        have hw := wkV_bd h (t := t) (a := refV p t x) (by omega) hr.2 (wkN p t)
        have hn := wkN_bd h h0 (by omega)
        have hy := ih (t + 1 + wkN p t) _ (by omega) hn.1 hw.1.1 hw.1.2
        unfold pick2
        split <;> simp only [add2] <;> omega
theorem bestV_bd {p : Nd} (h : NdOk p) {t x : Int} (h0 : 0 ≤ t) (hx0 : 0 ≤ x) (hx1 : x ≤ p.bu) : (0 ≤ (bestV p t x).1 ∧ (bestV p t x).1 ≤ 11000000) ∧ 0 ≤ (bestV p t x).2 ∧ (bestV p t x).2 ≤ 1001 := by
  have := h.t1
  by_cases ht : p.T ≤ t
  · rw [bestV_done _ ht]; simp
  · have := bestF_bd h (p.T - t).toNat t x h0 (by omega) hx0 hx1
    unfold bestV
    omega
end
section
set_option linter.unusedVariables false
open Go.RowKit
theorem isNaN_any (x : Int) (w : World) : Calls Try.prog 98 #[.int .i64 x] w fun e w' => e = .returned (.bool false) ∧ w = w' := by
  go_enter Try.func98, Try.ntmps98
  go_wp2
  go_ret
  exact ⟨by simp, rfl⟩

theorem compare_any (x y : Int) (w : World) : Calls Try.prog 86 #[.int .i64 x, .int .i64 y] w fun e w' => e = .returned (.int .i64 (cmpI x y)) ∧ w = w' := by
  by_cases h1 : x < y
  · have hc := Lib.hid (show cmpI x y = -1 by simp [cmpI, h1])
    go_enter Try.func86, Try.ntmps86
    go_wp2_with (go_at_call 98; refine (isNaN_any _ _).mono ?_; rintro e w' ⟨rfl, rfl⟩)
    go_ret
    exact ⟨by rw [hc.out]; rfl, rfl⟩
  · by_cases h2 : y < x
    · have hc := Lib.hid (show cmpI x y = 1 by simp [cmpI, h1, h2])
      go_enter Try.func86, Try.ntmps86
      go_wp2_with (go_at_call 98; refine (isNaN_any _ _).mono ?_; rintro e w' ⟨rfl, rfl⟩)
      go_ret
      exact ⟨by rw [hc.out]; rfl, rfl⟩
    · have hc := Lib.hid (show cmpI x y = 0 by simp [cmpI, h1, h2])
      go_enter Try.func86, Try.ntmps86
      go_wp2_with (go_at_call 98; refine (isNaN_any _ _).mono ?_; rintro e w' ⟨rfl, rfl⟩)
      go_ret
      exact ⟨by rw [hc.out]; rfl, rfl⟩

theorem or_any (ad : Addr) (c : Nat) (x y : Int) (w : World) (h0 : w.cell? (ad.add 0) = some (.int .i64 x)) (h1 : w.cell? (ad.add 1) = some (.int .i64 y)) : Calls Try.prog 85 #[.slice (some ad) 2 c] w fun e w' => e = .returned (.int .i64 (orI x y)) ∧ w = w' := by
  have hc : ∀ k : Nat, k < 2 → w.cell? (ad.add k) = some (.int .i64 (if k = 0 then x else y)) := fun k hk => by
    have : k = 0 ∨ k = 1 := by omega
    rcases this with rfl | rfl
    · simpa using h0
    · simpa using h1
  have HC := Lib.hid hc
  clear hc h0 h1
  go_enter Try.func85, Try.ntmps85
  go_wp2
  go_loop [8] (fun i => ∃ k : Nat, k ≤ 2 ∧ i = .int .i64 k ∧ (1 ≤ k → Hid (x = 0)) ∧ (2 ≤ k → Hid (y = 0))) (fun i => 2 - (intOf i).toNat)
  case atStart => exact ⟨0, by omega, rfl, by omega, by omega⟩
  case round =>
    obtain ⟨k, hk, rfl, hx, hy⟩ := hrel
    by_cases hlt : k < 2
    · have hcell := HC.out k hlt
      generalize hz : (if k = 0 then x else y) = z at hcell
      have HZ := Lib.hid hz
      clear hz
      cases hb : (z != 0) with
      | true =>
        go_wp2
        go_ret
        refine ⟨ret_int ?_, rfl⟩
        have hz0 : z ≠ 0 := by simpa using hb
        have := HZ.out
        have hk01 : k = 0 ∨ k = 1 := by omega
        rcases hk01 with rfl | rfl
        · simp at this; subst this; unfold orI; rw [if_neg hz0]
        · simp at this; subst this; unfold orI; rw [if_pos (hx (by omega)).out]
      | false =>
        go_wp2
        go_round
        case rel =>
          have hz0 : z = 0 := by simpa using hb
          have := HZ.out
          refine ⟨k + 1, by omega, by go_num, fun _ => Lib.hid ?_, fun h2 => Lib.hid ?_⟩
          · by_cases e : k = 0
            · simp [e] at this; omega
            · exact (hx (by omega)).out
          · have e : k = 1 := by omega
            simp [e] at this; omega
        case measure => simp [intOf]; omega
    · obtain rfl : k = 2 := by omega
      go_wp2
      go_ret
      have hx0 := (hx (by omega)).out
      have hy0 := (hy (by omega)).out
      exact ⟨ret_int (by simp [orI, hx0, hy0]), rfl⟩
end
end Go.Proofs.Ytoalamakhjbedaa
