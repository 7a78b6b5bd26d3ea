/- Several texts of this claim in one file. (1) Contract: the reference's Choose. (2) Contract: sameInts. (3) Contract: the look at the examples. (4) Contract: SleepChooses returns true. -/
import Derived.Test.YtoalamakhjbedaaBd14
import Derived.Test.YtoalamakhjbedaaBd15
namespace Go.Proofs.Ytoalamakhjbedaa
section
open Go.RowKit

set_option maxRecDepth 100000 in
set_option maxHeartbeats 1000000 in
theorem choose2_any (na : Option Addr) (n nc : Nat) (gr hold need : Int) (nd : List (List Int)) (w : World) (hnd : StAt w 5 na n nd) :
  Calls Try.prog 38 #[.agg #[.int .i64 gr, .int .i64 hold, .slice na n nc], .int .i64 need] w fun e w' => e = .returned (.tuple #[.int .i64 (chG gr hold nd need), .int .i64 (chL gr hold nd need), .int .i64 (chE gr hold nd need)]) ∧ Gr w w' := by
 have G := Gr.refl w
 have hlen := hnd.len
 have hlt := hnd.lt
 refine Y.calls 91 Try.func38 rfl rfl ?_
 intro ac F0
 have F : Fr ac 91 [(0, .agg #[.int .i64 gr, .int .i64 hold, .slice na n nc]), (1, .int .i64 need)] := F0.sub _
 clear F0
 refine Y.seq ?_
 refine Y.lit (by kernel_rfl) ?_
 refine Y.pval F (X.w0 rfl) rfl (X.box rfl (F.ev 0 (.agg #[.int .i64 gr, .int .i64 hold, .slice na n nc])) X.bx) ?_
 clear F ac
 intro ac F
 have g := Gr.alloc w (.cells #[.int .i64 gr, .int .i64 hold, .slice na n nc] 24)
 have hb := heap_alloc_new w (.cells #[.int .i64 gr, .int .i64 hold, .slice na n nc] 24)
 have hbl : w.heap.size < (w.alloc (.cells #[.int .i64 gr, .int .i64 hold, .slice na n nc] 24)).heap.size := by simp
 have hC2 : RCells (w.alloc (.cells #[.int .i64 gr, .int .i64 hold, .slice na n nc] 24)) [(⟨w.heap.size, 0, none⟩, .int .i64 gr), (⟨w.heap.size, 1, none⟩, .int .i64 hold), (⟨w.heap.size, 2, none⟩, .slice na n nc)] := (RCells.nil w).box (b := w.heap.size) #[.int .i64 gr, .int .i64 hold, .slice na n nc] 24 rfl
 generalize w.alloc (.cells #[.int .i64 gr, .int .i64 hold, .slice na n nc] 24) = w3 at *
 replace G := G.trans g
 have hC := hC2
 clear hC2
 replace hnd := hnd.gr g
 clear g hb hbl
 refine Y.pval F (X.w0 rfl) rfl (X.assign rfl (X.kc (.int .i64 0) rfl)) ?_
 clear F ac
 intro ac F
 refine Y.pval F (X.w0 rfl) rfl (X.assign rfl (X.kc (.int .i64 0) rfl)) ?_
 clear F ac
 intro ac F
 refine Y.pval F (X.w0 rfl) rfl (X.assign rfl (X.kc (.int .i64 0) rfl)) ?_
 clear F ac
 intro ac F
 refine Y.nil ?_
 replace F : Fr ac 91 [(0, .agg #[.int .i64 gr, .int .i64 hold, .slice na n nc]), (1, .int .i64 need), (2, .pointer (some ⟨w.heap.size, 0, none⟩)), (4, .int .i64 0), (5, .int .i64 0), (6, .int .i64 0)] := F.sub _
 refine X.thenN ?_
 refine Y.seq ?_
 refine Y.seq ?_
 refine Y.lit (by kernel_rfl) ?_
 refine Y.pval F (X.w0 rfl) rfl (X.load rfl (F.ev 2 (.pointer (some ⟨w.heap.size, 0, none⟩))) (X.ldN (Try.agg24 _) (Try.siz24 _) (Y.atz (⟨w.heap.size, 0, none⟩) (Y.AtFrom.cons (hC.at 0 rfl) (Y.AtFrom.cons (hC.at 1 rfl) (Y.AtFrom.cons (hC.at 2 rfl) (Y.AtFrom.nil _ _ _))))))) ?_
 clear F ac
 intro ac F
 refine Y.pcall F (X.w0 rfl) rfl (X.enter (F := 15) rfl (X.kc (.func (.func 15) #[] #[]) rfl) (X.a1 (F.ev 14 (.agg #[.int .i64 gr, .int .i64 hold, .slice na n nc]))) (enters_of Try.func15 (by kernel_rfl) rfl _)) (check2_any na n nc gr hold nd w3 hnd) ?_
 clear F ac
 rintro e w4 ⟨rfl, g⟩
 refine ⟨_, rfl, ?_⟩
 intro ac F
 replace G := G.trans g
 replace hC := hC.gr g
 replace hnd := hnd.gr g
 clear g
 refine Y.pval F (X.w0 rfl) rfl (X.assign rfl (F.ev 15 (.int .i64 (cluE gr hold nd)))) ?_
 clear F ac
 intro ac F
 refine Y.nil ?_
 replace F : Fr ac 91 [(0, .agg #[.int .i64 gr, .int .i64 hold, .slice na n nc]), (1, .int .i64 need), (2, .pointer (some ⟨w.heap.size, 0, none⟩)), (4, .int .i64 0), (5, .int .i64 0), (6, .int .i64 0), (7, .int .i64 (cluE gr hold nd))] := F.sub _
 refine X.thenN ?_
 refine Y.seq ?_
 refine Y.lit (by kernel_rfl) ?_
 refine Y.pval F (X.w0 rfl) rfl (X.move rfl (F.ev 7 (.int .i64 (cluE gr hold nd)))) ?_
 clear F ac
 intro ac F
 refine Y.pval F (X.w0 rfl) rfl (X.binop rfl (F.ev 16 (.int .i64 (cluE gr hold nd))) (X.kc (.int .i64 0) rfl) (X.neqI Try.underlying26 rfl)) ?_
 clear F ac
 intro ac F
 refine Y.nil ?_
 replace F : Fr ac 91 [(0, .agg #[.int .i64 gr, .int .i64 hold, .slice na n nc]), (1, .int .i64 need), (2, .pointer (some ⟨w.heap.size, 0, none⟩)), (4, .int .i64 0), (5, .int .i64 0), (6, .int .i64 0), (7, .int .i64 (cluE gr hold nd)), (17, .bool ((cluE gr hold nd : Int) != 0))] := F.sub _
 refine X.thenN ?_
 cases h5 : ((cluE gr hold nd : Int) != 0) with
 | false =>
  try rw [h5] at F
  have h5p : (cluE gr hold nd : Int) = 0 := by simpa using h5
  have hE : cluE gr hold nd = 0 := by simpa using h5p
  have hc := cluE_ok hE
  have hg1 := hc.g1
  have hg8 := hc.g8
  have h16 : n ≤ 16 := by have := hc.n16; omega
  have hh1 := hc.h1
  have hh2 := hc.h100
  have hsh := shl_le8 (g := gr) (by omega) (by omega)
  have hshn := shl_le8 (g := (n : Int)) (by omega) (by omega)
  refine Y.condF (F.ev 17 (.bool false)) ?_
  refine Y.skip ?_
  refine X.thenN ?_
  refine Y.seq ?_
  refine Y.seq ?_
  refine Y.lit (by kernel_rfl) ?_
  refine Y.pval F (X.w0 rfl) rfl (X.move rfl (F.ev 1 (.int .i64 need))) ?_
  clear F ac
  intro ac F
  refine Y.pval F (X.w0 rfl) rfl (X.field rfl (F.ev 2 (.pointer (some ⟨w.heap.size, 0, none⟩))) (X.fld Try.underlying24 rfl (Try.siz22 _) rfl rfl)) ?_
  clear F ac
  intro ac F
  refine Y.pval F (X.w0 rfl) rfl (X.load rfl (F.ev 20 (.pointer (some ⟨w.heap.size, 2, none⟩))) (X.ld1 (Try.agg22 _) (hC.at 2 rfl))) ?_
  clear F ac
  intro ac F
  refine Y.pval F (X.w0 rfl) rfl (X.len1 Try.underlying22 rfl (F.ev 21 (.slice na n nc))) ?_
  clear F ac
  intro ac F
  refine Y.pval F (X.w0 rfl) rfl (X.conv rfl (F.ev 22 (.int .i64 n)) (X.cv54 Try.underlying3 Try.underlying54 (by omega))) ?_
  clear F ac
  intro ac F
  refine Y.pval F (X.w0 rfl) rfl (X.binop rfl (X.kc (.int .i64 1) rfl) (F.ev 23 (.int .u64 n)) (X.shlI Try.underlying3 rfl (by omega))) ?_
  clear F ac
  intro ac F
  refine Y.pval F (X.w0 rfl) rfl (X.binop rfl (F.ev 24 (.int .i64 (shlV 1 (n : Int)))) (X.kc (.int .i64 1) rfl) (X.subI Try.underlying3 rfl (by omega) (by omega))) ?_
  clear F ac
  intro ac F
  refine Y.pcall F (X.w0 rfl) rfl (X.enter (F := 42) rfl (X.kc (.func (.func 42) #[] #[]) rfl) (X.a3 (F.ev 19 (.int .i64 need)) (X.kc (.int .i64 0) rfl) (F.ev 25 (.int .i64 ((shlV 1 (n : Int) : Int) - 1)))) (enters_of Try.func42 (by kernel_rfl) rfl _)) (within2_any need 0 ((shlV 1 (n : Int) : Int) - 1) w4) ?_
  clear F ac
  rintro e w' ⟨rfl, hw_⟩
  obtain rfl : w4 = w' := hw_.symm
  clear hw_
  refine ⟨_, rfl, ?_⟩
  intro ac F
  refine Y.pval F (X.w0 rfl) rfl (X.notB rfl (F.ev 26 (.bool (withinB need 0 ((shlV 1 (n : Int) : Int) - 1)))) rfl) ?_
  clear F ac
  intro ac F
  refine Y.nil ?_
  replace F : Fr ac 91 [(0, .agg #[.int .i64 gr, .int .i64 hold, .slice na n nc]), (1, .int .i64 need), (2, .pointer (some ⟨w.heap.size, 0, none⟩)), (4, .int .i64 0), (5, .int .i64 0), (6, .int .i64 0), (7, .int .i64 (cluE gr hold nd)), (17, .bool false), (27, .bool (!(withinB need 0 ((shlV 1 (n : Int) : Int) - 1))))] := F.sub _
  refine X.thenN ?_
  cases h6 : withinB need 0 ((shlV 1 (n : Int) : Int) - 1) with
  | false =>
   try rw [h6] at F
   have hW := h6
   refine Y.condT (F.ev 27 (.bool true)) ?_
   refine Y.seq ?_
   refine Y.lit (by kernel_rfl) ?_
   refine Y.pval F (X.w0 rfl) rfl (X.assign rfl (X.kc (.int .i64 0) rfl)) ?_
   clear F ac
   intro ac F
   refine Y.pval F (X.w0 rfl) rfl (X.assign rfl (X.kc (.int .i64 0) rfl)) ?_
   clear F ac
   intro ac F
   refine Y.pval F (X.w0 rfl) rfl (X.assign rfl (X.kc (.int .i64 1) rfl)) ?_
   clear F ac
   intro ac F
   refine Y.nil ?_
   replace F : Fr ac 91 [(0, .agg #[.int .i64 gr, .int .i64 hold, .slice na n nc]), (1, .int .i64 need), (2, .pointer (some ⟨w.heap.size, 0, none⟩)), (4, .int .i64 0), (5, .int .i64 0), (6, .int .i64 1), (7, .int .i64 (cluE gr hold nd)), (17, .bool false), (27, .bool true)] := F.sub _
   refine X.thenN ?_
   refine Y.ret ?_
   refine X.thenR ?_
   have eE : chE gr hold nd need = 1 := by rw [chE, if_neg (fun h => h hE), hlen, hW]; rfl
   exact Y.ret0 (v := .tuple #[.int .i64 0, .int .i64 0, .int .i64 1]) F (Y.rs3 F rfl (by kernel_rfl) (by kernel_rfl) (by kernel_rfl)) ⟨by rw [chG, chL, eE]; rfl, G⟩
  | true =>
   try rw [h6] at F
   have hW := h6
   have hW2 := withinB_ok hW
   refine Y.condF (F.ev 27 (.bool false)) ?_
   refine Y.skip ?_
   refine X.thenN ?_
   refine Y.seq ?_
   refine Y.lit (by kernel_rfl) ?_
   refine Y.pval F (X.w0 rfl) rfl (X.assign rfl (X.kc (.int .i64 (-1)) rfl)) ?_
   clear F ac
   intro ac F
   refine Y.pval F (X.w0 rfl) rfl (X.assign rfl (X.kc (.int .i64 0) rfl)) ?_
   clear F ac
   intro ac F
   refine Y.nil ?_
   replace F : Fr ac 91 [(0, .agg #[.int .i64 gr, .int .i64 hold, .slice na n nc]), (1, .int .i64 need), (2, .pointer (some ⟨w.heap.size, 0, none⟩)), (4, .int .i64 0), (5, .int .i64 0), (6, .int .i64 0), (7, .int .i64 (cluE gr hold nd)), (8, .int .i64 (-1)), (9, .int .i64 0), (17, .bool false), (27, .bool false)] := F.sub _
   refine X.thenN ?_
   refine Y.seq ?_
   refine Y.seq ?_
   refine Y.lit (by kernel_rfl) ?_
   refine Y.pval F (X.w0 rfl) rfl (X.assign rfl (X.kc (.int .i64 0) rfl)) ?_
   clear F ac
   intro ac F
   refine Y.nil ?_
   replace F : Fr ac 91 [(0, .agg #[.int .i64 gr, .int .i64 hold, .slice na n nc]), (1, .int .i64 need), (2, .pointer (some ⟨w.heap.size, 0, none⟩)), (4, .int .i64 0), (5, .int .i64 0), (6, .int .i64 0), (7, .int .i64 (cluE gr hold nd)), (8, .int .i64 (-1)), (9, .int .i64 0), (10, .int .i64 0), (17, .bool false), (27, .bool false)] := F.sub _
   refine X.thenN ?_
   refine Y.block ?_
   have hndB := hnd
   have hCB := hC
   have GB := G
   refine Y.loop (fun me_ ac wr => ∃ (s : Nat), me_ = (shlV 1 gr).toNat - s ∧ Gr w4 wr ∧ (s : Int) ≤ shlV 1 gr ∧ Fr ac 91 [(0, .agg #[.int .i64 gr, .int .i64 hold, .slice na n nc]), (1, .int .i64 need), (2, .pointer (some ⟨w.heap.size, 0, none⟩)), (4, .int .i64 0), (5, .int .i64 0), (6, .int .i64 0), (7, .int .i64 (cluE gr hold nd)), (8, .int .i64 (bestI (chS nd need s))), (9, .int .i64 ((chS nd need s).l)), (10, .int .i64 s), (17, .bool false), (27, .bool false)]) _ ⟨0, rfl, Gr.refl _, by omega, F.sub _⟩ ?_
   clear F
   intro me_ ac w7 hI
   obtain ⟨s, rfl, gr, hs, F⟩ := hI
   replace G := GB.trans gr
   replace hC := hCB.gr gr
   replace hnd := hndB.gr gr
   have GB_ := gr
   clear gr
   refine Y.seq ?_
   refine Y.seq ?_
   refine Y.lit (by kernel_rfl) ?_
   refine Y.pval F (X.w0 rfl) rfl (X.move rfl (F.ev 10 (.int .i64 s))) ?_
   clear F ac
   intro ac F
   refine Y.pval F (X.w0 rfl) rfl (X.field rfl (F.ev 2 (.pointer (some ⟨w.heap.size, 0, none⟩))) (X.fld Try.underlying24 rfl (Try.siz3 _) rfl rfl)) ?_
   clear F ac
   intro ac F
   refine Y.pval F (X.w0 rfl) rfl (X.load rfl (F.ev 29 (.pointer (some ⟨w.heap.size, 0, none⟩))) (X.ld1 (Try.agg3 _) (hC.at 0 rfl))) ?_
   clear F ac
   intro ac F
   refine Y.pval F (X.w0 rfl) rfl (X.conv rfl (F.ev 30 (.int .i64 gr)) (X.cv54 Try.underlying3 Try.underlying54 (by omega))) ?_
   clear F ac
   intro ac F
   refine Y.pval F (X.w0 rfl) rfl (X.binop rfl (X.kc (.int .i64 1) rfl) (F.ev 31 (.int .u64 gr)) (X.shlI Try.underlying3 rfl (by omega))) ?_
   clear F ac
   intro ac F
   refine Y.pval F (X.w0 rfl) rfl (X.binop rfl (F.ev 28 (.int .i64 s)) (F.ev 32 (.int .i64 (shlV 1 (gr : Int)))) (X.lssI Try.underlying3 rfl)) ?_
   clear F ac
   intro ac F
   refine Y.nil ?_
   replace F : Fr ac 91 [(0, .agg #[.int .i64 gr, .int .i64 hold, .slice na n nc]), (1, .int .i64 need), (2, .pointer (some ⟨w.heap.size, 0, none⟩)), (4, .int .i64 0), (5, .int .i64 0), (6, .int .i64 0), (7, .int .i64 (cluE gr hold nd)), (8, .int .i64 (bestI (chS nd need s))), (9, .int .i64 ((chS nd need s).l)), (10, .int .i64 s), (17, .bool false), (27, .bool false), (33, .bool (decide ((s : Int) < (shlV 1 (gr : Int)))))] := F.sub _
   refine X.thenN ?_
   cases h8 : decide ((s : Int) < (shlV 1 (gr : Int))) with
   | false =>
    try rw [h8] at F
    have h8p : ¬ ((s : Int) < (shlV 1 (gr : Int))) := of_decide_eq_false h8
    obtain rfl : (shlV 1 gr).toNat = s := by omega
    refine Y.condF (F.ev 33 (.bool false)) ?_
    refine Y.exit ?_
    refine X.thenX ?_
    refine X.thenX ?_
    refine X.blockX ?_
    refine X.thenN ?_
    refine Y.seq ?_
    refine Y.seq ?_
    refine Y.lit (by kernel_rfl) ?_
    refine Y.pval F (X.w0 rfl) rfl (X.move rfl (F.ev 8 (.int .i64 (bestI (chS nd need (shlV 1 gr).toNat))))) ?_
    clear F ac
    intro ac F
    refine Y.pval F (X.w0 rfl) rfl (X.binop rfl (F.ev 87 (.int .i64 (bestI (chS nd need (shlV 1 gr).toNat)))) (X.kc (.int .i64 0) rfl) (X.lssI Try.underlying3 rfl)) ?_
    clear F ac
    intro ac F
    refine Y.nil ?_
    replace F : Fr ac 91 [(0, .agg #[.int .i64 gr, .int .i64 hold, .slice na n nc]), (1, .int .i64 need), (2, .pointer (some ⟨w.heap.size, 0, none⟩)), (4, .int .i64 0), (5, .int .i64 0), (6, .int .i64 0), (7, .int .i64 (cluE gr hold nd)), (8, .int .i64 (bestI (chS nd need (shlV 1 gr).toNat))), (9, .int .i64 ((chS nd need (shlV 1 gr).toNat).l)), (10, .int .i64 ((shlV 1 gr).toNat)), (17, .bool false), (27, .bool false), (33, .bool false), (88, .bool (decide ((bestI (chS nd need (shlV 1 gr).toNat) : Int) < 0)))] := F.sub _
    refine X.thenN ?_
    cases h9 : decide ((bestI (chS nd need (shlV 1 gr).toNat) : Int) < 0) with
    | false =>
     try rw [h9] at F
     have h9p : ¬ ((bestI (chS nd need (shlV 1 gr).toNat) : Int) < 0) := of_decide_eq_false h9
     have hf := bestI_pos h9p
     refine Y.condF (F.ev 88 (.bool false)) ?_
     refine Y.skip ?_
     refine X.thenN ?_
     refine Y.seq ?_
     refine Y.lit (by kernel_rfl) ?_
     refine Y.pval F (X.w0 rfl) rfl (X.move rfl (F.ev 8 (.int .i64 (bestI (chS nd need (shlV 1 gr).toNat))))) ?_
     clear F ac
     intro ac F
     refine Y.pval F (X.w0 rfl) rfl (X.move rfl (F.ev 9 (.int .i64 ((chS nd need (shlV 1 gr).toNat).l)))) ?_
     clear F ac
     intro ac F
     refine Y.pval F (X.w0 rfl) rfl (X.assign rfl (F.ev 89 (.int .i64 (bestI (chS nd need (shlV 1 gr).toNat))))) ?_
     clear F ac
     intro ac F
     refine Y.pval F (X.w0 rfl) rfl (X.assign rfl (F.ev 90 (.int .i64 ((chS nd need (shlV 1 gr).toNat).l)))) ?_
     clear F ac
     intro ac F
     refine Y.pval F (X.w0 rfl) rfl (X.assign rfl (X.kc (.int .i64 0) rfl)) ?_
     clear F ac
     intro ac F
     refine Y.nil ?_
     replace F : Fr ac 91 [(0, .agg #[.int .i64 gr, .int .i64 hold, .slice na n nc]), (1, .int .i64 need), (2, .pointer (some ⟨w.heap.size, 0, none⟩)), (4, .int .i64 (bestI (chS nd need (shlV 1 gr).toNat))), (5, .int .i64 ((chS nd need (shlV 1 gr).toNat).l)), (6, .int .i64 0), (7, .int .i64 (cluE gr hold nd)), (8, .int .i64 (bestI (chS nd need (shlV 1 gr).toNat))), (9, .int .i64 ((chS nd need (shlV 1 gr).toNat).l)), (10, .int .i64 ((shlV 1 gr).toNat)), (17, .bool false), (27, .bool false), (33, .bool false), (88, .bool false)] := F.sub _
     refine X.thenN ?_
     refine Y.ret ?_
     have eE : chE gr hold nd need = 0 := by rw [chE, if_neg (fun h => h hE), hlen, hW, hf.1]; rfl
     exact Y.ret0 (v := .tuple #[.int .i64 (bestI (chS nd need (shlV 1 gr).toNat)), .int .i64 ((chS nd need (shlV 1 gr).toNat).l), .int .i64 0]) F (Y.rs3 F rfl (by kernel_rfl) (by kernel_rfl) (by kernel_rfl)) ⟨by rw [chG, chL, eE, if_pos rfl, if_pos rfl, hf.2], G⟩
    | true =>
     try rw [h9] at F
     have h9p : ((bestI (chS nd need (shlV 1 gr).toNat) : Int) < 0) := of_decide_eq_true h9
     have hf := bestI_neg h9p
     refine Y.condT (F.ev 88 (.bool true)) ?_
     refine Y.seq ?_
     refine Y.lit (by kernel_rfl) ?_
     refine Y.pval F (X.w0 rfl) rfl (X.assign rfl (X.kc (.int .i64 0) rfl)) ?_
     clear F ac
     intro ac F
     refine Y.pval F (X.w0 rfl) rfl (X.assign rfl (X.kc (.int .i64 0) rfl)) ?_
     clear F ac
     intro ac F
     refine Y.pval F (X.w0 rfl) rfl (X.assign rfl (X.kc (.int .i64 3) rfl)) ?_
     clear F ac
     intro ac F
     refine Y.nil ?_
     replace F : Fr ac 91 [(0, .agg #[.int .i64 gr, .int .i64 hold, .slice na n nc]), (1, .int .i64 need), (2, .pointer (some ⟨w.heap.size, 0, none⟩)), (4, .int .i64 0), (5, .int .i64 0), (6, .int .i64 3), (7, .int .i64 (cluE gr hold nd)), (8, .int .i64 (bestI (chS nd need (shlV 1 gr).toNat))), (9, .int .i64 ((chS nd need (shlV 1 gr).toNat).l)), (10, .int .i64 ((shlV 1 gr).toNat)), (17, .bool false), (27, .bool false), (33, .bool false), (88, .bool true)] := F.sub _
     refine X.thenN ?_
     refine Y.ret ?_
     refine X.thenR ?_
     have eE : chE gr hold nd need = 3 := by rw [chE, if_neg (fun h => h hE), hlen, hW, hf]; rfl
     exact Y.ret0 (v := .tuple #[.int .i64 0, .int .i64 0, .int .i64 3]) F (Y.rs3 F rfl (by kernel_rfl) (by kernel_rfl) (by kernel_rfl)) ⟨by rw [chG, chL, eE]; rfl, G⟩
   | true =>
    try rw [h8] at F
    have h8p : ((s : Int) < (shlV 1 (gr : Int))) := of_decide_eq_true h8
    refine Y.condT (F.ev 33 (.bool true)) ?_
    refine Y.skip ?_
    refine X.thenN ?_
    refine Y.seq ?_
    refine Y.block ?_
    refine Y.seq ?_
    refine Y.lit (by kernel_rfl) ?_
    refine Y.pval F (X.w0 rfl) rfl (X.assign rfl (X.kc (.int .i64 0) rfl)) ?_
    clear F ac
    intro ac F
    refine Y.nil ?_
    replace F : Fr ac 91 [(0, .agg #[.int .i64 gr, .int .i64 hold, .slice na n nc]), (1, .int .i64 need), (2, .pointer (some ⟨w.heap.size, 0, none⟩)), (4, .int .i64 0), (5, .int .i64 0), (6, .int .i64 0), (7, .int .i64 (cluE gr hold nd)), (8, .int .i64 (bestI (chS nd need s))), (9, .int .i64 ((chS nd need s).l)), (10, .int .i64 s), (11, .int .i64 0), (17, .bool false), (27, .bool false), (33, .bool true)] := F.sub _
    refine X.thenN ?_
    refine Y.seq ?_
    refine Y.lit (by kernel_rfl) ?_
    refine Y.pval F (X.w0 rfl) rfl (X.assign rfl (X.kc (.bool true) rfl)) ?_
    clear F ac
    intro ac F
    refine Y.nil ?_
    replace F : Fr ac 91 [(0, .agg #[.int .i64 gr, .int .i64 hold, .slice na n nc]), (1, .int .i64 need), (2, .pointer (some ⟨w.heap.size, 0, none⟩)), (4, .int .i64 0), (5, .int .i64 0), (6, .int .i64 0), (7, .int .i64 (cluE gr hold nd)), (8, .int .i64 (bestI (chS nd need s))), (9, .int .i64 ((chS nd need s).l)), (10, .int .i64 s), (11, .int .i64 0), (12, .bool true), (17, .bool false), (27, .bool false), (33, .bool true)] := F.sub _
    refine X.thenN ?_
    refine Y.seq ?_
    refine Y.seq ?_
    refine Y.lit (by kernel_rfl) ?_
    refine Y.pval F (X.w0 rfl) rfl (X.assign rfl (X.kc (.int .i64 0) rfl)) ?_
    clear F ac
    intro ac F
    refine Y.nil ?_
    replace F : Fr ac 91 [(0, .agg #[.int .i64 gr, .int .i64 hold, .slice na n nc]), (1, .int .i64 need), (2, .pointer (some ⟨w.heap.size, 0, none⟩)), (4, .int .i64 0), (5, .int .i64 0), (6, .int .i64 0), (7, .int .i64 (cluE gr hold nd)), (8, .int .i64 (bestI (chS nd need s))), (9, .int .i64 ((chS nd need s).l)), (10, .int .i64 s), (11, .int .i64 0), (12, .bool true), (13, .int .i64 0), (17, .bool false), (27, .bool false), (33, .bool true)] := F.sub _
    refine X.thenN ?_
    refine Y.block ?_
    have hndBB := hnd
    have hCBB := hC
    have GBB := G
    refine Y.loop (fun me_ ac wr => ∃ (i : Nat), me_ = n - i ∧ Gr w7 wr ∧ i ≤ n ∧ Fr ac 91 [(0, .agg #[.int .i64 gr, .int .i64 hold, .slice na n nc]), (1, .int .i64 need), (2, .pointer (some ⟨w.heap.size, 0, none⟩)), (4, .int .i64 0), (5, .int .i64 0), (6, .int .i64 0), (7, .int .i64 (cluE gr hold nd)), (8, .int .i64 (bestI (chS nd need s))), (9, .int .i64 ((chS nd need s).l)), (10, .int .i64 s), (11, .int .i64 (sumC nd s i)), (12, .bool (allC nd need s i)), (13, .int .i64 i), (17, .bool false), (27, .bool false), (33, .bool true)]) _ ⟨0, rfl, Gr.refl _, Nat.zero_le _, F.sub _⟩ ?_
    clear F
    intro me_ ac w10 hI
    obtain ⟨i, rfl, gr, hi, F⟩ := hI
    replace G := GBB.trans gr
    replace hC := hCBB.gr gr
    replace hnd := hndBB.gr gr
    replace GB_ := GB_.trans gr
    have GBB_ := gr
    clear gr
    refine Y.seq ?_
    refine Y.seq ?_
    refine Y.lit (by kernel_rfl) ?_
    refine Y.pval F (X.w0 rfl) rfl (X.move rfl (F.ev 13 (.int .i64 i))) ?_
    clear F ac
    intro ac F
    refine Y.pval F (X.w0 rfl) rfl (X.field rfl (F.ev 2 (.pointer (some ⟨w.heap.size, 0, none⟩))) (X.fld Try.underlying24 rfl (Try.siz22 _) rfl rfl)) ?_
    clear F ac
    intro ac F
    refine Y.pval F (X.w0 rfl) rfl (X.load rfl (F.ev 37 (.pointer (some ⟨w.heap.size, 2, none⟩))) (X.ld1 (Try.agg22 _) (hC.at 2 rfl))) ?_
    clear F ac
    intro ac F
    refine Y.pval F (X.w0 rfl) rfl (X.len1 Try.underlying22 rfl (F.ev 38 (.slice na n nc))) ?_
    clear F ac
    intro ac F
    refine Y.pval F (X.w0 rfl) rfl (X.binop rfl (F.ev 36 (.int .i64 i)) (F.ev 39 (.int .i64 n)) (X.lssI Try.underlying3 rfl)) ?_
    clear F ac
    intro ac F
    refine Y.nil ?_
    replace F : Fr ac 91 [(0, .agg #[.int .i64 gr, .int .i64 hold, .slice na n nc]), (1, .int .i64 need), (2, .pointer (some ⟨w.heap.size, 0, none⟩)), (4, .int .i64 0), (5, .int .i64 0), (6, .int .i64 0), (7, .int .i64 (cluE gr hold nd)), (8, .int .i64 (bestI (chS nd need s))), (9, .int .i64 ((chS nd need s).l)), (10, .int .i64 s), (11, .int .i64 (sumC nd s i)), (12, .bool (allC nd need s i)), (13, .int .i64 i), (17, .bool false), (27, .bool false), (33, .bool true), (40, .bool (decide ((i : Int) < n)))] := F.sub _
    refine X.thenN ?_
    cases h11 : decide ((i : Int) < n) with
    | false =>
     try rw [h11] at F
     have h11p : ¬ ((i : Int) < n) := of_decide_eq_false h11
     obtain rfl : n = i := by omega
     refine Y.condF (F.ev 40 (.bool false)) ?_
     refine Y.exit ?_
     refine X.thenX ?_
     refine X.thenX ?_
     refine X.blockX ?_
     refine X.thenN ?_
     refine Y.seq ?_
     refine Y.lit (by kernel_rfl) ?_
     refine Y.pval F (X.w0 rfl) rfl (X.move rfl (F.ev 12 (.bool (allC nd need s n)))) ?_
     clear F ac
     intro ac F
     refine Y.pval F (X.w0 rfl) rfl (X.move rfl (F.ev 75 (.bool (allC nd need s n)))) ?_
     clear F ac
     intro ac F
     cases h12 : allC nd need s n with
     | false =>
      try rw [h12] at F
      refine Y.pskip F (X.w2 rfl (F.yl (j := 1) (d := 76) (b := false) rfl (by kernel_rfl)) rfl) rfl ?_
      clear F ac
      intro ac F
      refine Y.pskip F (X.w2 rfl (F.yl (j := 1) (d := 76) (b := false) rfl (by kernel_rfl)) rfl) rfl ?_
      clear F ac
      intro ac F
      refine Y.pskip F (X.w2 rfl (F.yl (j := 1) (d := 76) (b := false) rfl (by kernel_rfl)) rfl) rfl ?_
      clear F ac
      intro ac F
      refine Y.pskip F (Y.w3 rfl (F.yn (j := 4) (d := 79) rfl (by kernel_rfl))) rfl ?_
      clear F ac
      intro ac F
      refine Y.pskip F (Y.w3 rfl (F.yn (j := 4) (d := 79) rfl (by kernel_rfl))) rfl ?_
      clear F ac
      intro ac F
      refine Y.pskip F (Y.w3 rfl (F.yn (j := 4) (d := 79) rfl (by kernel_rfl))) rfl ?_
      clear F ac
      intro ac F
      refine Y.pskip F (X.w2 rfl (F.yl (j := 1) (d := 76) (b := false) rfl (by kernel_rfl)) rfl) rfl ?_
      clear F ac
      intro ac F
      refine Y.pval F (X.w0 rfl) rfl (X.pickF rfl (F.ev 76 (.bool false)) (X.kc (.bool false) rfl)) ?_
      clear F ac
      intro ac F
      refine Y.nil ?_
      replace F : Fr ac 91 [(0, .agg #[.int .i64 gr, .int .i64 hold, .slice na n nc]), (1, .int .i64 need), (2, .pointer (some ⟨w.heap.size, 0, none⟩)), (4, .int .i64 0), (5, .int .i64 0), (6, .int .i64 0), (7, .int .i64 (cluE gr hold nd)), (8, .int .i64 (bestI (chS nd need s))), (9, .int .i64 ((chS nd need s).l)), (10, .int .i64 s), (11, .int .i64 (sumC nd s n)), (12, .bool false), (13, .int .i64 n), (17, .bool false), (27, .bool false), (33, .bool true), (40, .bool false), (84, .bool false)] := F.sub _
      refine X.thenN ?_
      refine Y.condF (F.ev 84 (.bool false)) ?_
      refine Y.skip ?_
      refine X.blockN ?_
      refine X.thenN ?_
      refine Y.lit (by kernel_rfl) ?_
      refine Y.pval F (X.w0 rfl) rfl (X.move rfl (F.ev 10 (.int .i64 s))) ?_
      clear F ac
      intro ac F
      refine Y.pval F (X.w0 rfl) rfl (X.binop rfl (F.ev 34 (.int .i64 s)) (X.kc (.int .i64 1) rfl) (X.addI Try.underlying3 rfl (by omega) (by omega))) ?_
      clear F ac
      intro ac F
      refine Y.pval F (X.w0 rfl) rfl (X.assign rfl (F.ev 35 (.int .i64 ((s : Int) + 1)))) ?_
      clear F ac
      intro ac F
      refine Y.nil ?_
      replace F : Fr ac 91 [(0, .agg #[.int .i64 gr, .int .i64 hold, .slice na n nc]), (1, .int .i64 need), (2, .pointer (some ⟨w.heap.size, 0, none⟩)), (4, .int .i64 0), (5, .int .i64 0), (6, .int .i64 0), (7, .int .i64 (cluE gr hold nd)), (8, .int .i64 (bestI (chS nd need s))), (9, .int .i64 ((chS nd need s).l)), (10, .int .i64 ((s : Int) + 1)), (11, .int .i64 (sumC nd s n)), (12, .bool false), (13, .int .i64 n), (17, .bool false), (27, .bool false), (33, .bool true), (40, .bool false), (84, .bool false)] := F.sub _
      refine X.thenN ?_
      refine ⟨_, ?_, s + 1, rfl, GB_, by omega, (by rw [show chS nd need (s + 1) = chS nd need s from by rw [chS_succ hlen]; exact if_neg (by simp [h12])]; exact F.sub _)⟩
      omega
     | true =>
      try rw [h12] at F
      refine Y.pval F (X.w1 rfl (F.yl (j := 1) (d := 76) (b := true) rfl (by kernel_rfl))) rfl (X.move rfl (F.ev 8 (.int .i64 (bestI (chS nd need s))))) ?_
      clear F ac
      intro ac F
      refine Y.pval F (X.w1 rfl (F.yl (j := 1) (d := 76) (b := true) rfl (by kernel_rfl))) rfl (X.binop rfl (F.ev 77 (.int .i64 (bestI (chS nd need s)))) (X.kc (.int .i64 0) rfl) (X.lssI Try.underlying3 rfl)) ?_
      clear F ac
      intro ac F
      refine Y.pval F (X.w1 rfl (F.yl (j := 1) (d := 76) (b := true) rfl (by kernel_rfl))) rfl (X.move rfl (F.ev 78 (.bool (decide ((bestI (chS nd need s) : Int) < 0))))) ?_
      clear F ac
      intro ac F
      cases h13 : decide ((bestI (chS nd need s) : Int) < 0) with
      | false =>
       try rw [h13] at F
       have h13p : ¬ ((bestI (chS nd need s) : Int) < 0) := of_decide_eq_false h13
       have hf := bestI_pos h13p
       refine Y.pval F (X.w1 rfl (F.yl (j := 4) (d := 79) (b := false) rfl (by kernel_rfl))) rfl (X.move rfl (F.ev 11 (.int .i64 (sumC nd s n)))) ?_
       clear F ac
       intro ac F
       refine Y.pval F (X.w1 rfl (F.yl (j := 4) (d := 79) (b := false) rfl (by kernel_rfl))) rfl (X.move rfl (F.ev 9 (.int .i64 ((chS nd need s).l)))) ?_
       clear F ac
       intro ac F
       refine Y.pval F (X.w1 rfl (F.yl (j := 4) (d := 79) (b := false) rfl (by kernel_rfl))) rfl (X.binop rfl (F.ev 80 (.int .i64 (sumC nd s n))) (F.ev 81 (.int .i64 ((chS nd need s).l))) (X.lssI Try.underlying3 rfl)) ?_
       clear F ac
       intro ac F
       refine Y.pval F (X.w1 rfl (F.yl (j := 1) (d := 76) (b := true) rfl (by kernel_rfl))) rfl (X.pickF rfl (F.ev 79 (.bool false)) (F.ev 82 (.bool (decide ((sumC nd s n : Int) < ((chS nd need s).l)))))) ?_
       clear F ac
       intro ac F
       refine Y.pval F (X.w0 rfl) rfl (X.pickT rfl (F.ev 76 (.bool true)) (F.ev 83 (.bool (decide ((sumC nd s n : Int) < ((chS nd need s).l)))))) ?_
       clear F ac
       intro ac F
       refine Y.nil ?_
       replace F : Fr ac 91 [(0, .agg #[.int .i64 gr, .int .i64 hold, .slice na n nc]), (1, .int .i64 need), (2, .pointer (some ⟨w.heap.size, 0, none⟩)), (4, .int .i64 0), (5, .int .i64 0), (6, .int .i64 0), (7, .int .i64 (cluE gr hold nd)), (8, .int .i64 (bestI (chS nd need s))), (9, .int .i64 ((chS nd need s).l)), (10, .int .i64 s), (11, .int .i64 (sumC nd s n)), (12, .bool true), (13, .int .i64 n), (17, .bool false), (27, .bool false), (33, .bool true), (40, .bool false), (84, .bool (decide ((sumC nd s n : Int) < ((chS nd need s).l))))] := F.sub _
       refine X.thenN ?_
       cases h14 : decide ((sumC nd s n : Int) < ((chS nd need s).l)) with
       | false =>
        try rw [h14] at F
        have h14p : ¬ ((sumC nd s n : Int) < ((chS nd need s).l)) := of_decide_eq_false h14
        refine Y.condF (F.ev 84 (.bool false)) ?_
        refine Y.skip ?_
        refine X.blockN ?_
        refine X.thenN ?_
        refine Y.lit (by kernel_rfl) ?_
        refine Y.pval F (X.w0 rfl) rfl (X.move rfl (F.ev 10 (.int .i64 s))) ?_
        clear F ac
        intro ac F
        refine Y.pval F (X.w0 rfl) rfl (X.binop rfl (F.ev 34 (.int .i64 s)) (X.kc (.int .i64 1) rfl) (X.addI Try.underlying3 rfl (by omega) (by omega))) ?_
        clear F ac
        intro ac F
        refine Y.pval F (X.w0 rfl) rfl (X.assign rfl (F.ev 35 (.int .i64 ((s : Int) + 1)))) ?_
        clear F ac
        intro ac F
        refine Y.nil ?_
        replace F : Fr ac 91 [(0, .agg #[.int .i64 gr, .int .i64 hold, .slice na n nc]), (1, .int .i64 need), (2, .pointer (some ⟨w.heap.size, 0, none⟩)), (4, .int .i64 0), (5, .int .i64 0), (6, .int .i64 0), (7, .int .i64 (cluE gr hold nd)), (8, .int .i64 (bestI (chS nd need s))), (9, .int .i64 ((chS nd need s).l)), (10, .int .i64 ((s : Int) + 1)), (11, .int .i64 (sumC nd s n)), (12, .bool true), (13, .int .i64 n), (17, .bool false), (27, .bool false), (33, .bool true), (40, .bool false), (84, .bool false)] := F.sub _
        refine X.thenN ?_
        refine ⟨_, ?_, s + 1, rfl, GB_, by omega, (by rw [show chS nd need (s + 1) = chS nd need s from by rw [chS_succ hlen]; exact if_neg (by simp [h12, hf.1, h14p])]; exact F.sub _)⟩
        omega
       | true =>
        try rw [h14] at F
        have h14p : ((sumC nd s n : Int) < ((chS nd need s).l)) := of_decide_eq_true h14
        refine Y.condT (F.ev 84 (.bool true)) ?_
        refine Y.seq ?_
        refine Y.lit (by kernel_rfl) ?_
        refine Y.pval F (X.w0 rfl) rfl (X.move rfl (F.ev 10 (.int .i64 s))) ?_
        clear F ac
        intro ac F
        refine Y.pval F (X.w0 rfl) rfl (X.assign rfl (F.ev 85 (.int .i64 s))) ?_
        clear F ac
        intro ac F
        refine Y.nil ?_
        replace F : Fr ac 91 [(0, .agg #[.int .i64 gr, .int .i64 hold, .slice na n nc]), (1, .int .i64 need), (2, .pointer (some ⟨w.heap.size, 0, none⟩)), (4, .int .i64 0), (5, .int .i64 0), (6, .int .i64 0), (7, .int .i64 (cluE gr hold nd)), (8, .int .i64 s), (9, .int .i64 ((chS nd need s).l)), (10, .int .i64 s), (11, .int .i64 (sumC nd s n)), (12, .bool true), (13, .int .i64 n), (17, .bool false), (27, .bool false), (33, .bool true), (40, .bool false), (84, .bool true)] := F.sub _
        refine X.thenN ?_
        refine Y.lit (by kernel_rfl) ?_
        refine Y.pval F (X.w0 rfl) rfl (X.move rfl (F.ev 11 (.int .i64 (sumC nd s n)))) ?_
        clear F ac
        intro ac F
        refine Y.pval F (X.w0 rfl) rfl (X.assign rfl (F.ev 86 (.int .i64 (sumC nd s n)))) ?_
        clear F ac
        intro ac F
        refine Y.nil ?_
        replace F : Fr ac 91 [(0, .agg #[.int .i64 gr, .int .i64 hold, .slice na n nc]), (1, .int .i64 need), (2, .pointer (some ⟨w.heap.size, 0, none⟩)), (4, .int .i64 0), (5, .int .i64 0), (6, .int .i64 0), (7, .int .i64 (cluE gr hold nd)), (8, .int .i64 s), (9, .int .i64 (sumC nd s n)), (10, .int .i64 s), (11, .int .i64 (sumC nd s n)), (12, .bool true), (13, .int .i64 n), (17, .bool false), (27, .bool false), (33, .bool true), (40, .bool false), (84, .bool true)] := F.sub _
        refine X.blockN ?_
        refine X.thenN ?_
        refine Y.lit (by kernel_rfl) ?_
        refine Y.pval F (X.w0 rfl) rfl (X.move rfl (F.ev 10 (.int .i64 s))) ?_
        clear F ac
        intro ac F
        refine Y.pval F (X.w0 rfl) rfl (X.binop rfl (F.ev 34 (.int .i64 s)) (X.kc (.int .i64 1) rfl) (X.addI Try.underlying3 rfl (by omega) (by omega))) ?_
        clear F ac
        intro ac F
        refine Y.pval F (X.w0 rfl) rfl (X.assign rfl (F.ev 35 (.int .i64 ((s : Int) + 1)))) ?_
        clear F ac
        intro ac F
        refine Y.nil ?_
        replace F : Fr ac 91 [(0, .agg #[.int .i64 gr, .int .i64 hold, .slice na n nc]), (1, .int .i64 need), (2, .pointer (some ⟨w.heap.size, 0, none⟩)), (4, .int .i64 0), (5, .int .i64 0), (6, .int .i64 0), (7, .int .i64 (cluE gr hold nd)), (8, .int .i64 s), (9, .int .i64 (sumC nd s n)), (10, .int .i64 ((s : Int) + 1)), (11, .int .i64 (sumC nd s n)), (12, .bool true), (13, .int .i64 n), (17, .bool false), (27, .bool false), (33, .bool true), (40, .bool false), (84, .bool true)] := F.sub _
        refine X.thenN ?_
        refine ⟨_, ?_, s + 1, rfl, GB_, by omega, (by rw [show chS nd need (s + 1) = ⟨true, s, sumC nd s n⟩ from by rw [chS_succ hlen]; exact if_pos (by simp [h12, hf.1, h14p])]; exact F.sub _)⟩
        omega
      | true =>
       try rw [h13] at F
       have h13p : ((bestI (chS nd need s) : Int) < 0) := of_decide_eq_true h13
       have hf := bestI_neg h13p
       refine Y.pskip F (X.w2 rfl (F.yl (j := 4) (d := 79) (b := true) rfl (by kernel_rfl)) rfl) rfl ?_
       clear F ac
       intro ac F
       refine Y.pskip F (X.w2 rfl (F.yl (j := 4) (d := 79) (b := true) rfl (by kernel_rfl)) rfl) rfl ?_
       clear F ac
       intro ac F
       refine Y.pskip F (X.w2 rfl (F.yl (j := 4) (d := 79) (b := true) rfl (by kernel_rfl)) rfl) rfl ?_
       clear F ac
       intro ac F
       refine Y.pval F (X.w1 rfl (F.yl (j := 1) (d := 76) (b := true) rfl (by kernel_rfl))) rfl (X.pickT rfl (F.ev 79 (.bool true)) (X.kc (.bool true) rfl)) ?_
       clear F ac
       intro ac F
       refine Y.pval F (X.w0 rfl) rfl (X.pickT rfl (F.ev 76 (.bool true)) (F.ev 83 (.bool true))) ?_
       clear F ac
       intro ac F
       refine Y.nil ?_
       replace F : Fr ac 91 [(0, .agg #[.int .i64 gr, .int .i64 hold, .slice na n nc]), (1, .int .i64 need), (2, .pointer (some ⟨w.heap.size, 0, none⟩)), (4, .int .i64 0), (5, .int .i64 0), (6, .int .i64 0), (7, .int .i64 (cluE gr hold nd)), (8, .int .i64 (bestI (chS nd need s))), (9, .int .i64 ((chS nd need s).l)), (10, .int .i64 s), (11, .int .i64 (sumC nd s n)), (12, .bool true), (13, .int .i64 n), (17, .bool false), (27, .bool false), (33, .bool true), (40, .bool false), (84, .bool true)] := F.sub _
       refine X.thenN ?_
       refine Y.condT (F.ev 84 (.bool true)) ?_
       refine Y.seq ?_
       refine Y.lit (by kernel_rfl) ?_
       refine Y.pval F (X.w0 rfl) rfl (X.move rfl (F.ev 10 (.int .i64 s))) ?_
       clear F ac
       intro ac F
       refine Y.pval F (X.w0 rfl) rfl (X.assign rfl (F.ev 85 (.int .i64 s))) ?_
       clear F ac
       intro ac F
       refine Y.nil ?_
       replace F : Fr ac 91 [(0, .agg #[.int .i64 gr, .int .i64 hold, .slice na n nc]), (1, .int .i64 need), (2, .pointer (some ⟨w.heap.size, 0, none⟩)), (4, .int .i64 0), (5, .int .i64 0), (6, .int .i64 0), (7, .int .i64 (cluE gr hold nd)), (8, .int .i64 s), (9, .int .i64 ((chS nd need s).l)), (10, .int .i64 s), (11, .int .i64 (sumC nd s n)), (12, .bool true), (13, .int .i64 n), (17, .bool false), (27, .bool false), (33, .bool true), (40, .bool false), (84, .bool true)] := F.sub _
       refine X.thenN ?_
       refine Y.lit (by kernel_rfl) ?_
       refine Y.pval F (X.w0 rfl) rfl (X.move rfl (F.ev 11 (.int .i64 (sumC nd s n)))) ?_
       clear F ac
       intro ac F
       refine Y.pval F (X.w0 rfl) rfl (X.assign rfl (F.ev 86 (.int .i64 (sumC nd s n)))) ?_
       clear F ac
       intro ac F
       refine Y.nil ?_
       replace F : Fr ac 91 [(0, .agg #[.int .i64 gr, .int .i64 hold, .slice na n nc]), (1, .int .i64 need), (2, .pointer (some ⟨w.heap.size, 0, none⟩)), (4, .int .i64 0), (5, .int .i64 0), (6, .int .i64 0), (7, .int .i64 (cluE gr hold nd)), (8, .int .i64 s), (9, .int .i64 (sumC nd s n)), (10, .int .i64 s), (11, .int .i64 (sumC nd s n)), (12, .bool true), (13, .int .i64 n), (17, .bool false), (27, .bool false), (33, .bool true), (40, .bool false), (84, .bool true)] := F.sub _
       refine X.blockN ?_
       refine X.thenN ?_
       refine Y.lit (by kernel_rfl) ?_
       refine Y.pval F (X.w0 rfl) rfl (X.move rfl (F.ev 10 (.int .i64 s))) ?_
       clear F ac
       intro ac F
       refine Y.pval F (X.w0 rfl) rfl (X.binop rfl (F.ev 34 (.int .i64 s)) (X.kc (.int .i64 1) rfl) (X.addI Try.underlying3 rfl (by omega) (by omega))) ?_
       clear F ac
       intro ac F
       refine Y.pval F (X.w0 rfl) rfl (X.assign rfl (F.ev 35 (.int .i64 ((s : Int) + 1)))) ?_
       clear F ac
       intro ac F
       refine Y.nil ?_
       replace F : Fr ac 91 [(0, .agg #[.int .i64 gr, .int .i64 hold, .slice na n nc]), (1, .int .i64 need), (2, .pointer (some ⟨w.heap.size, 0, none⟩)), (4, .int .i64 0), (5, .int .i64 0), (6, .int .i64 0), (7, .int .i64 (cluE gr hold nd)), (8, .int .i64 s), (9, .int .i64 (sumC nd s n)), (10, .int .i64 ((s : Int) + 1)), (11, .int .i64 (sumC nd s n)), (12, .bool true), (13, .int .i64 n), (17, .bool false), (27, .bool false), (33, .bool true), (40, .bool false), (84, .bool true)] := F.sub _
       refine X.thenN ?_
       refine ⟨_, ?_, s + 1, rfl, GB_, by omega, (by rw [show chS nd need (s + 1) = ⟨true, s, sumC nd s n⟩ from by rw [chS_succ hlen]; exact if_pos (by simp [h12, hf])]; exact F.sub _)⟩
       omega
    | true =>
     try rw [h11] at F
     have h11p : ((i : Int) < n) := of_decide_eq_true h11
     have hi2 : i < n := by omega
     have hsb := sumC_bd hc s i (by omega)
     have ha := hc.awk i (by omega)
     have hb := hc.asl i (by omega)
     refine Y.condT (F.ev 40 (.bool true)) ?_
     refine Y.skip ?_
     refine X.thenN ?_
     refine Y.seq ?_
     refine Y.block ?_
     refine Y.seq ?_
     refine Y.lit (by kernel_rfl) ?_
     refine Y.pval F (X.w0 rfl) rfl (X.field rfl (F.ev 2 (.pointer (some ⟨w.heap.size, 0, none⟩))) (X.fld Try.underlying24 rfl (Try.siz22 _) rfl rfl)) ?_
     clear F ac
     intro ac F
     refine Y.pval F (X.w0 rfl) rfl (X.load rfl (F.ev 43 (.pointer (some ⟨w.heap.size, 2, none⟩))) (X.ld1 (Try.agg22 _) (hC.at 2 rfl))) ?_
     clear F ac
     intro ac F
     refine Y.pval F (X.w0 rfl) rfl (X.move rfl (F.ev 13 (.int .i64 i))) ?_
     clear F ac
     intro ac F
     obtain ⟨pd15, pe15, -, -, pc15⟩ := hnd.at (j := i) (by omega)
     subst pe15
     replace hC : RCells w10 [(⟨w.heap.size, 0, none⟩, .int .i64 gr), (⟨w.heap.size, 1, none⟩, .int .i64 hold), (⟨w.heap.size, 2, none⟩, .slice (some pd15) n nc), (pd15.add (i * 5), .int .i64 (cv nd i 0)), (⟨(pd15.add (i * 5)).block, (pd15.add (i * 5)).off + 1, none⟩, .int .i64 (cv nd i 1)), (⟨(pd15.add (i * 5)).block, (pd15.add (i * 5)).off + 2, none⟩, .int .i64 (cv nd i 2)), (⟨(pd15.add (i * 5)).block, (pd15.add (i * 5)).off + 3, none⟩, .int .i64 (cv nd i 3)), (⟨(pd15.add (i * 5)).block, (pd15.add (i * 5)).off + 4, none⟩, .int .i64 (cv nd i 4))] := hC.append ((RCells.cons (pc15 0 (by decide)) (RCells.cons (pc15 1 (by decide)) (RCells.cons (pc15 2 (by decide)) (RCells.cons (pc15 3 (by decide)) (RCells.cons (pc15 4 (by decide)) (RCells.nil _)))))))
     clear pc15
     refine Y.pval F (X.w0 rfl) rfl (X.index rfl (F.ev 44 (.slice (some pd15) n nc)) (F.ev 45 (.int .i64 i)) (X.idx (k := i) Try.underlying22 (Try.siz31 _) (by omega) (by omega) rfl)) ?_
     clear F ac
     intro ac F
     refine Y.pval F (X.w0 rfl) rfl (X.field rfl (F.ev 46 (.pointer (some (pd15.add (i * 5))))) (X.fld Try.underlying31 rfl (Try.siz3 _) rfl rfl)) ?_
     clear F ac
     intro ac F
     refine Y.pval F (X.w0 rfl) rfl (X.load rfl (F.ev 47 (.pointer (some (pd15.add (i * 5))))) (X.ld1 (Try.agg3 _) (hC.at 3 rfl))) ?_
     clear F ac
     intro ac F
     refine Y.pval F (X.w0 rfl) rfl (X.move rfl (F.ev 10 (.int .i64 s))) ?_
     clear F ac
     intro ac F
     refine Y.pval F (X.w0 rfl) rfl (X.binop rfl (F.ev 48 (.int .i64 (cv nd i 0))) (F.ev 49 (.int .i64 s)) (X.andI Try.underlying3 rfl)) ?_
     clear F ac
     intro ac F
     refine Y.pval F (X.w0 rfl) rfl (X.binop rfl (F.ev 50 (.int .i64 (andV (cv nd i 0 : Int) (s : Int)))) (X.kc (.int .i64 0) rfl) (X.neqI Try.underlying3 rfl)) ?_
     clear F ac
     intro ac F
     refine Y.nil ?_
     replace F : Fr ac 91 [(0, .agg #[.int .i64 gr, .int .i64 hold, .slice (some pd15) n nc]), (1, .int .i64 need), (2, .pointer (some ⟨w.heap.size, 0, none⟩)), (4, .int .i64 0), (5, .int .i64 0), (6, .int .i64 0), (7, .int .i64 (cluE gr hold nd)), (8, .int .i64 (bestI (chS nd need s))), (9, .int .i64 ((chS nd need s).l)), (10, .int .i64 s), (11, .int .i64 (sumC nd s i)), (12, .bool (allC nd need s i)), (13, .int .i64 i), (17, .bool false), (27, .bool false), (33, .bool true), (40, .bool true), (51, .bool ((andV (cv nd i 0 : Int) (s : Int) : Int) != 0))] := F.sub _
     refine X.thenN ?_
     cases h16 : ((andV (cv nd i 0 : Int) (s : Int) : Int) != 0) with
     | false =>
      try rw [h16] at F
      have h16p : (andV (cv nd i 0 : Int) (s : Int) : Int) = 0 := by simpa using h16
      refine Y.condF (F.ev 51 (.bool false)) ?_
      refine Y.seq ?_
      refine Y.lit (by kernel_rfl) ?_
      refine Y.pval F (X.w0 rfl) rfl (X.move rfl (F.ev 11 (.int .i64 (sumC nd s i)))) ?_
      clear F ac
      intro ac F
      refine Y.pval F (X.w0 rfl) rfl (X.field rfl (F.ev 2 (.pointer (some ⟨w.heap.size, 0, none⟩))) (X.fld Try.underlying24 rfl (Try.siz22 _) rfl rfl)) ?_
      clear F ac
      intro ac F
      refine Y.pval F (X.w0 rfl) rfl (X.load rfl (F.ev 61 (.pointer (some ⟨w.heap.size, 2, none⟩))) (X.ld1 (Try.agg22 _) (hC.at 2 rfl))) ?_
      clear F ac
      intro ac F
      refine Y.pval F (X.w0 rfl) rfl (X.move rfl (F.ev 13 (.int .i64 i))) ?_
      clear F ac
      intro ac F
      refine Y.pval F (X.w0 rfl) rfl (X.index rfl (F.ev 62 (.slice (some pd15) n nc)) (F.ev 63 (.int .i64 i)) (X.idx (k := i) Try.underlying22 (Try.siz31 _) (by omega) (by omega) rfl)) ?_
      clear F ac
      intro ac F
      refine Y.pval F (X.w0 rfl) rfl (X.field rfl (F.ev 64 (.pointer (some (pd15.add (i * 5))))) (X.fld Try.underlying31 rfl (Try.siz3 _) rfl rfl)) ?_
      clear F ac
      intro ac F
      refine Y.pval F (X.w0 rfl) rfl (X.load rfl (F.ev 65 (.pointer (some (⟨(pd15.add (i * 5)).block, (pd15.add (i * 5)).off + 2, none⟩)))) (X.ld1 (Try.agg3 _) (hC.at 5 rfl))) ?_
      clear F ac
      intro ac F
      refine Y.pval F (X.w0 rfl) rfl (X.binop rfl (F.ev 60 (.int .i64 (sumC nd s i))) (F.ev 66 (.int .i64 (cv nd i 2))) (X.addI Try.underlying3 rfl (by omega) (by omega))) ?_
      clear F ac
      intro ac F
      refine Y.pval F (X.w0 rfl) rfl (X.assign rfl (F.ev 67 (.int .i64 ((sumC nd s i : Int) + (cv nd i 2))))) ?_
      clear F ac
      intro ac F
      refine Y.nil ?_
      replace F : Fr ac 91 [(0, .agg #[.int .i64 gr, .int .i64 hold, .slice (some pd15) n nc]), (1, .int .i64 need), (2, .pointer (some ⟨w.heap.size, 0, none⟩)), (4, .int .i64 0), (5, .int .i64 0), (6, .int .i64 0), (7, .int .i64 (cluE gr hold nd)), (8, .int .i64 (bestI (chS nd need s))), (9, .int .i64 ((chS nd need s).l)), (10, .int .i64 s), (11, .int .i64 ((sumC nd s i : Int) + (cv nd i 2))), (12, .bool (allC nd need s i)), (13, .int .i64 i), (17, .bool false), (27, .bool false), (33, .bool true), (40, .bool true), (51, .bool false)] := F.sub _
      refine X.thenN ?_
      refine Y.lit (by kernel_rfl) ?_
      refine Y.pval F (X.w0 rfl) rfl (X.move rfl (F.ev 12 (.bool (allC nd need s i)))) ?_
      clear F ac
      intro ac F
      refine Y.pval F (X.w0 rfl) rfl (X.move rfl (F.ev 68 (.bool (allC nd need s i)))) ?_
      clear F ac
      intro ac F
      cases h17 : allC nd need s i with
      | false =>
       try rw [h17] at F
       refine Y.pskip F (X.w2 rfl (F.yl (j := 1) (d := 69) (b := false) rfl (by kernel_rfl)) rfl) rfl ?_
       clear F ac
       intro ac F
       refine Y.pskip F (X.w2 rfl (F.yl (j := 1) (d := 69) (b := false) rfl (by kernel_rfl)) rfl) rfl ?_
       clear F ac
       intro ac F
       refine Y.pskip F (X.w2 rfl (F.yl (j := 1) (d := 69) (b := false) rfl (by kernel_rfl)) rfl) rfl ?_
       clear F ac
       intro ac F
       refine Y.pskip F (X.w2 rfl (F.yl (j := 1) (d := 69) (b := false) rfl (by kernel_rfl)) rfl) rfl ?_
       clear F ac
       intro ac F
       refine Y.pval F (X.w0 rfl) rfl (X.pickF rfl (F.ev 69 (.bool false)) (X.kc (.bool false) rfl)) ?_
       clear F ac
       intro ac F
       refine Y.pval F (X.w0 rfl) rfl (X.assign rfl (F.ev 74 (.bool false))) ?_
       clear F ac
       intro ac F
       refine Y.nil ?_
       replace F : Fr ac 91 [(0, .agg #[.int .i64 gr, .int .i64 hold, .slice (some pd15) n nc]), (1, .int .i64 need), (2, .pointer (some ⟨w.heap.size, 0, none⟩)), (4, .int .i64 0), (5, .int .i64 0), (6, .int .i64 0), (7, .int .i64 (cluE gr hold nd)), (8, .int .i64 (bestI (chS nd need s))), (9, .int .i64 ((chS nd need s).l)), (10, .int .i64 s), (11, .int .i64 ((sumC nd s i : Int) + (cv nd i 2))), (12, .bool false), (13, .int .i64 i), (17, .bool false), (27, .bool false), (33, .bool true), (40, .bool true), (51, .bool false)] := F.sub _
       refine X.blockN ?_
       refine X.thenN ?_
       refine Y.lit (by kernel_rfl) ?_
       refine Y.pval F (X.w0 rfl) rfl (X.move rfl (F.ev 13 (.int .i64 i))) ?_
       clear F ac
       intro ac F
       refine Y.pval F (X.w0 rfl) rfl (X.binop rfl (F.ev 41 (.int .i64 i)) (X.kc (.int .i64 1) rfl) (X.addI Try.underlying3 rfl (by omega) (by omega))) ?_
       clear F ac
       intro ac F
       refine Y.pval F (X.w0 rfl) rfl (X.assign rfl (F.ev 42 (.int .i64 ((i : Int) + 1)))) ?_
       clear F ac
       intro ac F
       refine Y.nil ?_
       replace F : Fr ac 91 [(0, .agg #[.int .i64 gr, .int .i64 hold, .slice (some pd15) n nc]), (1, .int .i64 need), (2, .pointer (some ⟨w.heap.size, 0, none⟩)), (4, .int .i64 0), (5, .int .i64 0), (6, .int .i64 0), (7, .int .i64 (cluE gr hold nd)), (8, .int .i64 (bestI (chS nd need s))), (9, .int .i64 ((chS nd need s).l)), (10, .int .i64 s), (11, .int .i64 ((sumC nd s i : Int) + (cv nd i 2))), (12, .bool false), (13, .int .i64 ((i : Int) + 1)), (17, .bool false), (27, .bool false), (33, .bool true), (40, .bool true), (51, .bool false)] := F.sub _
       refine X.thenN ?_
       refine ⟨_, ?_, i + 1, rfl, GBB_, by omega, (by rw [show sumC nd s (i + 1) = sumC nd s i + cv nd i 2 from by simp only [sumC]; rw [if_pos h16p], show allC nd need s (i + 1) = false from by simp [allC, h17]]; exact F.sub _)⟩
       omega
      | true =>
       try rw [h17] at F
       refine Y.pval F (X.w1 rfl (F.yl (j := 1) (d := 69) (b := true) rfl (by kernel_rfl))) rfl (X.move rfl (F.ev 1 (.int .i64 need))) ?_
       clear F ac
       intro ac F
       refine Y.pval F (X.w1 rfl (F.yl (j := 1) (d := 69) (b := true) rfl (by kernel_rfl))) rfl (X.move rfl (F.ev 13 (.int .i64 i))) ?_
       clear F ac
       intro ac F
       refine Y.pcall F (X.w1 rfl (F.yl (j := 1) (d := 69) (b := true) rfl (by kernel_rfl))) rfl (X.enter (F := 58) rfl (X.kc (.func (.func 58) #[] #[]) rfl) (X.a2 (F.ev 70 (.int .i64 need)) (F.ev 71 (.int .i64 i))) (enters_of Try.func58 (by kernel_rfl) rfl _)) (bit2_any need i w10 (by omega)) ?_
       clear F ac
       rintro e w' ⟨rfl, hw_⟩
       obtain rfl : w10 = w' := hw_.symm
       clear hw_
       refine ⟨_, rfl, ?_⟩
       intro ac F
       refine Y.pval F (X.w1 rfl (F.yl (j := 1) (d := 69) (b := true) rfl (by kernel_rfl))) rfl (X.notB rfl (F.ev 72 (.bool (bitB need i))) rfl) ?_
       clear F ac
       intro ac F
       refine Y.pval F (X.w0 rfl) rfl (X.pickT rfl (F.ev 69 (.bool true)) (F.ev 73 (.bool (!(bitB need i))))) ?_
       clear F ac
       intro ac F
       refine Y.pval F (X.w0 rfl) rfl (X.assign rfl (F.ev 74 (.bool (!(bitB need i))))) ?_
       clear F ac
       intro ac F
       refine Y.nil ?_
       replace F : Fr ac 91 [(0, .agg #[.int .i64 gr, .int .i64 hold, .slice (some pd15) n nc]), (1, .int .i64 need), (2, .pointer (some ⟨w.heap.size, 0, none⟩)), (4, .int .i64 0), (5, .int .i64 0), (6, .int .i64 0), (7, .int .i64 (cluE gr hold nd)), (8, .int .i64 (bestI (chS nd need s))), (9, .int .i64 ((chS nd need s).l)), (10, .int .i64 s), (11, .int .i64 ((sumC nd s i : Int) + (cv nd i 2))), (12, .bool (!(bitB need i))), (13, .int .i64 i), (17, .bool false), (27, .bool false), (33, .bool true), (40, .bool true), (51, .bool false)] := F.sub _
       refine X.blockN ?_
       refine X.thenN ?_
       refine Y.lit (by kernel_rfl) ?_
       refine Y.pval F (X.w0 rfl) rfl (X.move rfl (F.ev 13 (.int .i64 i))) ?_
       clear F ac
       intro ac F
       refine Y.pval F (X.w0 rfl) rfl (X.binop rfl (F.ev 41 (.int .i64 i)) (X.kc (.int .i64 1) rfl) (X.addI Try.underlying3 rfl (by omega) (by omega))) ?_
       clear F ac
       intro ac F
       refine Y.pval F (X.w0 rfl) rfl (X.assign rfl (F.ev 42 (.int .i64 ((i : Int) + 1)))) ?_
       clear F ac
       intro ac F
       refine Y.nil ?_
       replace F : Fr ac 91 [(0, .agg #[.int .i64 gr, .int .i64 hold, .slice (some pd15) n nc]), (1, .int .i64 need), (2, .pointer (some ⟨w.heap.size, 0, none⟩)), (4, .int .i64 0), (5, .int .i64 0), (6, .int .i64 0), (7, .int .i64 (cluE gr hold nd)), (8, .int .i64 (bestI (chS nd need s))), (9, .int .i64 ((chS nd need s).l)), (10, .int .i64 s), (11, .int .i64 ((sumC nd s i : Int) + (cv nd i 2))), (12, .bool (!(bitB need i))), (13, .int .i64 ((i : Int) + 1)), (17, .bool false), (27, .bool false), (33, .bool true), (40, .bool true), (51, .bool false)] := F.sub _
       refine X.thenN ?_
       refine ⟨_, ?_, i + 1, rfl, GBB_, by omega, (by rw [show sumC nd s (i + 1) = sumC nd s i + cv nd i 2 from by simp only [sumC]; rw [if_pos h16p], show allC nd need s (i + 1) = !(bitB need i) from by simp [allC, h17, h16p]]; exact F.sub _)⟩
       omega
     | true =>
      try rw [h16] at F
      have h16p : ¬ (andV (cv nd i 0 : Int) (s : Int) : Int) = 0 := by simpa using h16
      refine Y.condT (F.ev 51 (.bool true)) ?_
      refine Y.lit (by kernel_rfl) ?_
      refine Y.pval F (X.w0 rfl) rfl (X.move rfl (F.ev 11 (.int .i64 (sumC nd s i)))) ?_
      clear F ac
      intro ac F
      refine Y.pval F (X.w0 rfl) rfl (X.field rfl (F.ev 2 (.pointer (some ⟨w.heap.size, 0, none⟩))) (X.fld Try.underlying24 rfl (Try.siz22 _) rfl rfl)) ?_
      clear F ac
      intro ac F
      refine Y.pval F (X.w0 rfl) rfl (X.load rfl (F.ev 53 (.pointer (some ⟨w.heap.size, 2, none⟩))) (X.ld1 (Try.agg22 _) (hC.at 2 rfl))) ?_
      clear F ac
      intro ac F
      refine Y.pval F (X.w0 rfl) rfl (X.move rfl (F.ev 13 (.int .i64 i))) ?_
      clear F ac
      intro ac F
      refine Y.pval F (X.w0 rfl) rfl (X.index rfl (F.ev 54 (.slice (some pd15) n nc)) (F.ev 55 (.int .i64 i)) (X.idx (k := i) Try.underlying22 (Try.siz31 _) (by omega) (by omega) rfl)) ?_
      clear F ac
      intro ac F
      refine Y.pval F (X.w0 rfl) rfl (X.field rfl (F.ev 56 (.pointer (some (pd15.add (i * 5))))) (X.fld Try.underlying31 rfl (Try.siz3 _) rfl rfl)) ?_
      clear F ac
      intro ac F
      refine Y.pval F (X.w0 rfl) rfl (X.load rfl (F.ev 57 (.pointer (some (⟨(pd15.add (i * 5)).block, (pd15.add (i * 5)).off + 1, none⟩)))) (X.ld1 (Try.agg3 _) (hC.at 4 rfl))) ?_
      clear F ac
      intro ac F
      refine Y.pval F (X.w0 rfl) rfl (X.binop rfl (F.ev 52 (.int .i64 (sumC nd s i))) (F.ev 58 (.int .i64 (cv nd i 1))) (X.addI Try.underlying3 rfl (by omega) (by omega))) ?_
      clear F ac
      intro ac F
      refine Y.pval F (X.w0 rfl) rfl (X.assign rfl (F.ev 59 (.int .i64 ((sumC nd s i : Int) + (cv nd i 1))))) ?_
      clear F ac
      intro ac F
      refine Y.nil ?_
      replace F : Fr ac 91 [(0, .agg #[.int .i64 gr, .int .i64 hold, .slice (some pd15) n nc]), (1, .int .i64 need), (2, .pointer (some ⟨w.heap.size, 0, none⟩)), (4, .int .i64 0), (5, .int .i64 0), (6, .int .i64 0), (7, .int .i64 (cluE gr hold nd)), (8, .int .i64 (bestI (chS nd need s))), (9, .int .i64 ((chS nd need s).l)), (10, .int .i64 s), (11, .int .i64 ((sumC nd s i : Int) + (cv nd i 1))), (12, .bool (allC nd need s i)), (13, .int .i64 i), (17, .bool false), (27, .bool false), (33, .bool true), (40, .bool true), (51, .bool true)] := F.sub _
      refine X.blockN ?_
      refine X.thenN ?_
      refine Y.lit (by kernel_rfl) ?_
      refine Y.pval F (X.w0 rfl) rfl (X.move rfl (F.ev 13 (.int .i64 i))) ?_
      clear F ac
      intro ac F
      refine Y.pval F (X.w0 rfl) rfl (X.binop rfl (F.ev 41 (.int .i64 i)) (X.kc (.int .i64 1) rfl) (X.addI Try.underlying3 rfl (by omega) (by omega))) ?_
      clear F ac
      intro ac F
      refine Y.pval F (X.w0 rfl) rfl (X.assign rfl (F.ev 42 (.int .i64 ((i : Int) + 1)))) ?_
      clear F ac
      intro ac F
      refine Y.nil ?_
      replace F : Fr ac 91 [(0, .agg #[.int .i64 gr, .int .i64 hold, .slice (some pd15) n nc]), (1, .int .i64 need), (2, .pointer (some ⟨w.heap.size, 0, none⟩)), (4, .int .i64 0), (5, .int .i64 0), (6, .int .i64 0), (7, .int .i64 (cluE gr hold nd)), (8, .int .i64 (bestI (chS nd need s))), (9, .int .i64 ((chS nd need s).l)), (10, .int .i64 s), (11, .int .i64 ((sumC nd s i : Int) + (cv nd i 1))), (12, .bool (allC nd need s i)), (13, .int .i64 ((i : Int) + 1)), (17, .bool false), (27, .bool false), (33, .bool true), (40, .bool true), (51, .bool true)] := F.sub _
      refine X.thenN ?_
      refine ⟨_, ?_, i + 1, rfl, GBB_, by omega, (by rw [show sumC nd s (i + 1) = sumC nd s i + cv nd i 1 from by simp only [sumC]; rw [if_neg h16p], show allC nd need s (i + 1) = allC nd need s i from by simp [allC, h16p]]; exact F.sub _)⟩
      omega
 | true =>
  try rw [h5] at F
  have h5p : ¬ (cluE gr hold nd : Int) = 0 := by simpa using h5
  have hE : ¬ cluE gr hold nd = 0 := by simpa using h5p
  refine Y.condT (F.ev 17 (.bool true)) ?_
  refine Y.seq ?_
  refine Y.lit (by kernel_rfl) ?_
  refine Y.pval F (X.w0 rfl) rfl (X.move rfl (F.ev 7 (.int .i64 (cluE gr hold nd)))) ?_
  clear F ac
  intro ac F
  refine Y.pval F (X.w0 rfl) rfl (X.assign rfl (X.kc (.int .i64 0) rfl)) ?_
  clear F ac
  intro ac F
  refine Y.pval F (X.w0 rfl) rfl (X.assign rfl (X.kc (.int .i64 0) rfl)) ?_
  clear F ac
  intro ac F
  refine Y.pval F (X.w0 rfl) rfl (X.assign rfl (F.ev 18 (.int .i64 (cluE gr hold nd)))) ?_
  clear F ac
  intro ac F
  refine Y.nil ?_
  replace F : Fr ac 91 [(0, .agg #[.int .i64 gr, .int .i64 hold, .slice na n nc]), (1, .int .i64 need), (2, .pointer (some ⟨w.heap.size, 0, none⟩)), (4, .int .i64 0), (5, .int .i64 0), (6, .int .i64 (cluE gr hold nd)), (7, .int .i64 (cluE gr hold nd)), (17, .bool true)] := F.sub _
  refine X.thenN ?_
  refine Y.ret ?_
  refine X.thenR ?_
  have eE : chE gr hold nd need = cluE gr hold nd := by rw [chE, if_pos hE]
  exact Y.ret0 (v := .tuple #[.int .i64 0, .int .i64 0, .int .i64 (cluE gr hold nd)]) F (Y.rs3 F rfl (by kernel_rfl) (by kernel_rfl) (by kernel_rfl)) ⟨by rw [chG, chL, eE, if_neg hE, if_neg hE], G⟩
end
section
open Go.RowKit

set_option maxRecDepth 100000 in
set_option maxHeartbeats 400000 in
theorem same_any (a b : Option Addr) (n c m d : Nat) (xs ys : List Int) (w : World) (hx : Ints w a n xs) (hy : Ints w b m ys) :
  Calls Try.prog 27 #[.slice a n c, .slice b m d] w fun e w' => e = .returned (.bool (decide (xs = ys))) ∧ Gr w w' := by
 have G := Gr.refl w
 have hxl := hx.len
 have hyl := hy.len
 have hlt := hx.lt
 have hlt2 := hy.lt
 refine Y.calls 26 Try.func27 rfl rfl ?_
 intro ac F0
 have F : Fr ac 26 [(0, .slice a n c), (1, .slice b m d)] := F0.sub _
 clear F0
 refine Y.seq ?_
 refine Y.lit (by kernel_rfl) ?_
 refine Y.pval F (X.w0 rfl) rfl (X.assign rfl (X.kc (.bool false) rfl)) ?_
 clear F ac
 intro ac F
 refine Y.nil ?_
 replace F : Fr ac 26 [(0, .slice a n c), (1, .slice b m d), (4, .bool false)] := F.sub _
 refine X.thenN ?_
 refine Y.seq ?_
 refine Y.seq ?_
 refine Y.lit (by kernel_rfl) ?_
 refine Y.pval F (X.w0 rfl) rfl (X.move rfl (F.ev 0 (.slice a n c))) ?_
 clear F ac
 intro ac F
 refine Y.pval F (X.w0 rfl) rfl (X.len1 Try.underlying34 rfl (F.ev 6 (.slice a n c))) ?_
 clear F ac
 intro ac F
 refine Y.pval F (X.w0 rfl) rfl (X.move rfl (F.ev 1 (.slice b m d))) ?_
 clear F ac
 intro ac F
 refine Y.pval F (X.w0 rfl) rfl (X.len1 Try.underlying34 rfl (F.ev 8 (.slice b m d))) ?_
 clear F ac
 intro ac F
 refine Y.pval F (X.w0 rfl) rfl (X.binop rfl (F.ev 7 (.int .i64 n)) (F.ev 9 (.int .i64 m)) (X.neqI Try.underlying3 rfl)) ?_
 clear F ac
 intro ac F
 refine Y.nil ?_
 replace F : Fr ac 26 [(0, .slice a n c), (1, .slice b m d), (4, .bool false), (10, .bool ((n : Int) != m))] := F.sub _
 refine X.thenN ?_
 cases h3 : ((n : Int) != m) with
 | false =>
  try rw [h3] at F
  have h3p : (n : Int) = m := by simpa using h3
  have hnm : m = n := by omega
  have hl2 : xs.length = ys.length := by omega
  refine Y.condF (F.ev 10 (.bool false)) ?_
  refine Y.skip ?_
  refine X.thenN ?_
  refine Y.seq ?_
  refine Y.seq ?_
  refine Y.lit (by kernel_rfl) ?_
  refine Y.pval F (X.w0 rfl) rfl (X.assign rfl (X.kc (.int .i64 0) rfl)) ?_
  clear F ac
  intro ac F
  refine Y.nil ?_
  replace F : Fr ac 26 [(0, .slice a n c), (1, .slice b m d), (4, .bool false), (5, .int .i64 0), (10, .bool false)] := F.sub _
  refine X.thenN ?_
  refine Y.block ?_
  have hxB := hx
  have hyB := hy
  have GB := G
  refine Y.loop (fun me_ ac wr => ∃ (i : Nat), me_ = n - i ∧ Gr w wr ∧ i ≤ n ∧ (∀ j, j < i → xs[j]?.getD 0 = ys[j]?.getD 0) ∧ Fr ac 26 [(0, .slice a n c), (1, .slice b m d), (5, .int .i64 i), (10, .bool false)]) _ ⟨0, rfl, Gr.refl _, Nat.zero_le _, fun j h => by omega, F.sub _⟩ ?_
  clear F
  intro me_ ac w4 hI
  obtain ⟨i, rfl, gr, hi, hsame, F⟩ := hI
  replace G := GB.trans gr
  replace hx := hxB.gr gr
  replace hy := hyB.gr gr
  have GB_ := gr
  clear gr
  refine Y.seq ?_
  refine Y.seq ?_
  refine Y.lit (by kernel_rfl) ?_
  refine Y.pval F (X.w0 rfl) rfl (X.move rfl (F.ev 5 (.int .i64 i))) ?_
  clear F ac
  intro ac F
  refine Y.pval F (X.w0 rfl) rfl (X.move rfl (F.ev 0 (.slice a n c))) ?_
  clear F ac
  intro ac F
  refine Y.pval F (X.w0 rfl) rfl (X.len1 Try.underlying34 rfl (F.ev 12 (.slice a n c))) ?_
  clear F ac
  intro ac F
  refine Y.pval F (X.w0 rfl) rfl (X.binop rfl (F.ev 11 (.int .i64 i)) (F.ev 13 (.int .i64 n)) (X.lssI Try.underlying3 rfl)) ?_
  clear F ac
  intro ac F
  refine Y.nil ?_
  replace F : Fr ac 26 [(0, .slice a n c), (1, .slice b m d), (5, .int .i64 i), (10, .bool false), (14, .bool (decide ((i : Int) < n)))] := F.sub _
  refine X.thenN ?_
  cases h5 : decide ((i : Int) < n) with
  | false =>
   try rw [h5] at F
   have h5p : ¬ ((i : Int) < n) := of_decide_eq_false h5
   have hin : i = n := by omega
   refine Y.condF (F.ev 14 (.bool false)) ?_
   refine Y.exit ?_
   refine X.thenX ?_
   refine X.thenX ?_
   refine X.blockX ?_
   refine X.thenN ?_
   refine Y.seq ?_
   refine Y.lit (by kernel_rfl) ?_
   refine Y.pval F (X.w0 rfl) rfl (X.assign rfl (X.kc (.bool true) rfl)) ?_
   clear F ac
   intro ac F
   refine Y.nil ?_
   replace F : Fr ac 26 [(0, .slice a n c), (1, .slice b m d), (4, .bool true), (5, .int .i64 i), (10, .bool false), (14, .bool false)] := F.sub _
   refine X.thenN ?_
   refine Y.ret ?_
   exact Y.ret0 (v := .bool true) F (Y.rs1 F rfl (by kernel_rfl)) ⟨by rw [same_yes hl2 (fun j hj => hsame j (by omega))], G⟩
  | true =>
   try rw [h5] at F
   have h5p : ((i : Int) < n) := of_decide_eq_true h5
   refine Y.condT (F.ev 14 (.bool true)) ?_
   refine Y.skip ?_
   refine X.thenN ?_
   refine Y.seq ?_
   refine Y.block ?_
   refine Y.seq ?_
   obtain ⟨pd6, pe6, -, pc6⟩ := hx.at (j := i) (by omega)
   subst pe6
   have hC : RCells w4 [(pd6.add i, .int .i64 (xs[i]?.getD 0))] := (RCells.cons pc6 (RCells.nil _))
   clear pc6
   obtain ⟨pd7, pe7, -, pc7⟩ := hy.at (j := i) (by omega)
   subst pe7
   replace hC : RCells w4 [(pd6.add i, .int .i64 (xs[i]?.getD 0)), (pd7.add i, .int .i64 (ys[i]?.getD 0))] := hC.append ((RCells.cons pc7 (RCells.nil _)))
   clear pc7
   refine Y.region F [some (.slice (some pd6) n c), some (.int .i64 i), some (.pointer (some (pd6.add i))), some (.int .i64 (xs[i]?.getD 0)), some (.slice (some pd7) m d), some (.int .i64 i), some (.pointer (some (pd7.add i))), some (.int .i64 (ys[i]?.getD 0)), some (.bool ((xs[i]?.getD 0 : Int) != (ys[i]?.getD 0)))] [] rfl ⟨by kernel_rfl, of_decide_eq_true (by kernel_rfl), by kernel_rfl, by kernel_rfl, by kernel_rfl⟩ ⟨?_, ?_, ?_, ?_, ?_, ?_, ?_, ?_, ?_, trivial⟩ ?_
   ·intro ac done u W Sx hR
    exact X.val (X.w0 rfl) rfl (X.move rfl (Sx.ev 0 (.slice (some pd6) n c))) (hR.step (Gr.refl _) rfl)
   ·intro ac done u W Sx hR
    exact X.val (X.w0 rfl) rfl (X.move rfl (Sx.ev 5 (.int .i64 i))) (hR.step (Gr.refl _) rfl)
   ·intro ac done u W Sx hR
    exact X.val (X.w0 rfl) rfl (X.index rfl (Sx.ev 17 (.slice (some pd6) n c)) (Sx.ev 18 (.int .i64 i)) (X.idx (k := i) Try.underlying34 (Try.siz3 _) (by omega) (by omega) (by rw [Nat.mul_one]))) (hR.step (Gr.refl _) rfl)
   ·intro ac done u W Sx hR
    have g : Gr w4 W := hR.1
    exact X.val (X.w0 rfl) rfl (X.load rfl (Sx.ev 19 (.pointer (some (pd6.add i)))) (X.ld1 (Try.agg3 _) ((hC.gr g).at 0 rfl))) (hR.step (Gr.refl _) rfl)
   ·intro ac done u W Sx hR
    exact X.val (X.w0 rfl) rfl (X.move rfl (Sx.ev 1 (.slice (some pd7) m d))) (hR.step (Gr.refl _) rfl)
   ·intro ac done u W Sx hR
    exact X.val (X.w0 rfl) rfl (X.move rfl (Sx.ev 5 (.int .i64 i))) (hR.step (Gr.refl _) rfl)
   ·intro ac done u W Sx hR
    exact X.val (X.w0 rfl) rfl (X.index rfl (Sx.ev 21 (.slice (some pd7) m d)) (Sx.ev 22 (.int .i64 i)) (X.idx (k := i) Try.underlying34 (Try.siz3 _) (by omega) (by omega) (by rw [Nat.mul_one]))) (hR.step (Gr.refl _) rfl)
   ·intro ac done u W Sx hR
    have g : Gr w4 W := hR.1
    exact X.val (X.w0 rfl) rfl (X.load rfl (Sx.ev 23 (.pointer (some (pd7.add i)))) (X.ld1 (Try.agg3 _) ((hC.gr g).at 1 rfl))) (hR.step (Gr.refl _) rfl)
   ·intro ac done u W Sx hR
    exact X.val (X.w0 rfl) rfl (X.binop rfl (Sx.ev 20 (.int .i64 (xs[i]?.getD 0))) (Sx.ev 24 (.int .i64 (ys[i]?.getD 0))) (X.neqI Try.underlying3 rfl)) (hR.step (Gr.refl _) rfl)
   intro ac u w8 hs hd hl ho hR
   have g : Gr w4 w8 := hR.1
   replace F : Fr ac 26 [(0, .slice (some pd6) n c), (1, .slice (some pd7) m d), (5, .int .i64 i), (10, .bool false), (14, .bool true), (25, .bool ((xs[i]?.getD 0 : Int) != (ys[i]?.getD 0)))] := X.fr hs hd hl _ (by kernel_rfl)
   clear hs hd hl ho hR
   replace G := G.trans g
   replace hC := hC.gr g
   replace GB_ := GB_.trans g
   replace hx := hx.gr g
   replace hy := hy.gr g
   clear g
   refine X.thenN ?_
   cases h9 : ((xs[i]?.getD 0 : Int) != (ys[i]?.getD 0)) with
   | false =>
    try rw [h9] at F
    have h9p : (xs[i]?.getD 0 : Int) = (ys[i]?.getD 0) := by simpa using h9
    refine Y.condF (F.ev 25 (.bool false)) ?_
    refine Y.skip ?_
    refine X.blockN ?_
    refine X.thenN ?_
    refine Y.lit (by kernel_rfl) ?_
    refine Y.pval F (X.w0 rfl) rfl (X.move rfl (F.ev 5 (.int .i64 i))) ?_
    clear F ac
    intro ac F
    refine Y.pval F (X.w0 rfl) rfl (X.binop rfl (F.ev 15 (.int .i64 i)) (X.kc (.int .i64 1) rfl) (X.addI Try.underlying3 rfl (by omega) (by omega))) ?_
    clear F ac
    intro ac F
    refine Y.pval F (X.w0 rfl) rfl (X.assign rfl (F.ev 16 (.int .i64 ((i : Int) + 1)))) ?_
    clear F ac
    intro ac F
    refine Y.nil ?_
    replace F : Fr ac 26 [(0, .slice (some pd6) n c), (1, .slice (some pd7) m d), (5, .int .i64 ((i : Int) + 1)), (10, .bool false), (14, .bool true), (25, .bool false)] := F.sub _
    refine X.thenN ?_
    refine ⟨_, ?_, i + 1, rfl, GB_, by omega, fun j hj => if e : j = i then by rw [e]; exact h9p else hsame j (by omega), F.sub _⟩
    omega
   | true =>
    try rw [h9] at F
    have h9p : ¬ (xs[i]?.getD 0 : Int) = (ys[i]?.getD 0) := by simpa using h9
    refine Y.condT (F.ev 25 (.bool true)) ?_
    refine Y.seq ?_
    refine Y.lit (by kernel_rfl) ?_
    refine Y.pval F (X.w0 rfl) rfl (X.assign rfl (X.kc (.bool false) rfl)) ?_
    clear F ac
    intro ac F
    refine Y.nil ?_
    replace F : Fr ac 26 [(0, .slice (some pd6) n c), (1, .slice (some pd7) m d), (4, .bool false), (5, .int .i64 i), (10, .bool false), (14, .bool true), (25, .bool true)] := F.sub _
    refine X.thenN ?_
    refine Y.ret ?_
    refine X.blockR ?_
    refine X.thenR ?_
    refine X.thenR ?_
    refine X.blockR ?_
    refine X.thenR ?_
    exact Y.ret0 (v := .bool false) F (Y.rs1 F rfl (by kernel_rfl)) ⟨by rw [same_no (by omega) hl2 h9p], G⟩
 | true =>
  try rw [h3] at F
  have h3p : ¬ (n : Int) = m := by simpa using h3
  refine Y.condT (F.ev 10 (.bool true)) ?_
  refine Y.seq ?_
  refine Y.lit (by kernel_rfl) ?_
  refine Y.pval F (X.w0 rfl) rfl (X.assign rfl (X.kc (.bool false) rfl)) ?_
  clear F ac
  intro ac F
  refine Y.nil ?_
  replace F : Fr ac 26 [(0, .slice a n c), (1, .slice b m d), (4, .bool false), (10, .bool true)] := F.sub _
  refine X.thenN ?_
  refine Y.ret ?_
  refine X.thenR ?_
  exact Y.ret0 (v := .bool false) F (Y.rs1 F rfl (by kernel_rfl)) ⟨by rw [show decide (xs = ys) = false by simp only [decide_eq_false_iff_not]; intro e; subst e; omega], G⟩
end
section
open Go.RowKit

theorem st_only {S : Nat → Prop} {w w' : World} {k : Nat} {a : Option Addr} {n : Nat} {L : List (List Int)} (h : StAt w k a n L) (g : Only S w w') (hn : ∀ ad, a = some ad → ¬ S ad.block) : StAt w' k a n L :=
  ⟨h.1, h.2.1, fun j hj => by
    obtain ⟨ad, e, hb, hl, hc⟩ := h.2.2 j hj
    exact ⟨ad, e, Nat.lt_of_lt_of_le hb g.size, hl, fun r hr => g.cell (hc r hr) (by rw [add_block, add_block]; exact hn ad e)⟩⟩
set_option maxRecDepth 100000 in
set_option maxHeartbeats 400000 in
theorem example_any (w : World) :
  Calls Try.prog 43 #[] w fun e w' => ∃ a, e = .returned (.agg #[.int .i64 2, .int .i64 3, .slice a 3 3]) ∧ StAt w' 5 a 3 exN ∧ Gr w w' := by
 have G := Gr.refl w
 refine Y.calls 6 Try.func43 rfl rfl ?_
 intro ac F0
 have F : Fr ac 6 [] := F0.sub _
 clear F0
 refine Y.seq ?_
 refine Y.lit (by kernel_rfl) ?_
 refine Y.pval F (X.w0 rfl) rfl (Y.al rfl (Try.new24 _)) ?_
 clear F ac
 intro ac F
 have g := Gr.alloc w (.cells #[.int .i64 0, .int .i64 0, .slice none 0 0] 24)
 have hb := heap_alloc_new w (.cells #[.int .i64 0, .int .i64 0, .slice none 0 0] 24)
 have hbl : w.heap.size < (w.alloc (.cells #[.int .i64 0, .int .i64 0, .slice none 0 0] 24)).heap.size := by simp
 generalize w.alloc (.cells #[.int .i64 0, .int .i64 0, .slice none 0 0] 24) = w3 at *
 replace G := G.trans g
 have hV := ownP_box (vs := [.int .i64 0, .int .i64 0, .slice none 0 0]) hb
 clear g hb hbl
 have hVl : w.heap.size < w3.heap.size := hV.lt
 refine Y.nil ?_
 replace F : Fr ac 6 [(0, .pointer (some ⟨w.heap.size, 0, none⟩))] := F.sub _
 refine X.thenN ?_
 refine Y.seq ?_
 refine Y.lit (by kernel_rfl) ?_
 refine Y.pval F (X.w0 rfl) rfl (Y.bd rfl rfl (Try.exb1 _)) ?_
 clear F ac
 intro ac F
 refine Y.pval F (X.w0 rfl) rfl (Y.bd rfl rfl (Try.exb2 _)) ?_
 clear F ac
 intro ac F
 refine Y.pval F (X.w0 rfl) rfl (Y.bd rfl rfl (Try.exb3 _)) ?_
 clear F ac
 intro ac F
 refine Y.pval F (X.w0 rfl) rfl (X.bs rfl (Y.b3 (F.ev 1 (.agg #[.int .i64 1, .int .i64 10, .int .i64 1, .int .i64 1, .int .i64 5])) (F.ev 2 (.agg #[.int .i64 3, .int .i64 20, .int .i64 2, .int .i64 2, .int .i64 10])) (F.ev 3 (.agg #[.int .i64 2, .int .i64 30, .int .i64 0, .int .i64 0, .int .i64 1]))) (Try.exs _)) ?_
 clear F ac
 intro ac F
 have g := Gr.alloc w3 (.cells #[.int .i64 1, .int .i64 10, .int .i64 1, .int .i64 1, .int .i64 5, .int .i64 3, .int .i64 20, .int .i64 2, .int .i64 2, .int .i64 10, .int .i64 2, .int .i64 30, .int .i64 0, .int .i64 0, .int .i64 1] 31)
 have hb := heap_alloc_new w3 (.cells #[.int .i64 1, .int .i64 10, .int .i64 1, .int .i64 1, .int .i64 5, .int .i64 3, .int .i64 20, .int .i64 2, .int .i64 2, .int .i64 10, .int .i64 2, .int .i64 30, .int .i64 0, .int .i64 0, .int .i64 1] 31)
 have hbl : w3.heap.size < (w3.alloc (.cells #[.int .i64 1, .int .i64 10, .int .i64 1, .int .i64 1, .int .i64 5, .int .i64 3, .int .i64 20, .int .i64 2, .int .i64 2, .int .i64 10, .int .i64 2, .int .i64 30, .int .i64 0, .int .i64 0, .int .i64 1] 31)).heap.size := by simp
 generalize w3.alloc (.cells #[.int .i64 1, .int .i64 10, .int .i64 1, .int .i64 1, .int .i64 5, .int .i64 3, .int .i64 20, .int .i64 2, .int .i64 2, .int .i64 10, .int .i64 2, .int .i64 30, .int .i64 0, .int .i64 0, .int .i64 1] 31) = w4 at *
 replace G := G.trans g
 replace hV := hV.gr g
 have hexN := exN_at hb
 clear g hb hbl
 refine Y.pval F (X.w0 rfl) rfl (Y.bd rfl (Y.b3 (X.kc (.int .i64 2) rfl) (X.kc (.int .i64 3) rfl) (F.ev 4 (.slice (some ⟨w3.heap.size, 0, none⟩) 3 3))) (Try.exc _ _ _ _ _ _)) ?_
 clear F ac
 intro ac F
 obtain ⟨w5, hrun, hS2, hon⟩ := hV.stL (P := Try.prog) (t := 24) [.int .i64 2, .int .i64 3, .slice (some ⟨w3.heap.size, 0, none⟩) 3 3] rfl (fun W => Try.siz24 W) rfl
 refine Y.punit F (X.w0 rfl) rfl (X.store rfl (F.ev 0 (.pointer (some ⟨w.heap.size, 0, none⟩))) (F.ev 5 (.agg #[.int .i64 2, .int .i64 3, .slice (some ⟨w3.heap.size, 0, none⟩) 3 3])) hrun) ?_
 clear F ac hrun
 intro ac F
 have hexN : StAt w5 5 (some ⟨w3.heap.size, 0, none⟩) 3 exN := st_only hexN hon (fun ad e h => by cases e; exact absurd h (by show ¬ w3.heap.size = w.heap.size; have := hVl; omega))
 replace G := Y.Only.up G hon (Nat.le_refl _)
 replace hV := hS2
 refine Y.nil ?_
 replace F : Fr ac 6 [(0, .pointer (some ⟨w.heap.size, 0, none⟩))] := F.sub _
 refine X.thenN ?_
 refine Y.ret ?_
 exact Y.ret0 (v := .agg #[.int .i64 2, .int .i64 3, .slice (some ⟨w3.heap.size, 0, none⟩) 3 3]) F (Y.rc13 F rfl (Try.agg24 _) (Try.siz24 _) (by kernel_rfl) hV) ⟨_, rfl, hexN, G⟩
set_option maxRecDepth 100000 in
set_option maxHeartbeats 1000000 in
theorem works_any (w : World) :
  Calls Try.prog 16 #[] w fun e w' => e = .returned (.bool true) ∧ Gr w w' := by
 have G := Gr.refl w
 refine Y.calls 40 Try.func16 rfl rfl ?_
 intro ac F0
 have F : Fr ac 40 [] := F0.sub _
 clear F0
 refine Y.seq ?_
 refine Y.lit (by kernel_rfl) ?_
 refine Y.pval F (X.w0 rfl) rfl (X.assign rfl (X.kc (.bool false) rfl)) ?_
 clear F ac
 intro ac F
 refine Y.nil ?_
 replace F : Fr ac 40 [(0, .bool false)] := F.sub _
 refine X.thenN ?_
 refine Y.seq ?_
 refine Y.lit (by kernel_rfl) ?_
 refine Y.pcall F (X.w0 rfl) rfl (X.enter (F := 43) rfl (X.kc (.func (.func 43) #[] #[]) rfl) rfl (enters_of Try.func43 (by kernel_rfl) rfl _)) (example_any w) ?_
 clear F ac
 rintro e w4 ⟨ea3, rfl, hN3, g⟩
 refine ⟨_, rfl, ?_⟩
 intro ac F
 replace G := G.trans g
 clear g
 refine Y.pval F (X.w0 rfl) rfl (Y.bd rfl rfl (Try.exn1 _)) ?_
 clear F ac
 intro ac F
 refine Y.pval F (X.w0 rfl) rfl (Y.bd rfl rfl (Try.exn2 _)) ?_
 clear F ac
 intro ac F
 refine Y.pval F (X.w0 rfl) rfl (X.bs rfl (X.b2 (F.ev 8 (.agg #[.int .i64 1, .int .i64 1, .int .i64 1, .int .i64 0])) (F.ev 9 (.agg #[.int .i64 2, .int .i64 2, .int .i64 1, .int .i64 0]))) (Try.exm _)) ?_
 clear F ac
 intro ac F
 have g := Gr.alloc w4 (.cells #[.int .i64 1, .int .i64 1, .int .i64 1, .int .i64 0, .int .i64 2, .int .i64 2, .int .i64 1, .int .i64 0] 33)
 have hb := heap_alloc_new w4 (.cells #[.int .i64 1, .int .i64 1, .int .i64 1, .int .i64 0, .int .i64 2, .int .i64 2, .int .i64 1, .int .i64 0] 33)
 have hbl : w4.heap.size < (w4.alloc (.cells #[.int .i64 1, .int .i64 1, .int .i64 1, .int .i64 0, .int .i64 2, .int .i64 2, .int .i64 1, .int .i64 0] 33)).heap.size := by simp
 generalize w4.alloc (.cells #[.int .i64 1, .int .i64 1, .int .i64 1, .int .i64 0, .int .i64 2, .int .i64 2, .int .i64 1, .int .i64 0] 33) = w5 at *
 replace G := G.trans g
 replace hN3 := hN3.gr g
 have hexL := exL_at hb
 clear g hb hbl
 refine Y.pcall F (X.w0 rfl) rfl (X.enter (F := 18) rfl (X.kc (.func (.func 18) #[] #[]) rfl) (X.a3 (F.ev 7 (.agg #[.int .i64 2, .int .i64 3, .slice ea3 3 3])) (X.kc (.int .i64 6) rfl) (F.ev 10 (.slice (some ⟨w4.heap.size, 0, none⟩) 2 2))) (enters_of Try.func18 (by kernel_rfl) rfl _)) (play_any ea3 (some ⟨w4.heap.size, 0, none⟩) 3 3 2 2 2 3 6 exN exL w5 hN3 hexL) ?_
 clear F ac
 rintro e w7 ⟨ra, rn, rc, za, zn, zc, rfl, hIr, hIe, g⟩
 rw [ex_pr] at hIr
 rw [ex_en] at hIe
 obtain rfl : 6 = rn := hIr.len
 obtain rfl : 3 = zn := hIe.len
 refine ⟨_, rfl, ?_⟩
 rw [ex_e]
 intro ac F
 replace G := G.trans g
 replace hN3 := hN3.gr g
 replace hexL := hexL.gr g
 clear g
 refine Y.pval F (X.w0 rfl) rfl (X.move rfl (F.ev 11 (.tuple #[.slice ra 6 rc, .slice za 3 zc, .int .i64 0]))) ?_
 clear F ac
 intro ac F
 refine Y.pval F (X.w0 rfl) rfl (X.extract rfl (F.ev 6 (.tuple #[.slice ra 6 rc, .slice za 3 zc, .int .i64 0])) rfl) ?_
 clear F ac
 intro ac F
 refine Y.pval F (X.w0 rfl) rfl (X.extract rfl (F.ev 6 (.tuple #[.slice ra 6 rc, .slice za 3 zc, .int .i64 0])) rfl) ?_
 clear F ac
 intro ac F
 refine Y.pval F (X.w0 rfl) rfl (X.extract rfl (F.ev 6 (.tuple #[.slice ra 6 rc, .slice za 3 zc, .int .i64 0])) rfl) ?_
 clear F ac
 intro ac F
 refine Y.pval F (X.w0 rfl) rfl (X.assign rfl (F.ev 12 (.slice ra 6 rc))) ?_
 clear F ac
 intro ac F
 refine Y.pval F (X.w0 rfl) rfl (X.assign rfl (F.ev 13 (.slice za 3 zc))) ?_
 clear F ac
 intro ac F
 refine Y.pval F (X.w0 rfl) rfl (X.assign rfl (F.ev 14 (.int .i64 0))) ?_
 clear F ac
 intro ac F
 refine Y.nil ?_
 replace F : Fr ac 40 [(0, .bool false), (1, .slice ra 6 rc), (2, .slice za 3 zc), (3, .int .i64 0)] := F.sub _
 refine X.thenN ?_
 refine Y.seq ?_
 refine Y.lit (by kernel_rfl) ?_
 refine Y.pcall F (X.w0 rfl) rfl (X.enter (F := 43) rfl (X.kc (.func (.func 43) #[] #[]) rfl) rfl (enters_of Try.func43 (by kernel_rfl) rfl _)) (example_any w7) ?_
 clear F ac
 rintro e w9 ⟨ea8, rfl, hN8, g⟩
 refine ⟨_, rfl, ?_⟩
 intro ac F
 replace G := G.trans g
 replace hN3 := hN3.gr g
 replace hexL := hexL.gr g
 replace hIr := hIr.gr g
 replace hIe := hIe.gr g
 clear g
 refine Y.pcall F (X.w0 rfl) rfl (X.enter (F := 21) rfl (X.kc (.func (.func 21) #[] #[]) rfl) (X.a2 (F.ev 16 (.agg #[.int .i64 2, .int .i64 3, .slice ea8 3 3])) (X.kc (.int .i64 8) rfl)) (enters_of Try.func21 (by kernel_rfl) rfl _)) (by have h := parked_any ea8 3 3 2 3 8 exN w9 hN8; rw [ex_p, ex_t] at h; exact h) ?_
 clear F ac
 rintro e w11 ⟨rfl, g⟩
 refine ⟨_, rfl, ?_⟩
 intro ac F
 replace G := G.trans g
 replace hN3 := hN3.gr g
 replace hexL := hexL.gr g
 replace hIr := hIr.gr g
 replace hIe := hIe.gr g
 replace hN8 := hN8.gr g
 clear g
 refine Y.pval F (X.w0 rfl) rfl (X.move rfl (F.ev 17 (.tuple #[.int .i64 186, .int .i64 0]))) ?_
 clear F ac
 intro ac F
 refine Y.pval F (X.w0 rfl) rfl (X.extract rfl (F.ev 15 (.tuple #[.int .i64 186, .int .i64 0])) rfl) ?_
 clear F ac
 intro ac F
 refine Y.pval F (X.w0 rfl) rfl (X.extract rfl (F.ev 15 (.tuple #[.int .i64 186, .int .i64 0])) rfl) ?_
 clear F ac
 intro ac F
 refine Y.pval F (X.w0 rfl) rfl (X.assign rfl (F.ev 18 (.int .i64 186))) ?_
 clear F ac
 intro ac F
 refine Y.pval F (X.w0 rfl) rfl (X.assign rfl (F.ev 19 (.int .i64 0))) ?_
 clear F ac
 intro ac F
 refine Y.nil ?_
 replace F : Fr ac 40 [(0, .bool false), (1, .slice ra 6 rc), (2, .slice za 3 zc), (3, .int .i64 0), (4, .int .i64 186), (5, .int .i64 0)] := F.sub _
 refine X.thenN ?_
 refine Y.seq ?_
 refine Y.lit (by kernel_rfl) ?_
 refine Y.pval F (X.w0 rfl) rfl (X.move rfl (F.ev 3 (.int .i64 0))) ?_
 clear F ac
 intro ac F
 refine Y.pval F (X.w0 rfl) rfl (X.binop rfl (F.ev 20 (.int .i64 0)) (X.kc (.int .i64 0) rfl) (X.eqlI Try.underlying26 (show ((0 : Int) == 0) = true by simp))) ?_
 clear F ac
 intro ac F
 refine Y.pval F (X.w0 rfl) rfl (X.move rfl (F.ev 21 (.bool true))) ?_
 clear F ac
 intro ac F
 refine Y.pval F (X.w1 rfl (F.yl (j := 2) (d := 22) (b := true) rfl (by kernel_rfl))) rfl (X.move rfl (F.ev 5 (.int .i64 0))) ?_
 clear F ac
 intro ac F
 refine Y.pval F (X.w1 rfl (F.yl (j := 2) (d := 22) (b := true) rfl (by kernel_rfl))) rfl (X.binop rfl (F.ev 23 (.int .i64 0)) (X.kc (.int .i64 0) rfl) (X.eqlI Try.underlying26 (show ((0 : Int) == 0) = true by simp))) ?_
 clear F ac
 intro ac F
 refine Y.pval F (X.w0 rfl) rfl (X.pickT rfl (F.ev 22 (.bool true)) (F.ev 24 (.bool true))) ?_
 clear F ac
 intro ac F
 refine Y.pval F (X.w0 rfl) rfl (X.move rfl (F.ev 25 (.bool true))) ?_
 clear F ac
 intro ac F
 refine Y.pval F (X.w1 rfl (F.yl (j := 6) (d := 26) (b := true) rfl (by kernel_rfl))) rfl (X.move rfl (F.ev 1 (.slice ra 6 rc))) ?_
 clear F ac
 intro ac F
 refine Y.pval F (X.w1 rfl (F.yl (j := 6) (d := 26) (b := true) rfl (by kernel_rfl))) rfl (X.bs rfl rfl (Try.exr _)) ?_
 clear F ac
 intro ac F
 have g := Gr.alloc w11 (.cells #[.int .i64 0, .int .i64 3, .int .i64 3, .int .i64 3, .int .i64 0, .int .i64 0] 3)
 have hb := heap_alloc_new w11 (.cells #[.int .i64 0, .int .i64 3, .int .i64 3, .int .i64 3, .int .i64 0, .int .i64 0] 3)
 have hbl : w11.heap.size < (w11.alloc (.cells #[.int .i64 0, .int .i64 3, .int .i64 3, .int .i64 3, .int .i64 0, .int .i64 0] 3)).heap.size := by simp
 generalize w11.alloc (.cells #[.int .i64 0, .int .i64 3, .int .i64 3, .int .i64 3, .int .i64 0, .int .i64 0] 3) = w12 at *
 replace G := G.trans g
 replace hN3 := hN3.gr g
 replace hexL := hexL.gr g
 replace hIr := hIr.gr g
 replace hIe := hIe.gr g
 replace hN8 := hN8.gr g
 have hxr := exr_at hb
 clear g hb hbl
 refine Y.pcall F (X.w1 rfl (F.yl (j := 6) (d := 26) (b := true) rfl (by kernel_rfl))) rfl (X.enter (F := 27) rfl (X.kc (.func (.func 27) #[] #[]) rfl) (X.a2 (F.ev 27 (.slice ra 6 rc)) (F.ev 28 (.slice (some ⟨w11.heap.size, 0, none⟩) 6 6))) (enters_of Try.func27 (by kernel_rfl) rfl _)) (by have hq := same_any ra (some ⟨w11.heap.size, 0, none⟩) 6 rc 6 6 ([0, 3, 3, 3, 0, 0]) ([0, 3, 3, 3, 0, 0]) w12 hIr hxr; rw [decide_eq_true rfl] at hq; exact hq) ?_
 clear F ac
 rintro e w14 ⟨rfl, g⟩
 refine ⟨_, rfl, ?_⟩
 intro ac F
 replace G := G.trans g
 replace hN3 := hN3.gr g
 replace hexL := hexL.gr g
 replace hIr := hIr.gr g
 replace hIe := hIe.gr g
 replace hN8 := hN8.gr g
 replace hxr := hxr.gr g
 clear g
 refine Y.pval F (X.w0 rfl) rfl (X.pickT rfl (F.ev 26 (.bool true)) (F.ev 29 (.bool true))) ?_
 clear F ac
 intro ac F
 refine Y.pval F (X.w0 rfl) rfl (X.move rfl (F.ev 30 (.bool true))) ?_
 clear F ac
 intro ac F
 refine Y.pval F (X.w1 rfl (F.yl (j := 11) (d := 31) (b := true) rfl (by kernel_rfl))) rfl (X.move rfl (F.ev 2 (.slice za 3 zc))) ?_
 clear F ac
 intro ac F
 refine Y.pval F (X.w1 rfl (F.yl (j := 11) (d := 31) (b := true) rfl (by kernel_rfl))) rfl (X.bs rfl rfl (Try.exq _)) ?_
 clear F ac
 intro ac F
 have g := Gr.alloc w14 (.cells #[.int .i64 33, .int .i64 66, .int .i64 0] 3)
 have hb := heap_alloc_new w14 (.cells #[.int .i64 33, .int .i64 66, .int .i64 0] 3)
 have hbl : w14.heap.size < (w14.alloc (.cells #[.int .i64 33, .int .i64 66, .int .i64 0] 3)).heap.size := by simp
 generalize w14.alloc (.cells #[.int .i64 33, .int .i64 66, .int .i64 0] 3) = w15 at *
 replace G := G.trans g
 replace hN3 := hN3.gr g
 replace hexL := hexL.gr g
 replace hIr := hIr.gr g
 replace hIe := hIe.gr g
 replace hN8 := hN8.gr g
 replace hxr := hxr.gr g
 have hxq := exq_at hb
 clear g hb hbl
 refine Y.pcall F (X.w1 rfl (F.yl (j := 11) (d := 31) (b := true) rfl (by kernel_rfl))) rfl (X.enter (F := 27) rfl (X.kc (.func (.func 27) #[] #[]) rfl) (X.a2 (F.ev 32 (.slice za 3 zc)) (F.ev 33 (.slice (some ⟨w14.heap.size, 0, none⟩) 3 3))) (enters_of Try.func27 (by kernel_rfl) rfl _)) (by have hq := same_any za (some ⟨w14.heap.size, 0, none⟩) 3 zc 3 3 ([33, 66, 0]) ([33, 66, 0]) w15 hIe hxq; rw [decide_eq_true rfl] at hq; exact hq) ?_
 clear F ac
 rintro e w17 ⟨rfl, g⟩
 refine ⟨_, rfl, ?_⟩
 intro ac F
 replace G := G.trans g
 replace hN3 := hN3.gr g
 replace hexL := hexL.gr g
 replace hIr := hIr.gr g
 replace hIe := hIe.gr g
 replace hN8 := hN8.gr g
 replace hxr := hxr.gr g
 replace hxq := hxq.gr g
 clear g
 refine Y.pval F (X.w0 rfl) rfl (X.pickT rfl (F.ev 31 (.bool true)) (F.ev 34 (.bool true))) ?_
 clear F ac
 intro ac F
 refine Y.pval F (X.w0 rfl) rfl (X.move rfl (F.ev 35 (.bool true))) ?_
 clear F ac
 intro ac F
 refine Y.pval F (X.w1 rfl (F.yl (j := 16) (d := 36) (b := true) rfl (by kernel_rfl))) rfl (X.move rfl (F.ev 4 (.int .i64 186))) ?_
 clear F ac
 intro ac F
 refine Y.pval F (X.w1 rfl (F.yl (j := 16) (d := 36) (b := true) rfl (by kernel_rfl))) rfl (X.binop rfl (F.ev 37 (.int .i64 186)) (X.kc (.int .i64 186) rfl) (X.eqlI Try.underlying3 (show ((186 : Int) == 186) = true by simp))) ?_
 clear F ac
 intro ac F
 refine Y.pval F (X.w0 rfl) rfl (X.pickT rfl (F.ev 36 (.bool true)) (F.ev 38 (.bool true))) ?_
 clear F ac
 intro ac F
 refine Y.pval F (X.w0 rfl) rfl (X.assign rfl (F.ev 39 (.bool true))) ?_
 clear F ac
 intro ac F
 refine Y.nil ?_
 replace F : Fr ac 40 [(0, .bool true), (1, .slice ra 6 rc), (2, .slice za 3 zc), (3, .int .i64 0), (4, .int .i64 186), (5, .int .i64 0)] := F.sub _
 refine X.thenN ?_
 refine Y.ret ?_
 exact Y.ret0 (v := .bool true) F (Y.rs1 F rfl (by kernel_rfl)) ⟨rfl, G⟩
end
section
open Go.RowKit

set_option maxRecDepth 100000 in
set_option maxHeartbeats 1000000 in
theorem chooses_any (na : Option Addr) (n nc : Nat) (gr hold k need : Int) (nd : List (List Int)) (w : World) (hnd : StAt w 5 na n nd) :
  Calls Try.prog 13 #[.agg #[.int .i64 gr, .int .i64 hold, .slice na n nc], .int .i64 k, .int .i64 need] w fun e w' => e = .returned (.bool true) ∧ Gr w w' := by
 have G := Gr.refl w
 have hlen := hnd.len
 have hlt := hnd.lt
 refine Y.calls 83 Try.func13 rfl rfl ?_
 intro ac F0
 have F : Fr ac 83 [(0, .agg #[.int .i64 gr, .int .i64 hold, .slice na n nc]), (1, .int .i64 k), (2, .int .i64 need)] := F0.sub _
 clear F0
 refine Y.seq ?_
 refine Y.lit (by kernel_rfl) ?_
 refine Y.pval F (X.w0 rfl) rfl (X.box rfl (F.ev 0 (.agg #[.int .i64 gr, .int .i64 hold, .slice na n nc])) X.bx) ?_
 clear F ac
 intro ac F
 have g := Gr.alloc w (.cells #[.int .i64 gr, .int .i64 hold, .slice na n nc] 24)
 have hb := heap_alloc_new w (.cells #[.int .i64 gr, .int .i64 hold, .slice na n nc] 24)
 have hbl : w.heap.size < (w.alloc (.cells #[.int .i64 gr, .int .i64 hold, .slice na n nc] 24)).heap.size := by simp
 have hC2 : RCells (w.alloc (.cells #[.int .i64 gr, .int .i64 hold, .slice na n nc] 24)) [(⟨w.heap.size, 0, none⟩, .int .i64 gr), (⟨w.heap.size, 1, none⟩, .int .i64 hold), (⟨w.heap.size, 2, none⟩, .slice na n nc)] := (RCells.nil w).box (b := w.heap.size) #[.int .i64 gr, .int .i64 hold, .slice na n nc] 24 rfl
 generalize w.alloc (.cells #[.int .i64 gr, .int .i64 hold, .slice na n nc] 24) = w3 at *
 replace G := G.trans g
 have hC := hC2
 clear hC2
 replace hnd := hnd.gr g
 clear g hb hbl
 refine Y.pval F (X.w0 rfl) rfl (X.assign rfl (X.kc (.bool false) rfl)) ?_
 clear F ac
 intro ac F
 refine Y.nil ?_
 replace F : Fr ac 83 [(0, .agg #[.int .i64 gr, .int .i64 hold, .slice na n nc]), (1, .int .i64 k), (2, .int .i64 need), (3, .pointer (some ⟨w.heap.size, 0, none⟩)), (6, .bool false)] := F.sub _
 refine X.thenN ?_
 refine Y.seq ?_
 refine Y.lit (by kernel_rfl) ?_
 refine Y.pval F (X.w0 rfl) rfl (X.load rfl (F.ev 3 (.pointer (some ⟨w.heap.size, 0, none⟩))) (X.ldN (Try.agg24 _) (Try.siz24 _) (Y.atz (⟨w.heap.size, 0, none⟩) (Y.AtFrom.cons (hC.at 0 rfl) (Y.AtFrom.cons (hC.at 1 rfl) (Y.AtFrom.cons (hC.at 2 rfl) (Y.AtFrom.nil _ _ _))))))) ?_
 clear F ac
 intro ac F
 refine Y.pval F (X.w0 rfl) rfl (X.move rfl (F.ev 1 (.int .i64 k))) ?_
 clear F ac
 intro ac F
 refine Y.pcall F (X.w0 rfl) rfl (X.enter (F := 36) rfl (X.kc (.func (.func 36) #[] #[]) rfl) (X.a2 (F.ev 16 (.agg #[.int .i64 gr, .int .i64 hold, .slice na n nc])) (F.ev 17 (.int .i64 k))) (enters_of Try.func36 (by kernel_rfl) rfl _)) (members_any na n nc gr hold k nd w3 hnd) ?_
 clear F ac
 rintro e w4 ⟨rfl, g⟩
 refine ⟨_, rfl, ?_⟩
 intro ac F
 replace G := G.trans g
 replace hC := hC.gr g
 replace hnd := hnd.gr g
 clear g
 refine Y.pval F (X.w0 rfl) rfl (X.move rfl (F.ev 18 (.tuple #[.int .i64 (memR gr hold nd k), .int .i64 (memE gr hold nd k)]))) ?_
 clear F ac
 intro ac F
 refine Y.pval F (X.w0 rfl) rfl (X.extract rfl (F.ev 15 (.tuple #[.int .i64 (memR gr hold nd k), .int .i64 (memE gr hold nd k)])) rfl) ?_
 clear F ac
 intro ac F
 refine Y.pval F (X.w0 rfl) rfl (X.extract rfl (F.ev 15 (.tuple #[.int .i64 (memR gr hold nd k), .int .i64 (memE gr hold nd k)])) rfl) ?_
 clear F ac
 intro ac F
 refine Y.pval F (X.w0 rfl) rfl (X.assign rfl (F.ev 19 (.int .i64 (memR gr hold nd k)))) ?_
 clear F ac
 intro ac F
 refine Y.pval F (X.w0 rfl) rfl (X.assign rfl (F.ev 20 (.int .i64 (memE gr hold nd k)))) ?_
 clear F ac
 intro ac F
 refine Y.nil ?_
 replace F : Fr ac 83 [(0, .agg #[.int .i64 gr, .int .i64 hold, .slice na n nc]), (1, .int .i64 k), (2, .int .i64 need), (3, .pointer (some ⟨w.heap.size, 0, none⟩)), (6, .bool false), (7, .int .i64 (memR gr hold nd k)), (8, .int .i64 (memE gr hold nd k))] := F.sub _
 refine X.thenN ?_
 refine Y.seq ?_
 refine Y.lit (by kernel_rfl) ?_
 refine Y.pval F (X.w0 rfl) rfl (X.load rfl (F.ev 3 (.pointer (some ⟨w.heap.size, 0, none⟩))) (X.ldN (Try.agg24 _) (Try.siz24 _) (Y.atz (⟨w.heap.size, 0, none⟩) (Y.AtFrom.cons (hC.at 0 rfl) (Y.AtFrom.cons (hC.at 1 rfl) (Y.AtFrom.cons (hC.at 2 rfl) (Y.AtFrom.nil _ _ _))))))) ?_
 clear F ac
 intro ac F
 refine Y.pval F (X.w0 rfl) rfl (X.move rfl (F.ev 1 (.int .i64 k))) ?_
 clear F ac
 intro ac F
 refine Y.pcall F (X.w0 rfl) rfl (X.enter (F := 37) rfl (X.kc (.func (.func 37) #[] #[]) rfl) (X.a2 (F.ev 22 (.agg #[.int .i64 gr, .int .i64 hold, .slice na n nc])) (F.ev 23 (.int .i64 k))) (enters_of Try.func37 (by kernel_rfl) rfl _)) (members2_any na n nc gr hold k nd w4 hnd) ?_
 clear F ac
 rintro e w5 ⟨rfl, g⟩
 refine ⟨_, rfl, ?_⟩
 intro ac F
 replace G := G.trans g
 replace hC := hC.gr g
 replace hnd := hnd.gr g
 clear g
 refine Y.pval F (X.w0 rfl) rfl (X.move rfl (F.ev 24 (.tuple #[.int .i64 (memR gr hold nd k), .int .i64 (memE gr hold nd k)]))) ?_
 clear F ac
 intro ac F
 refine Y.pval F (X.w0 rfl) rfl (X.extract rfl (F.ev 21 (.tuple #[.int .i64 (memR gr hold nd k), .int .i64 (memE gr hold nd k)])) rfl) ?_
 clear F ac
 intro ac F
 refine Y.pval F (X.w0 rfl) rfl (X.extract rfl (F.ev 21 (.tuple #[.int .i64 (memR gr hold nd k), .int .i64 (memE gr hold nd k)])) rfl) ?_
 clear F ac
 intro ac F
 refine Y.pval F (X.w0 rfl) rfl (X.assign rfl (F.ev 25 (.int .i64 (memR gr hold nd k)))) ?_
 clear F ac
 intro ac F
 refine Y.pval F (X.w0 rfl) rfl (X.assign rfl (F.ev 26 (.int .i64 (memE gr hold nd k)))) ?_
 clear F ac
 intro ac F
 refine Y.nil ?_
 replace F : Fr ac 83 [(0, .agg #[.int .i64 gr, .int .i64 hold, .slice na n nc]), (1, .int .i64 k), (2, .int .i64 need), (3, .pointer (some ⟨w.heap.size, 0, none⟩)), (6, .bool false), (7, .int .i64 (memR gr hold nd k)), (8, .int .i64 (memE gr hold nd k)), (9, .int .i64 (memR gr hold nd k)), (10, .int .i64 (memE gr hold nd k))] := F.sub _
 refine X.thenN ?_
 refine Y.seq ?_
 refine Y.seq ?_
 refine Y.lit (by kernel_rfl) ?_
 refine Y.pval F (X.w0 rfl) rfl (X.move rfl (F.ev 7 (.int .i64 (memR gr hold nd k)))) ?_
 clear F ac
 intro ac F
 refine Y.pval F (X.w0 rfl) rfl (X.move rfl (F.ev 9 (.int .i64 (memR gr hold nd k)))) ?_
 clear F ac
 intro ac F
 refine Y.pval F (X.w0 rfl) rfl (X.binop rfl (F.ev 27 (.int .i64 (memR gr hold nd k))) (F.ev 28 (.int .i64 (memR gr hold nd k))) (X.neqI Try.underlying3 (show ((memR gr hold nd k : Int) != (memR gr hold nd k)) = false by simp))) ?_
 clear F ac
 intro ac F
 refine Y.pval F (X.w0 rfl) rfl (X.move rfl (F.ev 29 (.bool false))) ?_
 clear F ac
 intro ac F
 refine Y.pval F (X.w1 rfl (F.yl (j := 3) (d := 30) (b := false) rfl (by kernel_rfl))) rfl (X.move rfl (F.ev 8 (.int .i64 (memE gr hold nd k)))) ?_
 clear F ac
 intro ac F
 refine Y.pval F (X.w1 rfl (F.yl (j := 3) (d := 30) (b := false) rfl (by kernel_rfl))) rfl (X.move rfl (F.ev 10 (.int .i64 (memE gr hold nd k)))) ?_
 clear F ac
 intro ac F
 refine Y.pval F (X.w1 rfl (F.yl (j := 3) (d := 30) (b := false) rfl (by kernel_rfl))) rfl (X.binop rfl (F.ev 31 (.int .i64 (memE gr hold nd k))) (F.ev 32 (.int .i64 (memE gr hold nd k))) (X.neqI Try.underlying26 (show ((memE gr hold nd k : Int) != (memE gr hold nd k)) = false by simp))) ?_
 clear F ac
 intro ac F
 refine Y.pval F (X.w0 rfl) rfl (X.pickF rfl (F.ev 30 (.bool false)) (F.ev 33 (.bool false))) ?_
 clear F ac
 intro ac F
 refine Y.nil ?_
 replace F : Fr ac 83 [(0, .agg #[.int .i64 gr, .int .i64 hold, .slice na n nc]), (1, .int .i64 k), (2, .int .i64 need), (3, .pointer (some ⟨w.heap.size, 0, none⟩)), (6, .bool false), (7, .int .i64 (memR gr hold nd k)), (8, .int .i64 (memE gr hold nd k)), (9, .int .i64 (memR gr hold nd k)), (10, .int .i64 (memE gr hold nd k)), (34, .bool false)] := F.sub _
 refine X.thenN ?_
 refine Y.condF (F.ev 34 (.bool false)) ?_
 refine Y.skip ?_
 refine X.thenN ?_
 refine Y.seq ?_
 refine Y.lit (by kernel_rfl) ?_
 refine Y.pval F (X.w0 rfl) rfl (X.load rfl (F.ev 3 (.pointer (some ⟨w.heap.size, 0, none⟩))) (X.ldN (Try.agg24 _) (Try.siz24 _) (Y.atz (⟨w.heap.size, 0, none⟩) (Y.AtFrom.cons (hC.at 0 rfl) (Y.AtFrom.cons (hC.at 1 rfl) (Y.AtFrom.cons (hC.at 2 rfl) (Y.AtFrom.nil _ _ _))))))) ?_
 clear F ac
 intro ac F
 refine Y.pval F (X.w0 rfl) rfl (X.move rfl (F.ev 2 (.int .i64 need))) ?_
 clear F ac
 intro ac F
 refine Y.pcall F (X.w0 rfl) rfl (X.enter (F := 35) rfl (X.kc (.func (.func 35) #[] #[]) rfl) (X.a2 (F.ev 36 (.agg #[.int .i64 gr, .int .i64 hold, .slice na n nc])) (F.ev 37 (.int .i64 need))) (enters_of Try.func35 (by kernel_rfl) rfl _)) (choose_any na n nc gr hold need nd w5 hnd) ?_
 clear F ac
 rintro e w6 ⟨rfl, g⟩
 refine ⟨_, rfl, ?_⟩
 intro ac F
 replace G := G.trans g
 replace hC := hC.gr g
 replace hnd := hnd.gr g
 clear g
 refine Y.pval F (X.w0 rfl) rfl (X.move rfl (F.ev 38 (.tuple #[.int .i64 (chG gr hold nd need), .int .i64 (chL gr hold nd need), .int .i64 (chE gr hold nd need)]))) ?_
 clear F ac
 intro ac F
 refine Y.pval F (X.w0 rfl) rfl (X.extract rfl (F.ev 35 (.tuple #[.int .i64 (chG gr hold nd need), .int .i64 (chL gr hold nd need), .int .i64 (chE gr hold nd need)])) rfl) ?_
 clear F ac
 intro ac F
 refine Y.pval F (X.w0 rfl) rfl (X.extract rfl (F.ev 35 (.tuple #[.int .i64 (chG gr hold nd need), .int .i64 (chL gr hold nd need), .int .i64 (chE gr hold nd need)])) rfl) ?_
 clear F ac
 intro ac F
 refine Y.pval F (X.w0 rfl) rfl (X.extract rfl (F.ev 35 (.tuple #[.int .i64 (chG gr hold nd need), .int .i64 (chL gr hold nd need), .int .i64 (chE gr hold nd need)])) rfl) ?_
 clear F ac
 intro ac F
 refine Y.pval F (X.w0 rfl) rfl (X.assign rfl (F.ev 39 (.int .i64 (chG gr hold nd need)))) ?_
 clear F ac
 intro ac F
 refine Y.pval F (X.w0 rfl) rfl (X.assign rfl (F.ev 40 (.int .i64 (chL gr hold nd need)))) ?_
 clear F ac
 intro ac F
 refine Y.pval F (X.w0 rfl) rfl (X.assign rfl (F.ev 41 (.int .i64 (chE gr hold nd need)))) ?_
 clear F ac
 intro ac F
 refine Y.nil ?_
 replace F : Fr ac 83 [(0, .agg #[.int .i64 gr, .int .i64 hold, .slice na n nc]), (1, .int .i64 k), (2, .int .i64 need), (3, .pointer (some ⟨w.heap.size, 0, none⟩)), (6, .bool false), (7, .int .i64 (memR gr hold nd k)), (8, .int .i64 (chE gr hold nd need)), (9, .int .i64 (memR gr hold nd k)), (10, .int .i64 (memE gr hold nd k)), (11, .int .i64 (chG gr hold nd need)), (12, .int .i64 (chL gr hold nd need)), (34, .bool false)] := F.sub _
 refine X.thenN ?_
 refine Y.seq ?_
 refine Y.lit (by kernel_rfl) ?_
 refine Y.pval F (X.w0 rfl) rfl (X.load rfl (F.ev 3 (.pointer (some ⟨w.heap.size, 0, none⟩))) (X.ldN (Try.agg24 _) (Try.siz24 _) (Y.atz (⟨w.heap.size, 0, none⟩) (Y.AtFrom.cons (hC.at 0 rfl) (Y.AtFrom.cons (hC.at 1 rfl) (Y.AtFrom.cons (hC.at 2 rfl) (Y.AtFrom.nil _ _ _))))))) ?_
 clear F ac
 intro ac F
 refine Y.pval F (X.w0 rfl) rfl (X.move rfl (F.ev 2 (.int .i64 need))) ?_
 clear F ac
 intro ac F
 refine Y.pcall F (X.w0 rfl) rfl (X.enter (F := 38) rfl (X.kc (.func (.func 38) #[] #[]) rfl) (X.a2 (F.ev 43 (.agg #[.int .i64 gr, .int .i64 hold, .slice na n nc])) (F.ev 44 (.int .i64 need))) (enters_of Try.func38 (by kernel_rfl) rfl _)) (choose2_any na n nc gr hold need nd w6 hnd) ?_
 clear F ac
 rintro e w7 ⟨rfl, g⟩
 refine ⟨_, rfl, ?_⟩
 intro ac F
 replace G := G.trans g
 replace hC := hC.gr g
 replace hnd := hnd.gr g
 clear g
 refine Y.pval F (X.w0 rfl) rfl (X.move rfl (F.ev 45 (.tuple #[.int .i64 (chG gr hold nd need), .int .i64 (chL gr hold nd need), .int .i64 (chE gr hold nd need)]))) ?_
 clear F ac
 intro ac F
 refine Y.pval F (X.w0 rfl) rfl (X.extract rfl (F.ev 42 (.tuple #[.int .i64 (chG gr hold nd need), .int .i64 (chL gr hold nd need), .int .i64 (chE gr hold nd need)])) rfl) ?_
 clear F ac
 intro ac F
 refine Y.pval F (X.w0 rfl) rfl (X.extract rfl (F.ev 42 (.tuple #[.int .i64 (chG gr hold nd need), .int .i64 (chL gr hold nd need), .int .i64 (chE gr hold nd need)])) rfl) ?_
 clear F ac
 intro ac F
 refine Y.pval F (X.w0 rfl) rfl (X.extract rfl (F.ev 42 (.tuple #[.int .i64 (chG gr hold nd need), .int .i64 (chL gr hold nd need), .int .i64 (chE gr hold nd need)])) rfl) ?_
 clear F ac
 intro ac F
 refine Y.pval F (X.w0 rfl) rfl (X.assign rfl (F.ev 46 (.int .i64 (chG gr hold nd need)))) ?_
 clear F ac
 intro ac F
 refine Y.pval F (X.w0 rfl) rfl (X.assign rfl (F.ev 47 (.int .i64 (chL gr hold nd need)))) ?_
 clear F ac
 intro ac F
 refine Y.pval F (X.w0 rfl) rfl (X.assign rfl (F.ev 48 (.int .i64 (chE gr hold nd need)))) ?_
 clear F ac
 intro ac F
 refine Y.nil ?_
 replace F : Fr ac 83 [(0, .agg #[.int .i64 gr, .int .i64 hold, .slice na n nc]), (1, .int .i64 k), (2, .int .i64 need), (3, .pointer (some ⟨w.heap.size, 0, none⟩)), (6, .bool false), (7, .int .i64 (memR gr hold nd k)), (8, .int .i64 (chE gr hold nd need)), (9, .int .i64 (memR gr hold nd k)), (10, .int .i64 (chE gr hold nd need)), (11, .int .i64 (chG gr hold nd need)), (12, .int .i64 (chL gr hold nd need)), (13, .int .i64 (chG gr hold nd need)), (14, .int .i64 (chL gr hold nd need)), (34, .bool false)] := F.sub _
 refine X.thenN ?_
 refine Y.seq ?_
 refine Y.seq ?_
 refine Y.lit (by kernel_rfl) ?_
 refine Y.pval F (X.w0 rfl) rfl (X.move rfl (F.ev 11 (.int .i64 (chG gr hold nd need)))) ?_
 clear F ac
 intro ac F
 refine Y.pval F (X.w0 rfl) rfl (X.move rfl (F.ev 13 (.int .i64 (chG gr hold nd need)))) ?_
 clear F ac
 intro ac F
 refine Y.pval F (X.w0 rfl) rfl (X.binop rfl (F.ev 49 (.int .i64 (chG gr hold nd need))) (F.ev 50 (.int .i64 (chG gr hold nd need))) (X.neqI Try.underlying3 (show ((chG gr hold nd need : Int) != (chG gr hold nd need)) = false by simp))) ?_
 clear F ac
 intro ac F
 refine Y.pval F (X.w0 rfl) rfl (X.move rfl (F.ev 51 (.bool false))) ?_
 clear F ac
 intro ac F
 refine Y.pval F (X.w1 rfl (F.yl (j := 3) (d := 52) (b := false) rfl (by kernel_rfl))) rfl (X.move rfl (F.ev 12 (.int .i64 (chL gr hold nd need)))) ?_
 clear F ac
 intro ac F
 refine Y.pval F (X.w1 rfl (F.yl (j := 3) (d := 52) (b := false) rfl (by kernel_rfl))) rfl (X.move rfl (F.ev 14 (.int .i64 (chL gr hold nd need)))) ?_
 clear F ac
 intro ac F
 refine Y.pval F (X.w1 rfl (F.yl (j := 3) (d := 52) (b := false) rfl (by kernel_rfl))) rfl (X.binop rfl (F.ev 53 (.int .i64 (chL gr hold nd need))) (F.ev 54 (.int .i64 (chL gr hold nd need))) (X.neqI Try.underlying3 (show ((chL gr hold nd need : Int) != (chL gr hold nd need)) = false by simp))) ?_
 clear F ac
 intro ac F
 refine Y.pval F (X.w0 rfl) rfl (X.pickF rfl (F.ev 52 (.bool false)) (F.ev 55 (.bool false))) ?_
 clear F ac
 intro ac F
 refine Y.pval F (X.w0 rfl) rfl (X.move rfl (F.ev 56 (.bool false))) ?_
 clear F ac
 intro ac F
 refine Y.pval F (X.w1 rfl (F.yl (j := 8) (d := 57) (b := false) rfl (by kernel_rfl))) rfl (X.move rfl (F.ev 8 (.int .i64 (chE gr hold nd need)))) ?_
 clear F ac
 intro ac F
 refine Y.pval F (X.w1 rfl (F.yl (j := 8) (d := 57) (b := false) rfl (by kernel_rfl))) rfl (X.move rfl (F.ev 10 (.int .i64 (chE gr hold nd need)))) ?_
 clear F ac
 intro ac F
 refine Y.pval F (X.w1 rfl (F.yl (j := 8) (d := 57) (b := false) rfl (by kernel_rfl))) rfl (X.binop rfl (F.ev 58 (.int .i64 (chE gr hold nd need))) (F.ev 59 (.int .i64 (chE gr hold nd need))) (X.neqI Try.underlying26 (show ((chE gr hold nd need : Int) != (chE gr hold nd need)) = false by simp))) ?_
 clear F ac
 intro ac F
 refine Y.pval F (X.w0 rfl) rfl (X.pickF rfl (F.ev 57 (.bool false)) (F.ev 60 (.bool false))) ?_
 clear F ac
 intro ac F
 refine Y.nil ?_
 replace F : Fr ac 83 [(0, .agg #[.int .i64 gr, .int .i64 hold, .slice na n nc]), (1, .int .i64 k), (2, .int .i64 need), (3, .pointer (some ⟨w.heap.size, 0, none⟩)), (6, .bool false), (7, .int .i64 (memR gr hold nd k)), (8, .int .i64 (chE gr hold nd need)), (9, .int .i64 (memR gr hold nd k)), (10, .int .i64 (chE gr hold nd need)), (11, .int .i64 (chG gr hold nd need)), (12, .int .i64 (chL gr hold nd need)), (13, .int .i64 (chG gr hold nd need)), (14, .int .i64 (chL gr hold nd need)), (34, .bool false), (61, .bool false)] := F.sub _
 refine X.thenN ?_
 refine Y.condF (F.ev 61 (.bool false)) ?_
 refine Y.skip ?_
 refine X.thenN ?_
 refine Y.seq ?_
 refine Y.lit (by kernel_rfl) ?_
 refine Y.pval F (X.w0 rfl) rfl (X.load rfl (F.ev 3 (.pointer (some ⟨w.heap.size, 0, none⟩))) (X.ldN (Try.agg24 _) (Try.siz24 _) (Y.atz (⟨w.heap.size, 0, none⟩) (Y.AtFrom.cons (hC.at 0 rfl) (Y.AtFrom.cons (hC.at 1 rfl) (Y.AtFrom.cons (hC.at 2 rfl) (Y.AtFrom.nil _ _ _))))))) ?_
 clear F ac
 intro ac F
 refine Y.pcall F (X.w0 rfl) rfl (X.enter (F := 39) rfl (X.kc (.func (.func 39) #[] #[]) rfl) (X.a1 (F.ev 63 (.agg #[.int .i64 gr, .int .i64 hold, .slice na n nc]))) (enters_of Try.func39 (by kernel_rfl) rfl _)) (tol_any na n nc gr hold nd w7 hnd) ?_
 clear F ac
 rintro e w8 ⟨rfl, g⟩
 refine ⟨_, rfl, ?_⟩
 intro ac F
 replace G := G.trans g
 replace hC := hC.gr g
 replace hnd := hnd.gr g
 clear g
 refine Y.pval F (X.w0 rfl) rfl (X.move rfl (F.ev 64 (.tuple #[.int .i64 (tolR gr hold nd), .int .i64 (cluE gr hold nd)]))) ?_
 clear F ac
 intro ac F
 refine Y.pval F (X.w0 rfl) rfl (X.extract rfl (F.ev 62 (.tuple #[.int .i64 (tolR gr hold nd), .int .i64 (cluE gr hold nd)])) rfl) ?_
 clear F ac
 intro ac F
 refine Y.pval F (X.w0 rfl) rfl (X.extract rfl (F.ev 62 (.tuple #[.int .i64 (tolR gr hold nd), .int .i64 (cluE gr hold nd)])) rfl) ?_
 clear F ac
 intro ac F
 refine Y.pval F (X.w0 rfl) rfl (X.assign rfl (F.ev 65 (.int .i64 (tolR gr hold nd)))) ?_
 clear F ac
 intro ac F
 refine Y.pval F (X.w0 rfl) rfl (X.assign rfl (F.ev 66 (.int .i64 (cluE gr hold nd)))) ?_
 clear F ac
 intro ac F
 refine Y.nil ?_
 replace F : Fr ac 83 [(0, .agg #[.int .i64 gr, .int .i64 hold, .slice na n nc]), (1, .int .i64 k), (2, .int .i64 need), (3, .pointer (some ⟨w.heap.size, 0, none⟩)), (6, .bool false), (7, .int .i64 (tolR gr hold nd)), (8, .int .i64 (cluE gr hold nd)), (9, .int .i64 (memR gr hold nd k)), (10, .int .i64 (chE gr hold nd need)), (11, .int .i64 (chG gr hold nd need)), (12, .int .i64 (chL gr hold nd need)), (13, .int .i64 (chG gr hold nd need)), (14, .int .i64 (chL gr hold nd need)), (34, .bool false), (61, .bool false)] := F.sub _
 refine X.thenN ?_
 refine Y.seq ?_
 refine Y.lit (by kernel_rfl) ?_
 refine Y.pval F (X.w0 rfl) rfl (X.load rfl (F.ev 3 (.pointer (some ⟨w.heap.size, 0, none⟩))) (X.ldN (Try.agg24 _) (Try.siz24 _) (Y.atz (⟨w.heap.size, 0, none⟩) (Y.AtFrom.cons (hC.at 0 rfl) (Y.AtFrom.cons (hC.at 1 rfl) (Y.AtFrom.cons (hC.at 2 rfl) (Y.AtFrom.nil _ _ _))))))) ?_
 clear F ac
 intro ac F
 refine Y.pcall F (X.w0 rfl) rfl (X.enter (F := 40) rfl (X.kc (.func (.func 40) #[] #[]) rfl) (X.a1 (F.ev 68 (.agg #[.int .i64 gr, .int .i64 hold, .slice na n nc]))) (enters_of Try.func40 (by kernel_rfl) rfl _)) (tol2_any na n nc gr hold nd w8 hnd) ?_
 clear F ac
 rintro e w9 ⟨rfl, g⟩
 refine ⟨_, rfl, ?_⟩
 intro ac F
 replace G := G.trans g
 replace hC := hC.gr g
 replace hnd := hnd.gr g
 clear g
 refine Y.pval F (X.w0 rfl) rfl (X.move rfl (F.ev 69 (.tuple #[.int .i64 (tolR gr hold nd), .int .i64 (cluE gr hold nd)]))) ?_
 clear F ac
 intro ac F
 refine Y.pval F (X.w0 rfl) rfl (X.extract rfl (F.ev 67 (.tuple #[.int .i64 (tolR gr hold nd), .int .i64 (cluE gr hold nd)])) rfl) ?_
 clear F ac
 intro ac F
 refine Y.pval F (X.w0 rfl) rfl (X.extract rfl (F.ev 67 (.tuple #[.int .i64 (tolR gr hold nd), .int .i64 (cluE gr hold nd)])) rfl) ?_
 clear F ac
 intro ac F
 refine Y.pval F (X.w0 rfl) rfl (X.assign rfl (F.ev 70 (.int .i64 (tolR gr hold nd)))) ?_
 clear F ac
 intro ac F
 refine Y.pval F (X.w0 rfl) rfl (X.assign rfl (F.ev 71 (.int .i64 (cluE gr hold nd)))) ?_
 clear F ac
 intro ac F
 refine Y.nil ?_
 replace F : Fr ac 83 [(0, .agg #[.int .i64 gr, .int .i64 hold, .slice na n nc]), (1, .int .i64 k), (2, .int .i64 need), (3, .pointer (some ⟨w.heap.size, 0, none⟩)), (6, .bool false), (7, .int .i64 (tolR gr hold nd)), (8, .int .i64 (cluE gr hold nd)), (9, .int .i64 (tolR gr hold nd)), (10, .int .i64 (cluE gr hold nd)), (11, .int .i64 (chG gr hold nd need)), (12, .int .i64 (chL gr hold nd need)), (13, .int .i64 (chG gr hold nd need)), (14, .int .i64 (chL gr hold nd need)), (34, .bool false), (61, .bool false)] := F.sub _
 refine X.thenN ?_
 refine Y.seq ?_
 refine Y.lit (by kernel_rfl) ?_
 refine Y.pval F (X.w0 rfl) rfl (X.move rfl (F.ev 7 (.int .i64 (tolR gr hold nd)))) ?_
 clear F ac
 intro ac F
 refine Y.pval F (X.w0 rfl) rfl (X.move rfl (F.ev 9 (.int .i64 (tolR gr hold nd)))) ?_
 clear F ac
 intro ac F
 refine Y.pval F (X.w0 rfl) rfl (X.binop rfl (F.ev 72 (.int .i64 (tolR gr hold nd))) (F.ev 73 (.int .i64 (tolR gr hold nd))) (X.eqlI Try.underlying3 (show ((tolR gr hold nd : Int) == (tolR gr hold nd)) = true by simp))) ?_
 clear F ac
 intro ac F
 refine Y.pval F (X.w0 rfl) rfl (X.move rfl (F.ev 74 (.bool true))) ?_
 clear F ac
 intro ac F
 refine Y.pval F (X.w1 rfl (F.yl (j := 3) (d := 75) (b := true) rfl (by kernel_rfl))) rfl (X.move rfl (F.ev 8 (.int .i64 (cluE gr hold nd)))) ?_
 clear F ac
 intro ac F
 refine Y.pval F (X.w1 rfl (F.yl (j := 3) (d := 75) (b := true) rfl (by kernel_rfl))) rfl (X.move rfl (F.ev 10 (.int .i64 (cluE gr hold nd)))) ?_
 clear F ac
 intro ac F
 refine Y.pval F (X.w1 rfl (F.yl (j := 3) (d := 75) (b := true) rfl (by kernel_rfl))) rfl (X.binop rfl (F.ev 76 (.int .i64 (cluE gr hold nd))) (F.ev 77 (.int .i64 (cluE gr hold nd))) (X.eqlI Try.underlying26 (show ((cluE gr hold nd : Int) == (cluE gr hold nd)) = true by simp))) ?_
 clear F ac
 intro ac F
 refine Y.pval F (X.w0 rfl) rfl (X.pickT rfl (F.ev 75 (.bool true)) (F.ev 78 (.bool true))) ?_
 clear F ac
 intro ac F
 refine Y.pval F (X.w0 rfl) rfl (X.move rfl (F.ev 79 (.bool true))) ?_
 clear F ac
 intro ac F
 refine Y.pcall F (X.w1 rfl (F.yl (j := 8) (d := 80) (b := true) rfl (by kernel_rfl))) rfl (X.enter (F := 16) rfl (X.kc (.func (.func 16) #[] #[]) rfl) rfl (enters_of Try.func16 (by kernel_rfl) rfl _)) (works_any w9) ?_
 clear F ac
 rintro e w10 ⟨rfl, g⟩
 refine ⟨_, rfl, ?_⟩
 intro ac F
 replace G := G.trans g
 replace hC := hC.gr g
 replace hnd := hnd.gr g
 clear g
 refine Y.pval F (X.w0 rfl) rfl (X.pickT rfl (F.ev 80 (.bool true)) (F.ev 81 (.bool true))) ?_
 clear F ac
 intro ac F
 refine Y.pval F (X.w0 rfl) rfl (X.assign rfl (F.ev 82 (.bool true))) ?_
 clear F ac
 intro ac F
 refine Y.nil ?_
 replace F : Fr ac 83 [(0, .agg #[.int .i64 gr, .int .i64 hold, .slice na n nc]), (1, .int .i64 k), (2, .int .i64 need), (3, .pointer (some ⟨w.heap.size, 0, none⟩)), (6, .bool true), (7, .int .i64 (tolR gr hold nd)), (8, .int .i64 (cluE gr hold nd)), (9, .int .i64 (tolR gr hold nd)), (10, .int .i64 (cluE gr hold nd)), (11, .int .i64 (chG gr hold nd need)), (12, .int .i64 (chL gr hold nd need)), (13, .int .i64 (chG gr hold nd need)), (14, .int .i64 (chL gr hold nd need)), (34, .bool false), (61, .bool false)] := F.sub _
 refine X.thenN ?_
 refine Y.ret ?_
 exact Y.ret0 (v := .bool true) F (Y.rs1 F rfl (by kernel_rfl)) ⟨rfl, G⟩
end
end Go.Proofs.Ytoalamakhjbedaa
