/- Several texts of this claim in one file. (1) Contract: the end of a tick. (2) Contract: the run of a play. -/
import Derived.Test.YtoalamakhjbedaaBd3
import Derived.Test.YtoalamakhjbedaaBd11
import Derived.Test.YtoalamakhjbedaaBd12
import Derived.Test.YtoalamakhjbedaaBd13
namespace Go.Proofs.Ytoalamakhjbedaa
section
open Go.RowKit

set_option maxRecDepth 100000 in
set_option maxHeartbeats 1000000 in
theorem pass_any (wB w : World) (bp bn : Nat) (gr hold : Int) (na la pa : Option Addr) (n nc m lc cap : Nat) (l : List (List Int)) (s : PS) (hP : PlE wB w bp bn gr hold na la pa n nc m lc cap l) (hS : OwnP w bn (n * 17) (NV s)) (h16 : n ≤ 16) (hok : SOk n s) :
  Calls Try.prog 73 #[.pointer (some ⟨bp, 0, none⟩)] w fun e w' => e = .returned (.int .i64 (passS n s).2) ∧ Only (fun b => b = bn) w w' ∧ OwnP w' bn (n * 17) (NV (passS n s).1) := by
 have G := Gr.refl w
 have hE := Only.refl (fun b => b = bn) w
 have hC := hP.p
 have hpb := hP.pb
 have hnb := hP.nb
 have hgb := hP.g.size
 have hpe := hP.ne
 have hplt := hP.lt
 have hnlt := hS.lt
 refine Y.calls 58 Try.func73 rfl rfl ?_
 intro ac F0
 have F : Fr ac 58 [(0, .pointer (some ⟨bp, 0, none⟩))] := F0.sub _
 clear F0
 refine Y.seq ?_
 refine Y.lit (by kernel_rfl) ?_
 refine Y.pval F (X.w0 rfl) rfl (X.assign rfl (X.kc (.int .i64 0) rfl)) ?_
 clear F ac
 intro ac F
 refine Y.nil ?_
 replace F : Fr ac 58 [(0, .pointer (some ⟨bp, 0, none⟩)), (2, .int .i64 0)] := F.sub _
 refine X.thenN ?_
 refine Y.seq ?_
 refine Y.seq ?_
 refine Y.lit (by kernel_rfl) ?_
 refine Y.pval F (X.w0 rfl) rfl (X.move rfl (F.ev 0 (.pointer (some ⟨bp, 0, none⟩)))) ?_
 clear F ac
 intro ac F
 refine Y.pval F (X.w0 rfl) rfl (Y.nilC rfl (F.ev 7 (.pointer (some ⟨bp, 0, none⟩)))) ?_
 clear F ac
 intro ac F
 refine Y.pval F (X.w0 rfl) rfl (X.field rfl (F.ev 8 (.pointer (some ⟨bp, 0, none⟩))) (X.fld Try.underlying101 rfl (Try.siz99 _) rfl rfl)) ?_
 clear F ac
 intro ac F
 refine Y.pval F (X.w0 rfl) rfl (X.load rfl (F.ev 9 (.pointer (some ⟨bp, 4, none⟩))) (X.ld1 (Try.agg99 _) (hC.at 4 rfl))) ?_
 clear F ac
 intro ac F
 refine Y.pval F (X.w0 rfl) rfl (X.len1 Try.underlying99 rfl (F.ev 10 (.slice pa n cap))) ?_
 clear F ac
 intro ac F
 refine Y.pval F (X.w0 rfl) rfl (X.move rfl (X.kc (.int .i64 0) rfl)) ?_
 clear F ac
 intro ac F
 refine Y.nil ?_
 replace F : Fr ac 58 [(0, .pointer (some ⟨bp, 0, none⟩)), (2, .int .i64 0), (11, .int .i64 n), (12, .int .i64 0)] := F.sub _
 refine X.thenN ?_
 refine Y.block ?_
 have hE_1 := hE
 have hP_1 := hP
 have hC_1 := hC
 refine Y.loop (fun me_ ac wr => ∃ (i : Nat), me_ = n - i ∧ i ≤ n ∧ Only (fun b => b = bn) w wr ∧ OwnP wr bn (n * 17) (NV ((itN pass2 i (s, 0)).1)) ∧ Fr ac 58 [(0, .pointer (some ⟨bp, 0, none⟩)), (2, .int .i64 ((itN pass2 i (s, 0)).2)), (11, .int .i64 n), (12, .int .i64 i)]) _ ⟨0, rfl, Nat.zero_le _, Only.refl _ _, hS, F.sub _⟩ ?_
 clear F hP hC hS ac hE
 intro me_ ac w3 hI
 obtain ⟨i, rfl, hi, hI1, hS, F⟩ := hI
 have hP := hP_1.on hI1
 have hE := hE_1.trans hI1
 have hC : RCells w3 [(⟨bp, 0, none⟩, .int .i64 gr), (⟨bp, 1, none⟩, .int .i64 hold), (⟨bp, 2, none⟩, .slice na n nc), (⟨bp, 3, none⟩, .slice la m lc), (⟨bp, 4, none⟩, .slice pa n cap)] := (RCells.cons (hI1.cell (hC_1.at 0 rfl) (by show ¬ bp = bn; omega)) (RCells.cons (hI1.cell (hC_1.at 1 rfl) (by show ¬ bp = bn; omega)) (RCells.cons (hI1.cell (hC_1.at 2 rfl) (by show ¬ bp = bn; omega)) (RCells.cons (hI1.cell (hC_1.at 3 rfl) (by show ¬ bp = bn; omega)) (RCells.cons (hI1.cell (hC_1.at 4 rfl) (by show ¬ bp = bn; omega)) (RCells.nil _))))))
 replace G := Gr.refl w3
 refine Y.seq ?_
 refine Y.lit (by kernel_rfl) ?_
 refine Y.pval F (X.w0 rfl) rfl (X.binop rfl (F.ev 12 (.int .i64 i)) (F.ev 11 (.int .i64 n)) (X.lssI Try.underlying3 rfl)) ?_
 clear F ac
 intro ac F
 refine Y.nil ?_
 replace F : Fr ac 58 [(0, .pointer (some ⟨bp, 0, none⟩)), (2, .int .i64 ((itN pass2 i (s, 0)).2)), (11, .int .i64 n), (12, .int .i64 i), (13, .bool (decide ((i : Int) < n)))] := F.sub _
 refine X.thenN ?_
 refine Y.seq ?_
 cases h4 : decide ((i : Int) < n) with
 | false =>
  try rw [h4] at F
  have h4p : ¬ ((i : Int) < n) := of_decide_eq_false h4
  obtain rfl : n = i := by omega
  refine Y.condF (F.ev 13 (.bool false)) ?_
  refine Y.exit ?_
  refine X.thenX ?_
  refine X.thenX ?_
  refine X.blockX ?_
  refine X.thenN ?_
  refine Y.seq ?_
  refine Y.lit (by kernel_rfl) ?_
  refine Y.pval F (X.w0 rfl) rfl (X.move rfl (F.ev 2 (.int .i64 ((itN pass2 n (s, 0)).2)))) ?_
  clear F ac
  intro ac F
  refine Y.pval F (X.w0 rfl) rfl (X.assign rfl (F.ev 57 (.int .i64 ((itN pass2 n (s, 0)).2)))) ?_
  clear F ac
  intro ac F
  refine Y.nil ?_
  replace F : Fr ac 58 [(0, .pointer (some ⟨bp, 0, none⟩)), (2, .int .i64 ((itN pass2 n (s, 0)).2)), (11, .int .i64 n), (12, .int .i64 n), (13, .bool false)] := F.sub _
  refine X.thenN ?_
  refine Y.ret ?_
  exact Y.ret0 (v := .int .i64 ((itN pass2 n (s, 0)).2)) F (Y.rs1 F rfl (by kernel_rfl)) ⟨rfl, hE, hS⟩
 | true =>
  try rw [h4] at F
  have h4p : ((i : Int) < n) := of_decide_eq_true h4
  have hi2 : i < n := by omega
  have hki := hok.pass i (by omega)
  refine Y.condT (F.ev 13 (.bool true)) ?_
  refine Y.skip ?_
  refine X.thenN ?_
  refine Y.seq ?_
  refine Y.block ?_
  refine Y.seq ?_
  refine Y.lit (by kernel_rfl) ?_
  refine Y.pval F (X.w0 rfl) rfl (X.move rfl (F.ev 12 (.int .i64 i))) ?_
  clear F ac
  intro ac F
  refine Y.pval F (X.w0 rfl) rfl (X.assign rfl (F.ev 14 (.int .i64 i))) ?_
  clear F ac
  intro ac F
  refine Y.nil ?_
  replace F : Fr ac 58 [(0, .pointer (some ⟨bp, 0, none⟩)), (2, .int .i64 ((itN pass2 i (s, 0)).2)), (3, .int .i64 i), (11, .int .i64 n), (12, .int .i64 i), (13, .bool true)] := F.sub _
  refine X.thenN ?_
  refine Y.seq ?_
  refine Y.lit (by kernel_rfl) ?_
  refine Y.pval F (X.w0 rfl) rfl (X.move rfl (F.ev 0 (.pointer (some ⟨bp, 0, none⟩)))) ?_
  clear F ac
  intro ac F
  refine Y.pval F (X.w0 rfl) rfl (Y.nilC rfl (F.ev 15 (.pointer (some ⟨bp, 0, none⟩)))) ?_
  clear F ac
  intro ac F
  refine Y.pval F (X.w0 rfl) rfl (X.field rfl (F.ev 16 (.pointer (some ⟨bp, 0, none⟩))) (X.fld Try.underlying101 rfl (Try.siz99 _) rfl rfl)) ?_
  clear F ac
  intro ac F
  refine Y.pval F (X.w0 rfl) rfl (X.load rfl (F.ev 17 (.pointer (some ⟨bp, 4, none⟩))) (X.ld1 (Try.agg99 _) (hC.at 4 rfl))) ?_
  clear F ac
  intro ac F
  refine Y.pval F (X.w0 rfl) rfl (X.move rfl (F.ev 3 (.int .i64 i))) ?_
  clear F ac
  intro ac F
  obtain rfl : pa = some ⟨bn, 0, none⟩ := hP.hpa (by omega)
  refine Y.pval F (X.w0 rfl) rfl (X.index rfl (F.ev 18 (.slice (some ⟨bn, 0, none⟩) n cap)) (F.ev 19 (.int .i64 i)) (X.idx (k := i) Try.underlying99 (Try.siz104 _) (by omega) (by omega) (addr_add0 _ _))) ?_
  clear F ac
  intro ac F
  refine Y.pval F (X.w0 rfl) rfl (X.assign rfl (F.ev 20 (.pointer (some ⟨bn, i * 17, none⟩)))) ?_
  clear F ac
  intro ac F
  refine Y.nil ?_
  replace F : Fr ac 58 [(0, .pointer (some ⟨bp, 0, none⟩)), (2, .int .i64 ((itN pass2 i (s, 0)).2)), (3, .int .i64 i), (4, .pointer (some ⟨bn, i * 17, none⟩)), (11, .int .i64 n), (12, .int .i64 i), (13, .bool true)] := F.sub _
  refine X.thenN ?_
  refine Y.seq ?_
  refine Y.lit (by kernel_rfl) ?_
  refine Y.pval F (X.w0 rfl) rfl (X.move rfl (F.ev 4 (.pointer (some ⟨bn, i * 17, none⟩)))) ?_
  clear F ac
  intro ac F
  refine Y.pval F (X.w0 rfl) rfl (Y.nilC rfl (F.ev 21 (.pointer (some ⟨bn, i * 17, none⟩)))) ?_
  clear F ac
  intro ac F
  refine Y.pval F (X.w0 rfl) rfl (X.field rfl (F.ev 22 (.pointer (some ⟨bn, i * 17, none⟩))) (X.fld Try.underlying104 rfl (Try.siz4 _) rfl rfl)) ?_
  clear F ac
  intro ac F
  refine Y.punit F (X.w0 rfl) rfl (X.store rfl (F.ev 23 (.pointer (some ⟨bn, i * 17 + 16, none⟩))) (X.kc (.bool false) rfl) (hS.st1 (Try.siz4 _) rfl rfl (by omega))) ?_
  clear F ac
  intro ac F
  have hon := Y.set_only w3 bn (i * 17 + 16) (.bool false)
  have hS2 := hS.set (k := i * 17 + 16) (.bool false)
  rw [NV_upB] at hS2
  generalize w3.setCell ⟨bn, i * 17 + 16, none⟩ (.bool false) = w5 at *
  replace hP := hP.on hon
  replace hC : RCells w5 [(⟨bp, 0, none⟩, .int .i64 gr), (⟨bp, 1, none⟩, .int .i64 hold), (⟨bp, 2, none⟩, .slice na n nc), (⟨bp, 3, none⟩, .slice la m lc), (⟨bp, 4, none⟩, .slice (some ⟨bn, 0, none⟩) n cap)] := (RCells.cons (hon.cell (hC.at 0 rfl) (by show ¬ bp = bn; omega)) (RCells.cons (hon.cell (hC.at 1 rfl) (by show ¬ bp = bn; omega)) (RCells.cons (hon.cell (hC.at 2 rfl) (by show ¬ bp = bn; omega)) (RCells.cons (hon.cell (hC.at 3 rfl) (by show ¬ bp = bn; omega)) (RCells.cons (hon.cell (hC.at 4 rfl) (by show ¬ bp = bn; omega)) (RCells.nil _))))))
  replace hE := hE.step hon (.inl rfl)
  replace hI1 := hI1.step hon (.inl rfl)
  replace G := Gr.refl w5
  replace hS : OwnP w5 bn (n * 17) (NV (up ((itN pass2 i (s, 0)).1) i 16 0)) := hS2
  clear hS2 hon
  refine Y.nil ?_
  replace F : Fr ac 58 [(0, .pointer (some ⟨bp, 0, none⟩)), (2, .int .i64 ((itN pass2 i (s, 0)).2)), (3, .int .i64 i), (4, .pointer (some ⟨bn, i * 17, none⟩)), (11, .int .i64 n), (12, .int .i64 i), (13, .bool true)] := F.sub _
  refine X.thenN ?_
  refine Y.seq ?_
  refine Y.seq ?_
  refine Y.lit (by kernel_rfl) ?_
  refine Y.pval F (X.w0 rfl) rfl (X.move rfl (F.ev 4 (.pointer (some ⟨bn, i * 17, none⟩)))) ?_
  clear F ac
  intro ac F
  refine Y.pval F (X.w0 rfl) rfl (Y.nilC rfl (F.ev 24 (.pointer (some ⟨bn, i * 17, none⟩)))) ?_
  clear F ac
  intro ac F
  refine Y.pval F (X.w0 rfl) rfl (X.field rfl (F.ev 25 (.pointer (some ⟨bn, i * 17, none⟩))) (X.fld Try.underlying104 rfl (Try.siz102 _) rfl rfl)) ?_
  clear F ac
  intro ac F
  replace hC : RCells w5 [(⟨bp, 0, none⟩, .int .i64 gr), (⟨bp, 1, none⟩, .int .i64 hold), (⟨bp, 2, none⟩, .slice na n nc), (⟨bp, 3, none⟩, .slice la m lc), (⟨bp, 4, none⟩, .slice (some ⟨bn, 0, none⟩) n cap), (⟨bn, i * 17 + 6, none⟩, .int .i64 ((up ((itN pass2 i (s, 0)).1) i 16 0) i 6))] := hC.append ((RCells.cons ((hS.cell (k := i * 17 + 6) (by omega)).trans (congrArg some (NV_int (up ((itN pass2 i (s, 0)).1) i 16 0) i 6 (by decide)))) (RCells.nil _)))
  replace hC : RCells w5 [(⟨bp, 0, none⟩, .int .i64 gr), (⟨bp, 1, none⟩, .int .i64 hold), (⟨bp, 2, none⟩, .slice na n nc), (⟨bp, 3, none⟩, .slice la m lc), (⟨bp, 4, none⟩, .slice (some ⟨bn, 0, none⟩) n cap), (⟨bn, i * 17 + 6, none⟩, .int .i64 ((up ((itN pass2 i (s, 0)).1) i 16 0) i 6)), (⟨bn, i * 17 + 7, none⟩, .int .i64 ((up ((itN pass2 i (s, 0)).1) i 16 0) i 7))] := hC.append ((RCells.cons ((hS.cell (k := i * 17 + 7) (by omega)).trans (congrArg some (NV_int (up ((itN pass2 i (s, 0)).1) i 16 0) i 7 (by decide)))) (RCells.nil _)))
  replace hC : RCells w5 [(⟨bp, 0, none⟩, .int .i64 gr), (⟨bp, 1, none⟩, .int .i64 hold), (⟨bp, 2, none⟩, .slice na n nc), (⟨bp, 3, none⟩, .slice la m lc), (⟨bp, 4, none⟩, .slice (some ⟨bn, 0, none⟩) n cap), (⟨bn, i * 17 + 6, none⟩, .int .i64 ((up ((itN pass2 i (s, 0)).1) i 16 0) i 6)), (⟨bn, i * 17 + 7, none⟩, .int .i64 ((up ((itN pass2 i (s, 0)).1) i 16 0) i 7)), (⟨bn, i * 17 + 8, none⟩, .int .i64 ((up ((itN pass2 i (s, 0)).1) i 16 0) i 8))] := hC.append ((RCells.cons ((hS.cell (k := i * 17 + 8) (by omega)).trans (congrArg some (NV_int (up ((itN pass2 i (s, 0)).1) i 16 0) i 8 (by decide)))) (RCells.nil _)))
  replace hC : RCells w5 [(⟨bp, 0, none⟩, .int .i64 gr), (⟨bp, 1, none⟩, .int .i64 hold), (⟨bp, 2, none⟩, .slice na n nc), (⟨bp, 3, none⟩, .slice la m lc), (⟨bp, 4, none⟩, .slice (some ⟨bn, 0, none⟩) n cap), (⟨bn, i * 17 + 6, none⟩, .int .i64 ((up ((itN pass2 i (s, 0)).1) i 16 0) i 6)), (⟨bn, i * 17 + 7, none⟩, .int .i64 ((up ((itN pass2 i (s, 0)).1) i 16 0) i 7)), (⟨bn, i * 17 + 8, none⟩, .int .i64 ((up ((itN pass2 i (s, 0)).1) i 16 0) i 8)), (⟨bn, i * 17 + 9, none⟩, .int .i64 ((up ((itN pass2 i (s, 0)).1) i 16 0) i 9))] := hC.append ((RCells.cons ((hS.cell (k := i * 17 + 9) (by omega)).trans (congrArg some (NV_int (up ((itN pass2 i (s, 0)).1) i 16 0) i 9 (by decide)))) (RCells.nil _)))
  replace hC : RCells w5 [(⟨bp, 0, none⟩, .int .i64 gr), (⟨bp, 1, none⟩, .int .i64 hold), (⟨bp, 2, none⟩, .slice na n nc), (⟨bp, 3, none⟩, .slice la m lc), (⟨bp, 4, none⟩, .slice (some ⟨bn, 0, none⟩) n cap), (⟨bn, i * 17 + 6, none⟩, .int .i64 ((up ((itN pass2 i (s, 0)).1) i 16 0) i 6)), (⟨bn, i * 17 + 7, none⟩, .int .i64 ((up ((itN pass2 i (s, 0)).1) i 16 0) i 7)), (⟨bn, i * 17 + 8, none⟩, .int .i64 ((up ((itN pass2 i (s, 0)).1) i 16 0) i 8)), (⟨bn, i * 17 + 9, none⟩, .int .i64 ((up ((itN pass2 i (s, 0)).1) i 16 0) i 9)), (⟨bn, i * 17 + 10, none⟩, .int .i64 ((up ((itN pass2 i (s, 0)).1) i 16 0) i 10))] := hC.append ((RCells.cons ((hS.cell (k := i * 17 + 10) (by omega)).trans (congrArg some (NV_int (up ((itN pass2 i (s, 0)).1) i 16 0) i 10 (by decide)))) (RCells.nil _)))
  replace hC : RCells w5 [(⟨bp, 0, none⟩, .int .i64 gr), (⟨bp, 1, none⟩, .int .i64 hold), (⟨bp, 2, none⟩, .slice na n nc), (⟨bp, 3, none⟩, .slice la m lc), (⟨bp, 4, none⟩, .slice (some ⟨bn, 0, none⟩) n cap), (⟨bn, i * 17 + 6, none⟩, .int .i64 ((up ((itN pass2 i (s, 0)).1) i 16 0) i 6)), (⟨bn, i * 17 + 7, none⟩, .int .i64 ((up ((itN pass2 i (s, 0)).1) i 16 0) i 7)), (⟨bn, i * 17 + 8, none⟩, .int .i64 ((up ((itN pass2 i (s, 0)).1) i 16 0) i 8)), (⟨bn, i * 17 + 9, none⟩, .int .i64 ((up ((itN pass2 i (s, 0)).1) i 16 0) i 9)), (⟨bn, i * 17 + 10, none⟩, .int .i64 ((up ((itN pass2 i (s, 0)).1) i 16 0) i 10)), (⟨bn, i * 17 + 11, none⟩, .int .i64 ((up ((itN pass2 i (s, 0)).1) i 16 0) i 11))] := hC.append ((RCells.cons ((hS.cell (k := i * 17 + 11) (by omega)).trans (congrArg some (NV_int (up ((itN pass2 i (s, 0)).1) i 16 0) i 11 (by decide)))) (RCells.nil _)))
  replace hC : RCells w5 [(⟨bp, 0, none⟩, .int .i64 gr), (⟨bp, 1, none⟩, .int .i64 hold), (⟨bp, 2, none⟩, .slice na n nc), (⟨bp, 3, none⟩, .slice la m lc), (⟨bp, 4, none⟩, .slice (some ⟨bn, 0, none⟩) n cap), (⟨bn, i * 17 + 6, none⟩, .int .i64 ((up ((itN pass2 i (s, 0)).1) i 16 0) i 6)), (⟨bn, i * 17 + 7, none⟩, .int .i64 ((up ((itN pass2 i (s, 0)).1) i 16 0) i 7)), (⟨bn, i * 17 + 8, none⟩, .int .i64 ((up ((itN pass2 i (s, 0)).1) i 16 0) i 8)), (⟨bn, i * 17 + 9, none⟩, .int .i64 ((up ((itN pass2 i (s, 0)).1) i 16 0) i 9)), (⟨bn, i * 17 + 10, none⟩, .int .i64 ((up ((itN pass2 i (s, 0)).1) i 16 0) i 10)), (⟨bn, i * 17 + 11, none⟩, .int .i64 ((up ((itN pass2 i (s, 0)).1) i 16 0) i 11)), (⟨bn, i * 17 + 12, none⟩, .int .i64 ((up ((itN pass2 i (s, 0)).1) i 16 0) i 12))] := hC.append ((RCells.cons ((hS.cell (k := i * 17 + 12) (by omega)).trans (congrArg some (NV_int (up ((itN pass2 i (s, 0)).1) i 16 0) i 12 (by decide)))) (RCells.nil _)))
  replace hC : RCells w5 [(⟨bp, 0, none⟩, .int .i64 gr), (⟨bp, 1, none⟩, .int .i64 hold), (⟨bp, 2, none⟩, .slice na n nc), (⟨bp, 3, none⟩, .slice la m lc), (⟨bp, 4, none⟩, .slice (some ⟨bn, 0, none⟩) n cap), (⟨bn, i * 17 + 6, none⟩, .int .i64 ((up ((itN pass2 i (s, 0)).1) i 16 0) i 6)), (⟨bn, i * 17 + 7, none⟩, .int .i64 ((up ((itN pass2 i (s, 0)).1) i 16 0) i 7)), (⟨bn, i * 17 + 8, none⟩, .int .i64 ((up ((itN pass2 i (s, 0)).1) i 16 0) i 8)), (⟨bn, i * 17 + 9, none⟩, .int .i64 ((up ((itN pass2 i (s, 0)).1) i 16 0) i 9)), (⟨bn, i * 17 + 10, none⟩, .int .i64 ((up ((itN pass2 i (s, 0)).1) i 16 0) i 10)), (⟨bn, i * 17 + 11, none⟩, .int .i64 ((up ((itN pass2 i (s, 0)).1) i 16 0) i 11)), (⟨bn, i * 17 + 12, none⟩, .int .i64 ((up ((itN pass2 i (s, 0)).1) i 16 0) i 12)), (⟨bn, i * 17 + 13, none⟩, .int .i64 ((up ((itN pass2 i (s, 0)).1) i 16 0) i 13))] := hC.append ((RCells.cons ((hS.cell (k := i * 17 + 13) (by omega)).trans (congrArg some (NV_int (up ((itN pass2 i (s, 0)).1) i 16 0) i 13 (by decide)))) (RCells.nil _)))
  replace hC : RCells w5 [(⟨bp, 0, none⟩, .int .i64 gr), (⟨bp, 1, none⟩, .int .i64 hold), (⟨bp, 2, none⟩, .slice na n nc), (⟨bp, 3, none⟩, .slice la m lc), (⟨bp, 4, none⟩, .slice (some ⟨bn, 0, none⟩) n cap), (⟨bn, i * 17 + 6, none⟩, .int .i64 ((up ((itN pass2 i (s, 0)).1) i 16 0) i 6)), (⟨bn, i * 17 + 7, none⟩, .int .i64 ((up ((itN pass2 i (s, 0)).1) i 16 0) i 7)), (⟨bn, i * 17 + 8, none⟩, .int .i64 ((up ((itN pass2 i (s, 0)).1) i 16 0) i 8)), (⟨bn, i * 17 + 9, none⟩, .int .i64 ((up ((itN pass2 i (s, 0)).1) i 16 0) i 9)), (⟨bn, i * 17 + 10, none⟩, .int .i64 ((up ((itN pass2 i (s, 0)).1) i 16 0) i 10)), (⟨bn, i * 17 + 11, none⟩, .int .i64 ((up ((itN pass2 i (s, 0)).1) i 16 0) i 11)), (⟨bn, i * 17 + 12, none⟩, .int .i64 ((up ((itN pass2 i (s, 0)).1) i 16 0) i 12)), (⟨bn, i * 17 + 13, none⟩, .int .i64 ((up ((itN pass2 i (s, 0)).1) i 16 0) i 13)), (⟨bn, i * 17 + 14, none⟩, .int .i64 ((up ((itN pass2 i (s, 0)).1) i 16 0) i 14))] := hC.append ((RCells.cons ((hS.cell (k := i * 17 + 14) (by omega)).trans (congrArg some (NV_int (up ((itN pass2 i (s, 0)).1) i 16 0) i 14 (by decide)))) (RCells.nil _)))
  refine Y.pval F (X.w0 rfl) rfl (X.load rfl (F.ev 26 (.pointer (some ⟨bn, i * 17 + 6, none⟩))) (X.ldN (Try.agg102 _) (Try.siz102 _) (Y.atz (⟨bn, i * 17 + 6, none⟩) (Y.AtFrom.cons (hC.at 5 rfl) (Y.AtFrom.cons (hC.at 6 rfl) (Y.AtFrom.cons (hC.at 7 rfl) (Y.AtFrom.cons (hC.at 8 rfl) (Y.AtFrom.cons (hC.at 9 rfl) (Y.AtFrom.cons (hC.at 10 rfl) (Y.AtFrom.cons (hC.at 11 rfl) (Y.AtFrom.cons (hC.at 12 rfl) (Y.AtFrom.cons (hC.at 13 rfl) (Y.AtFrom.nil _ _ _))))))))))))) ?_
  clear F ac
  intro ac F
  refine Y.pval F (X.w0 rfl) rfl (X.move rfl (X.kc (.int .i64 0) rfl)) ?_
  clear F ac
  intro ac F
  refine Y.nil ?_
  replace F : Fr ac 58 [(0, .pointer (some ⟨bp, 0, none⟩)), (2, .int .i64 ((itN pass2 i (s, 0)).2)), (3, .int .i64 i), (4, .pointer (some ⟨bn, i * 17, none⟩)), (11, .int .i64 n), (12, .int .i64 i), (13, .bool true), (27, .agg #[.int .i64 ((up ((itN pass2 i (s, 0)).1) i 16 0) i 6), .int .i64 ((up ((itN pass2 i (s, 0)).1) i 16 0) i 7), .int .i64 ((up ((itN pass2 i (s, 0)).1) i 16 0) i 8), .int .i64 ((up ((itN pass2 i (s, 0)).1) i 16 0) i 9), .int .i64 ((up ((itN pass2 i (s, 0)).1) i 16 0) i 10), .int .i64 ((up ((itN pass2 i (s, 0)).1) i 16 0) i 11), .int .i64 ((up ((itN pass2 i (s, 0)).1) i 16 0) i 12), .int .i64 ((up ((itN pass2 i (s, 0)).1) i 16 0) i 13), .int .i64 ((up ((itN pass2 i (s, 0)).1) i 16 0) i 14)]), (28, .int .i64 0)] := F.sub _
  refine X.thenN ?_
  refine Y.block ?_
  have hE_2 := hE
  have hI1_2 := hI1
  have hP_2 := hP
  have hC_2 := hC
  refine Y.loop (fun me_ ac wr => ∃ (k : Nat), me_ = 9 - k ∧ k ≤ 9 ∧ Only (fun b => b = bn) w5 wr ∧ OwnP wr bn (n * 17) (NV (itN (pass1 i) k (up (itN pass2 i (s, 0)).1 i 16 0))) ∧ Fr ac 58 [(0, .pointer (some ⟨bp, 0, none⟩)), (2, .int .i64 ((itN pass2 i (s, 0)).2)), (3, .int .i64 i), (4, .pointer (some ⟨bn, i * 17, none⟩)), (11, .int .i64 n), (12, .int .i64 i), (13, .bool true), (27, .agg #[.int .i64 ((up ((itN pass2 i (s, 0)).1) i 16 0) i 6), .int .i64 ((up ((itN pass2 i (s, 0)).1) i 16 0) i 7), .int .i64 ((up ((itN pass2 i (s, 0)).1) i 16 0) i 8), .int .i64 ((up ((itN pass2 i (s, 0)).1) i 16 0) i 9), .int .i64 ((up ((itN pass2 i (s, 0)).1) i 16 0) i 10), .int .i64 ((up ((itN pass2 i (s, 0)).1) i 16 0) i 11), .int .i64 ((up ((itN pass2 i (s, 0)).1) i 16 0) i 12), .int .i64 ((up ((itN pass2 i (s, 0)).1) i 16 0) i 13), .int .i64 ((up ((itN pass2 i (s, 0)).1) i 16 0) i 14)]), (28, .int .i64 k)]) _ ⟨0, rfl, Nat.zero_le _, Only.refl _ _, hS, F.sub _⟩ ?_
  clear F hP hC hS ac hE hI1
  intro me_ ac w6 hI
  obtain ⟨k, rfl, hk9, hI2, hS, F⟩ := hI
  have hP := hP_2.on hI2
  have hE := hE_2.trans hI2
  have hI1 := hI1_2.trans hI2
  have hC : RCells w6 [(⟨bp, 0, none⟩, .int .i64 gr), (⟨bp, 1, none⟩, .int .i64 hold), (⟨bp, 2, none⟩, .slice na n nc), (⟨bp, 3, none⟩, .slice la m lc), (⟨bp, 4, none⟩, .slice (some ⟨bn, 0, none⟩) n cap)] := (RCells.cons (hI2.cell (hC_2.at 0 rfl) (by show ¬ bp = bn; omega)) (RCells.cons (hI2.cell (hC_2.at 1 rfl) (by show ¬ bp = bn; omega)) (RCells.cons (hI2.cell (hC_2.at 2 rfl) (by show ¬ bp = bn; omega)) (RCells.cons (hI2.cell (hC_2.at 3 rfl) (by show ¬ bp = bn; omega)) (RCells.cons (hI2.cell (hC_2.at 4 rfl) (by show ¬ bp = bn; omega)) (RCells.nil _))))))
  replace G := Gr.refl w6
  refine Y.seq ?_
  refine Y.lit (by kernel_rfl) ?_
  refine Y.pval F (X.w0 rfl) rfl (X.binop rfl (F.ev 28 (.int .i64 k)) (X.kc (.int .i64 9) rfl) (X.lssI Try.underlying3 rfl)) ?_
  clear F ac
  intro ac F
  refine Y.nil ?_
  replace F : Fr ac 58 [(0, .pointer (some ⟨bp, 0, none⟩)), (2, .int .i64 ((itN pass2 i (s, 0)).2)), (3, .int .i64 i), (4, .pointer (some ⟨bn, i * 17, none⟩)), (11, .int .i64 n), (12, .int .i64 i), (13, .bool true), (27, .agg #[.int .i64 ((up ((itN pass2 i (s, 0)).1) i 16 0) i 6), .int .i64 ((up ((itN pass2 i (s, 0)).1) i 16 0) i 7), .int .i64 ((up ((itN pass2 i (s, 0)).1) i 16 0) i 8), .int .i64 ((up ((itN pass2 i (s, 0)).1) i 16 0) i 9), .int .i64 ((up ((itN pass2 i (s, 0)).1) i 16 0) i 10), .int .i64 ((up ((itN pass2 i (s, 0)).1) i 16 0) i 11), .int .i64 ((up ((itN pass2 i (s, 0)).1) i 16 0) i 12), .int .i64 ((up ((itN pass2 i (s, 0)).1) i 16 0) i 13), .int .i64 ((up ((itN pass2 i (s, 0)).1) i 16 0) i 14)]), (28, .int .i64 k), (29, .bool (decide ((k : Int) < 9)))] := F.sub _
  refine X.thenN ?_
  refine Y.seq ?_
  cases h7 : decide ((k : Int) < 9) with
  | false =>
   try rw [h7] at F
   have h7p : ¬ ((k : Int) < 9) := of_decide_eq_false h7
   obtain rfl : k = 9 := by omega
   refine Y.condF (F.ev 29 (.bool false)) ?_
   refine Y.exit ?_
   refine X.thenX ?_
   refine X.thenX ?_
   refine X.blockX ?_
   refine X.thenN ?_
   refine Y.seq ?_
   refine Y.lit (by kernel_rfl) ?_
   refine Y.pval F (X.w0 rfl) rfl (X.move rfl (F.ev 4 (.pointer (some ⟨bn, i * 17, none⟩)))) ?_
   clear F ac
   intro ac F
   refine Y.pval F (X.w0 rfl) rfl (Y.nilC rfl (F.ev 48 (.pointer (some ⟨bn, i * 17, none⟩)))) ?_
   clear F ac
   intro ac F
   refine Y.pval F (X.w0 rfl) rfl (X.field rfl (F.ev 49 (.pointer (some ⟨bn, i * 17, none⟩))) (X.fld Try.underlying104 rfl (Try.siz4 _) rfl rfl)) ?_
   clear F ac
   intro ac F
   replace hC : RCells w6 [(⟨bp, 0, none⟩, .int .i64 gr), (⟨bp, 1, none⟩, .int .i64 hold), (⟨bp, 2, none⟩, .slice na n nc), (⟨bp, 3, none⟩, .slice la m lc), (⟨bp, 4, none⟩, .slice (some ⟨bn, 0, none⟩) n cap), (⟨bn, i * 17 + 16, none⟩, .bool (bz ((itN (pass1 i) 9 (up (itN pass2 i (s, 0)).1 i 16 0)) i 16)))] := hC.append ((RCells.cons ((hS.cell (k := i * 17 + 16) (by omega)).trans (congrArg some (NV_bool (itN (pass1 i) 9 (up (itN pass2 i (s, 0)).1 i 16 0)) i))) (RCells.nil _)))
   refine Y.pval F (X.w0 rfl) rfl (X.load rfl (F.ev 50 (.pointer (some ⟨bn, i * 17 + 16, none⟩))) (X.ld1 (Try.agg4 _) (hC.at 5 rfl))) ?_
   clear F ac
   intro ac F
   refine Y.nil ?_
   replace F : Fr ac 58 [(0, .pointer (some ⟨bp, 0, none⟩)), (2, .int .i64 ((itN pass2 i (s, 0)).2)), (3, .int .i64 i), (4, .pointer (some ⟨bn, i * 17, none⟩)), (11, .int .i64 n), (12, .int .i64 i), (13, .bool true), (27, .agg #[.int .i64 ((up ((itN pass2 i (s, 0)).1) i 16 0) i 6), .int .i64 ((up ((itN pass2 i (s, 0)).1) i 16 0) i 7), .int .i64 ((up ((itN pass2 i (s, 0)).1) i 16 0) i 8), .int .i64 ((up ((itN pass2 i (s, 0)).1) i 16 0) i 9), .int .i64 ((up ((itN pass2 i (s, 0)).1) i 16 0) i 10), .int .i64 ((up ((itN pass2 i (s, 0)).1) i 16 0) i 11), .int .i64 ((up ((itN pass2 i (s, 0)).1) i 16 0) i 12), .int .i64 ((up ((itN pass2 i (s, 0)).1) i 16 0) i 13), .int .i64 ((up ((itN pass2 i (s, 0)).1) i 16 0) i 14)]), (28, .int .i64 9), (29, .bool false), (51, .bool (bz ((itN (pass1 i) 9 (up (itN pass2 i (s, 0)).1 i 16 0)) i 16)))] := F.sub _
   refine X.thenN ?_
   cases h8 : bz ((itN (pass1 i) 9 (up (itN pass2 i (s, 0)).1 i 16 0)) i 16) with
   | false =>
    try rw [h8] at F
    have hrow : (itN pass2 (i + 1) (s, 0)).2 = (itN pass2 i (s, 0)).2 := if_pos (show passN i (itN pass2 i (s, 0)).1 i 16 = 0 from bz_false h8)
    refine Y.condF (F.ev 51 (.bool false)) ?_
    refine Y.skip ?_
    refine X.blockN ?_
    refine X.thenN ?_
    refine Y.lit (by kernel_rfl) ?_
    refine Y.pval F (X.w0 rfl) rfl (X.binop rfl (F.ev 12 (.int .i64 i)) (X.kc (.int .i64 1) rfl) (X.addI Try.underlying3 rfl (by omega) (by omega))) ?_
    clear F ac
    intro ac F
    refine Y.pval F (X.w0 rfl) rfl (X.move rfl (F.ev 56 (.int .i64 ((i : Int) + 1)))) ?_
    clear F ac
    intro ac F
    refine Y.nil ?_
    replace F : Fr ac 58 [(0, .pointer (some ⟨bp, 0, none⟩)), (2, .int .i64 ((itN pass2 i (s, 0)).2)), (3, .int .i64 i), (4, .pointer (some ⟨bn, i * 17, none⟩)), (11, .int .i64 n), (12, .int .i64 ((i : Int) + 1)), (13, .bool true), (27, .agg #[.int .i64 ((up ((itN pass2 i (s, 0)).1) i 16 0) i 6), .int .i64 ((up ((itN pass2 i (s, 0)).1) i 16 0) i 7), .int .i64 ((up ((itN pass2 i (s, 0)).1) i 16 0) i 8), .int .i64 ((up ((itN pass2 i (s, 0)).1) i 16 0) i 9), .int .i64 ((up ((itN pass2 i (s, 0)).1) i 16 0) i 10), .int .i64 ((up ((itN pass2 i (s, 0)).1) i 16 0) i 11), .int .i64 ((up ((itN pass2 i (s, 0)).1) i 16 0) i 12), .int .i64 ((up ((itN pass2 i (s, 0)).1) i 16 0) i 13), .int .i64 ((up ((itN pass2 i (s, 0)).1) i 16 0) i 14)]), (28, .int .i64 9), (29, .bool false), (51, .bool false)] := F.sub _
    refine X.thenN ?_
    refine ⟨_, ?_, i + 1, rfl, by omega, hI1, hS, (by rw [hrow]; exact F.sub _)⟩
    omega
   | true =>
    try rw [h8] at F
    have hrow : (itN pass2 (i + 1) (s, 0)).2 = orV (itN pass2 i (s, 0)).2 (shlV 1 i) := if_neg (show ¬ passN i (itN pass2 i (s, 0)).1 i 16 = 0 from bz_true h8)
    refine Y.condT (F.ev 51 (.bool true)) ?_
    refine Y.lit (by kernel_rfl) ?_
    refine Y.pval F (X.w0 rfl) rfl (X.move rfl (F.ev 2 (.int .i64 ((itN pass2 i (s, 0)).2)))) ?_
    clear F ac
    intro ac F
    refine Y.pval F (X.w0 rfl) rfl (X.move rfl (F.ev 3 (.int .i64 i))) ?_
    clear F ac
    intro ac F
    refine Y.pval F (X.w0 rfl) rfl (X.binop rfl (X.kc (.int .i64 1) rfl) (F.ev 53 (.int .i64 i)) (X.shlI Try.underlying3 rfl (by omega))) ?_
    clear F ac
    intro ac F
    refine Y.pval F (X.w0 rfl) rfl (X.binop rfl (F.ev 52 (.int .i64 ((itN pass2 i (s, 0)).2))) (F.ev 54 (.int .i64 (shlV 1 (i : Int)))) (X.orI Try.underlying3 rfl)) ?_
    clear F ac
    intro ac F
    refine Y.pval F (X.w0 rfl) rfl (X.assign rfl (F.ev 55 (.int .i64 (orV ((itN pass2 i (s, 0)).2 : Int) (shlV 1 (i : Int) : Int))))) ?_
    clear F ac
    intro ac F
    refine Y.nil ?_
    replace F : Fr ac 58 [(0, .pointer (some ⟨bp, 0, none⟩)), (2, .int .i64 (orV ((itN pass2 i (s, 0)).2 : Int) (shlV 1 (i : Int) : Int))), (3, .int .i64 i), (4, .pointer (some ⟨bn, i * 17, none⟩)), (11, .int .i64 n), (12, .int .i64 i), (13, .bool true), (27, .agg #[.int .i64 ((up ((itN pass2 i (s, 0)).1) i 16 0) i 6), .int .i64 ((up ((itN pass2 i (s, 0)).1) i 16 0) i 7), .int .i64 ((up ((itN pass2 i (s, 0)).1) i 16 0) i 8), .int .i64 ((up ((itN pass2 i (s, 0)).1) i 16 0) i 9), .int .i64 ((up ((itN pass2 i (s, 0)).1) i 16 0) i 10), .int .i64 ((up ((itN pass2 i (s, 0)).1) i 16 0) i 11), .int .i64 ((up ((itN pass2 i (s, 0)).1) i 16 0) i 12), .int .i64 ((up ((itN pass2 i (s, 0)).1) i 16 0) i 13), .int .i64 ((up ((itN pass2 i (s, 0)).1) i 16 0) i 14)]), (28, .int .i64 9), (29, .bool false), (51, .bool true)] := F.sub _
    refine X.blockN ?_
    refine X.thenN ?_
    refine Y.lit (by kernel_rfl) ?_
    refine Y.pval F (X.w0 rfl) rfl (X.binop rfl (F.ev 12 (.int .i64 i)) (X.kc (.int .i64 1) rfl) (X.addI Try.underlying3 rfl (by omega) (by omega))) ?_
    clear F ac
    intro ac F
    refine Y.pval F (X.w0 rfl) rfl (X.move rfl (F.ev 56 (.int .i64 ((i : Int) + 1)))) ?_
    clear F ac
    intro ac F
    refine Y.nil ?_
    replace F : Fr ac 58 [(0, .pointer (some ⟨bp, 0, none⟩)), (2, .int .i64 (orV ((itN pass2 i (s, 0)).2 : Int) (shlV 1 (i : Int) : Int))), (3, .int .i64 i), (4, .pointer (some ⟨bn, i * 17, none⟩)), (11, .int .i64 n), (12, .int .i64 ((i : Int) + 1)), (13, .bool true), (27, .agg #[.int .i64 ((up ((itN pass2 i (s, 0)).1) i 16 0) i 6), .int .i64 ((up ((itN pass2 i (s, 0)).1) i 16 0) i 7), .int .i64 ((up ((itN pass2 i (s, 0)).1) i 16 0) i 8), .int .i64 ((up ((itN pass2 i (s, 0)).1) i 16 0) i 9), .int .i64 ((up ((itN pass2 i (s, 0)).1) i 16 0) i 10), .int .i64 ((up ((itN pass2 i (s, 0)).1) i 16 0) i 11), .int .i64 ((up ((itN pass2 i (s, 0)).1) i 16 0) i 12), .int .i64 ((up ((itN pass2 i (s, 0)).1) i 16 0) i 13), .int .i64 ((up ((itN pass2 i (s, 0)).1) i 16 0) i 14)]), (28, .int .i64 9), (29, .bool false), (51, .bool true)] := F.sub _
    refine X.thenN ?_
    refine ⟨_, ?_, i + 1, rfl, by omega, hI1, hS, (by rw [hrow]; exact F.sub _)⟩
    omega
  | true =>
   try rw [h7] at F
   have h7p : ((k : Int) < 9) := of_decide_eq_true h7
   refine Y.condT (F.ev 29 (.bool true)) ?_
   refine Y.skip ?_
   refine X.thenN ?_
   refine Y.seq ?_
   refine Y.block ?_
   refine Y.seq ?_
   refine Y.lit (by kernel_rfl) ?_
   refine Y.pval F (X.w0 rfl) rfl (X.move rfl (F.ev 28 (.int .i64 k))) ?_
   clear F ac
   intro ac F
   refine Y.pval F (X.w0 rfl) rfl (Y.inx (vs := [.int .i64 ((up ((itN pass2 i (s, 0)).1) i 16 0) i 6), .int .i64 ((up ((itN pass2 i (s, 0)).1) i 16 0) i 7), .int .i64 ((up ((itN pass2 i (s, 0)).1) i 16 0) i 8), .int .i64 ((up ((itN pass2 i (s, 0)).1) i 16 0) i 9), .int .i64 ((up ((itN pass2 i (s, 0)).1) i 16 0) i 10), .int .i64 ((up ((itN pass2 i (s, 0)).1) i 16 0) i 11), .int .i64 ((up ((itN pass2 i (s, 0)).1) i 16 0) i 12), .int .i64 ((up ((itN pass2 i (s, 0)).1) i 16 0) i 13), .int .i64 ((up ((itN pass2 i (s, 0)).1) i 16 0) i 14)]) (k := k) (v := .int .i64 ((up ((itN pass2 i (s, 0)).1) i 16 0) i (6 + k))) rfl (F.ev 27 (.agg #[.int .i64 ((up ((itN pass2 i (s, 0)).1) i 16 0) i 6), .int .i64 ((up ((itN pass2 i (s, 0)).1) i 16 0) i 7), .int .i64 ((up ((itN pass2 i (s, 0)).1) i 16 0) i 8), .int .i64 ((up ((itN pass2 i (s, 0)).1) i 16 0) i 9), .int .i64 ((up ((itN pass2 i (s, 0)).1) i 16 0) i 10), .int .i64 ((up ((itN pass2 i (s, 0)).1) i 16 0) i 11), .int .i64 ((up ((itN pass2 i (s, 0)).1) i 16 0) i 12), .int .i64 ((up ((itN pass2 i (s, 0)).1) i 16 0) i 13), .int .i64 ((up ((itN pass2 i (s, 0)).1) i 16 0) i 14)])) (F.ev 28 (.int .i64 k)) Try.underlying102 (Try.agg3 _) (Try.siz3 _) (by omega) (by omega) (tm9 ((up ((itN pass2 i (s, 0)).1) i 16 0) i) (by omega))) ?_
   clear F ac
   intro ac F
   refine Y.pval F (X.w0 rfl) rfl (X.assign rfl (F.ev 30 (.int .i64 k))) ?_
   clear F ac
   intro ac F
   refine Y.pval F (X.w0 rfl) rfl (X.assign rfl (F.ev 31 (.int .i64 ((up ((itN pass2 i (s, 0)).1) i 16 0) i (6 + k))))) ?_
   clear F ac
   intro ac F
   refine Y.nil ?_
   replace F : Fr ac 58 [(0, .pointer (some ⟨bp, 0, none⟩)), (2, .int .i64 ((itN pass2 i (s, 0)).2)), (3, .int .i64 i), (4, .pointer (some ⟨bn, i * 17, none⟩)), (5, .int .i64 k), (6, .int .i64 ((up ((itN pass2 i (s, 0)).1) i 16 0) i (6 + k))), (11, .int .i64 n), (12, .int .i64 i), (13, .bool true), (27, .agg #[.int .i64 ((up ((itN pass2 i (s, 0)).1) i 16 0) i 6), .int .i64 ((up ((itN pass2 i (s, 0)).1) i 16 0) i 7), .int .i64 ((up ((itN pass2 i (s, 0)).1) i 16 0) i 8), .int .i64 ((up ((itN pass2 i (s, 0)).1) i 16 0) i 9), .int .i64 ((up ((itN pass2 i (s, 0)).1) i 16 0) i 10), .int .i64 ((up ((itN pass2 i (s, 0)).1) i 16 0) i 11), .int .i64 ((up ((itN pass2 i (s, 0)).1) i 16 0) i 12), .int .i64 ((up ((itN pass2 i (s, 0)).1) i 16 0) i 13), .int .i64 ((up ((itN pass2 i (s, 0)).1) i 16 0) i 14)]), (28, .int .i64 k), (29, .bool true)] := F.sub _
   refine X.thenN ?_
   refine Y.seq ?_
   refine Y.lit (by kernel_rfl) ?_
   refine Y.pval F (X.w0 rfl) rfl (X.move rfl (F.ev 6 (.int .i64 ((up ((itN pass2 i (s, 0)).1) i 16 0) i (6 + k))))) ?_
   clear F ac
   intro ac F
   refine Y.pval F (X.w0 rfl) rfl (X.binop rfl (F.ev 32 (.int .i64 ((up ((itN pass2 i (s, 0)).1) i 16 0) i (6 + k)))) (X.kc (.int .i64 0) rfl) (X.gtrI Try.underlying3 rfl)) ?_
   clear F ac
   intro ac F
   refine Y.nil ?_
   replace F : Fr ac 58 [(0, .pointer (some ⟨bp, 0, none⟩)), (2, .int .i64 ((itN pass2 i (s, 0)).2)), (3, .int .i64 i), (4, .pointer (some ⟨bn, i * 17, none⟩)), (5, .int .i64 k), (6, .int .i64 ((up ((itN pass2 i (s, 0)).1) i 16 0) i (6 + k))), (11, .int .i64 n), (12, .int .i64 i), (13, .bool true), (27, .agg #[.int .i64 ((up ((itN pass2 i (s, 0)).1) i 16 0) i 6), .int .i64 ((up ((itN pass2 i (s, 0)).1) i 16 0) i 7), .int .i64 ((up ((itN pass2 i (s, 0)).1) i 16 0) i 8), .int .i64 ((up ((itN pass2 i (s, 0)).1) i 16 0) i 9), .int .i64 ((up ((itN pass2 i (s, 0)).1) i 16 0) i 10), .int .i64 ((up ((itN pass2 i (s, 0)).1) i 16 0) i 11), .int .i64 ((up ((itN pass2 i (s, 0)).1) i 16 0) i 12), .int .i64 ((up ((itN pass2 i (s, 0)).1) i 16 0) i 13), .int .i64 ((up ((itN pass2 i (s, 0)).1) i 16 0) i 14)]), (28, .int .i64 k), (29, .bool true), (33, .bool (decide ((0 : Int) < ((up ((itN pass2 i (s, 0)).1) i 16 0) i (6 + k)))))] := F.sub _
   refine X.thenN ?_
   cases h9 : decide ((0 : Int) < ((up ((itN pass2 i (s, 0)).1) i 16 0) i (6 + k))) with
   | false =>
    try rw [h9] at F
    have h9p : ¬ ((0 : Int) < ((up ((itN pass2 i (s, 0)).1) i 16 0) i (6 + k))) := of_decide_eq_false h9
    refine Y.condF (F.ev 33 (.bool false)) ?_
    refine Y.skip ?_
    refine X.blockN ?_
    refine X.thenN ?_
    refine Y.lit (by kernel_rfl) ?_
    refine Y.pval F (X.w0 rfl) rfl (X.binop rfl (F.ev 28 (.int .i64 k)) (X.kc (.int .i64 1) rfl) (X.addI Try.underlying3 rfl (by omega) (by omega))) ?_
    clear F ac
    intro ac F
    refine Y.pval F (X.w0 rfl) rfl (X.move rfl (F.ev 47 (.int .i64 ((k : Int) + 1)))) ?_
    clear F ac
    intro ac F
    refine Y.nil ?_
    replace F : Fr ac 58 [(0, .pointer (some ⟨bp, 0, none⟩)), (2, .int .i64 ((itN pass2 i (s, 0)).2)), (3, .int .i64 i), (4, .pointer (some ⟨bn, i * 17, none⟩)), (5, .int .i64 k), (6, .int .i64 ((up ((itN pass2 i (s, 0)).1) i 16 0) i (6 + k))), (11, .int .i64 n), (12, .int .i64 i), (13, .bool true), (27, .agg #[.int .i64 ((up ((itN pass2 i (s, 0)).1) i 16 0) i 6), .int .i64 ((up ((itN pass2 i (s, 0)).1) i 16 0) i 7), .int .i64 ((up ((itN pass2 i (s, 0)).1) i 16 0) i 8), .int .i64 ((up ((itN pass2 i (s, 0)).1) i 16 0) i 9), .int .i64 ((up ((itN pass2 i (s, 0)).1) i 16 0) i 10), .int .i64 ((up ((itN pass2 i (s, 0)).1) i 16 0) i 11), .int .i64 ((up ((itN pass2 i (s, 0)).1) i 16 0) i 12), .int .i64 ((up ((itN pass2 i (s, 0)).1) i 16 0) i 13), .int .i64 ((up ((itN pass2 i (s, 0)).1) i 16 0) i 14)]), (28, .int .i64 ((k : Int) + 1)), (29, .bool true), (33, .bool false)] := F.sub _
    refine X.thenN ?_
    refine ⟨_, ?_, k + 1, rfl, by omega, hI2, (by rw [itN_succ, pass1_neg (by rw [pass_keep (by omega) k (Nat.le_refl _) (by omega)]; omega)]; exact hS), F.sub _⟩
    omega
   | true =>
    try rw [h9] at F
    have h9p : ((0 : Int) < ((up ((itN pass2 i (s, 0)).1) i 16 0) i (6 + k))) := of_decide_eq_true h9
    have hv := ((hki.passN hi2 k (by omega)).up (i := i) (j := 16) (v := 1) (by decide) (by omega)).t i hi2 (6 + k) (by omega) (by omega)
    refine Y.condT (F.ev 33 (.bool true)) ?_
    refine Y.seq ?_
    refine Y.lit (by kernel_rfl) ?_
    refine Y.pval F (X.w0 rfl) rfl (X.move rfl (F.ev 4 (.pointer (some ⟨bn, i * 17, none⟩)))) ?_
    clear F ac
    intro ac F
    refine Y.pval F (X.w0 rfl) rfl (Y.nilC rfl (F.ev 34 (.pointer (some ⟨bn, i * 17, none⟩)))) ?_
    clear F ac
    intro ac F
    refine Y.pval F (X.w0 rfl) rfl (X.field rfl (F.ev 35 (.pointer (some ⟨bn, i * 17, none⟩))) (X.fld Try.underlying104 rfl (Try.siz4 _) rfl rfl)) ?_
    clear F ac
    intro ac F
    refine Y.punit F (X.w0 rfl) rfl (X.store rfl (F.ev 36 (.pointer (some ⟨bn, i * 17 + 16, none⟩))) (X.kc (.bool true) rfl) (hS.st1 (Try.siz4 _) rfl rfl (by omega))) ?_
    clear F ac
    intro ac F
    have hon := Y.set_only w6 bn (i * 17 + 16) (.bool true)
    have hS2 := hS.set (k := i * 17 + 16) (.bool true)
    rw [NV_upB] at hS2
    generalize w6.setCell ⟨bn, i * 17 + 16, none⟩ (.bool true) = w10 at *
    replace hP := hP.on hon
    replace hC : RCells w10 [(⟨bp, 0, none⟩, .int .i64 gr), (⟨bp, 1, none⟩, .int .i64 hold), (⟨bp, 2, none⟩, .slice na n nc), (⟨bp, 3, none⟩, .slice la m lc), (⟨bp, 4, none⟩, .slice (some ⟨bn, 0, none⟩) n cap)] := (RCells.cons (hon.cell (hC.at 0 rfl) (by show ¬ bp = bn; omega)) (RCells.cons (hon.cell (hC.at 1 rfl) (by show ¬ bp = bn; omega)) (RCells.cons (hon.cell (hC.at 2 rfl) (by show ¬ bp = bn; omega)) (RCells.cons (hon.cell (hC.at 3 rfl) (by show ¬ bp = bn; omega)) (RCells.cons (hon.cell (hC.at 4 rfl) (by show ¬ bp = bn; omega)) (RCells.nil _))))))
    replace hE := hE.step hon (.inl rfl)
    replace hI1 := hI1.step hon (.inl rfl)
    replace hI2 := hI2.step hon (.inl rfl)
    replace G := Gr.refl w10
    replace hS : OwnP w10 bn (n * 17) (NV (up (itN (pass1 i) k (up (itN pass2 i (s, 0)).1 i 16 0)) i 16 1)) := hS2
    clear hS2 hon
    refine Y.nil ?_
    replace F : Fr ac 58 [(0, .pointer (some ⟨bp, 0, none⟩)), (2, .int .i64 ((itN pass2 i (s, 0)).2)), (3, .int .i64 i), (4, .pointer (some ⟨bn, i * 17, none⟩)), (5, .int .i64 k), (6, .int .i64 ((up ((itN pass2 i (s, 0)).1) i 16 0) i (6 + k))), (11, .int .i64 n), (12, .int .i64 i), (13, .bool true), (27, .agg #[.int .i64 ((up ((itN pass2 i (s, 0)).1) i 16 0) i 6), .int .i64 ((up ((itN pass2 i (s, 0)).1) i 16 0) i 7), .int .i64 ((up ((itN pass2 i (s, 0)).1) i 16 0) i 8), .int .i64 ((up ((itN pass2 i (s, 0)).1) i 16 0) i 9), .int .i64 ((up ((itN pass2 i (s, 0)).1) i 16 0) i 10), .int .i64 ((up ((itN pass2 i (s, 0)).1) i 16 0) i 11), .int .i64 ((up ((itN pass2 i (s, 0)).1) i 16 0) i 12), .int .i64 ((up ((itN pass2 i (s, 0)).1) i 16 0) i 13), .int .i64 ((up ((itN pass2 i (s, 0)).1) i 16 0) i 14)]), (28, .int .i64 k), (29, .bool true), (33, .bool true)] := F.sub _
    refine X.thenN ?_
    replace hC : RCells w10 [(⟨bp, 0, none⟩, .int .i64 gr), (⟨bp, 1, none⟩, .int .i64 hold), (⟨bp, 2, none⟩, .slice na n nc), (⟨bp, 3, none⟩, .slice la m lc), (⟨bp, 4, none⟩, .slice (some ⟨bn, 0, none⟩) n cap), (⟨bn, i * 17 + 6 + k, none⟩, .int .i64 ((up (itN (pass1 i) k (up (itN pass2 i (s, 0)).1 i 16 0)) i 16 1) i (6 + k)))] := hC.append ((RCells.cons ((hS.cell (k := i * 17 + 6 + k) (by omega)).trans (congrArg some (NV_tm (up (itN (pass1 i) k (up (itN pass2 i (s, 0)).1 i 16 0)) i 16 1) i k (by omega)))) (RCells.nil _)))
    refine Y.regionS F [some (.pointer (some ⟨bn, i * 17, none⟩)), some (.int .i64 k), some (.pointer (some ⟨bn, i * 17, none⟩)), some (.pointer (some ⟨bn, i * 17 + 6, none⟩)), some (.pointer (some ⟨bn, i * 17 + 6 + k, none⟩)), some (.int .i64 ((up (itN (pass1 i) k (up (itN pass2 i (s, 0)).1 i 16 0)) i 16 1) i (6 + k))), some (.int .i64 (((up (itN (pass1 i) k (up (itN pass2 i (s, 0)).1 i 16 0)) i 16 1) i (6 + k) : Int) - 1)), some (.pointer (some ⟨bn, i * 17, none⟩)), some (.pointer (some ⟨bn, i * 17 + 6, none⟩)), some (.pointer (some ⟨bn, i * 17 + 6 + k, none⟩)), none] [] 10 (fun _ W => Only (fun x => x = bn) w10 W ∧ OwnP W bn (n * 17) (NV (up (up (itN (pass1 i) k (up (itN pass2 i (s, 0)).1 i 16 0)) i 16 1) i (6 + k) (((up (itN (pass1 i) k (up (itN pass2 i (s, 0)).1 i 16 0)) i 16 1) i (6 + k) : Int) - 1)))) rfl ⟨by kernel_rfl, of_decide_eq_true (by kernel_rfl), by kernel_rfl, by kernel_rfl, by kernel_rfl⟩ (of_decide_eq_true (by kernel_rfl)) ⟨?_, ?_, ?_, ?_, ?_, ?_, ?_, ?_, ?_, ?_, ?_, trivial⟩ ?_
    ·intro ac done u W Sx hT
     have hs := Sx.no 10 (by kernel_rfl)
     have hR := hT.1 hs
     exact X.val (X.w0 rfl) rfl (X.move rfl (Sx.ev 4 (.pointer (some ⟨bn, i * 17, none⟩)))) (Y.RT.of hs rfl (hR.step (Gr.refl _) rfl))
    ·intro ac done u W Sx hT
     have hs := Sx.no 10 (by kernel_rfl)
     have hR := hT.1 hs
     exact X.val (X.w0 rfl) rfl (X.move rfl (Sx.ev 5 (.int .i64 k))) (Y.RT.of hs rfl (hR.step (Gr.refl _) rfl))
    ·intro ac done u W Sx hT
     have hs := Sx.no 10 (by kernel_rfl)
     have hR := hT.1 hs
     exact X.val (X.w0 rfl) rfl (Y.nilC rfl (Sx.ev 37 (.pointer (some ⟨bn, i * 17, none⟩)))) (Y.RT.of hs rfl (hR.step (Gr.refl _) rfl))
    ·intro ac done u W Sx hT
     have hs := Sx.no 10 (by kernel_rfl)
     have hR := hT.1 hs
     exact X.val (X.w0 rfl) rfl (X.field rfl (Sx.ev 39 (.pointer (some ⟨bn, i * 17, none⟩))) (X.fld Try.underlying104 rfl (Try.siz102 _) rfl rfl)) (Y.RT.of hs rfl (hR.step (Gr.refl _) rfl))
    ·intro ac done u W Sx hT
     have hs := Sx.no 10 (by kernel_rfl)
     have hR := hT.1 hs
     exact X.val (X.w0 rfl) rfl (X.index rfl (Sx.ev 40 (.pointer (some ⟨bn, i * 17 + 6, none⟩))) (Sx.ev 38 (.int .i64 k)) (Y.idxA (k := k) Try.underlying102 (Try.siz3 _) (by decide) (by omega) (by omega) (by rw [Nat.mul_one]; exact Y.addr_add _ _ _))) (Y.RT.of hs rfl (hR.step (Gr.refl _) rfl))
    ·intro ac done u W Sx hT
     have hs := Sx.no 10 (by kernel_rfl)
     have hR := hT.1 hs
     have g : Gr w10 W := hR.1
     exact X.val (X.w0 rfl) rfl (X.load rfl (Sx.ev 41 (.pointer (some ⟨bn, i * 17 + 6 + k, none⟩))) (X.ld1 (Try.agg3 _) ((hC.gr g).at 5 rfl))) (Y.RT.of hs rfl (hR.step (Gr.refl _) rfl))
    ·intro ac done u W Sx hT
     have hs := Sx.no 10 (by kernel_rfl)
     have hR := hT.1 hs
     exact X.val (X.w0 rfl) rfl (X.binop rfl (Sx.ev 42 (.int .i64 ((up (itN (pass1 i) k (up (itN pass2 i (s, 0)).1 i 16 0)) i 16 1) i (6 + k)))) (X.kc (.int .i64 1) rfl) (X.subI Try.underlying3 rfl (by omega) (by omega))) (Y.RT.of hs rfl (hR.step (Gr.refl _) rfl))
    ·intro ac done u W Sx hT
     have hs := Sx.no 10 (by kernel_rfl)
     have hR := hT.1 hs
     exact X.val (X.w0 rfl) rfl (Y.nilC rfl (Sx.ev 37 (.pointer (some ⟨bn, i * 17, none⟩)))) (Y.RT.of hs rfl (hR.step (Gr.refl _) rfl))
    ·intro ac done u W Sx hT
     have hs := Sx.no 10 (by kernel_rfl)
     have hR := hT.1 hs
     exact X.val (X.w0 rfl) rfl (X.field rfl (Sx.ev 44 (.pointer (some ⟨bn, i * 17, none⟩))) (X.fld Try.underlying104 rfl (Try.siz102 _) rfl rfl)) (Y.RT.of hs rfl (hR.step (Gr.refl _) rfl))
    ·intro ac done u W Sx hT
     have hs := Sx.no 10 (by kernel_rfl)
     have hR := hT.1 hs
     exact X.val (X.w0 rfl) rfl (X.index rfl (Sx.ev 45 (.pointer (some ⟨bn, i * 17 + 6, none⟩))) (Sx.ev 38 (.int .i64 k)) (Y.idxA (k := k) Try.underlying102 (Try.siz3 _) (by decide) (by omega) (by omega) (by rw [Nat.mul_one]; exact Y.addr_add _ _ _))) (Y.RT.of hs rfl (hR.step (Gr.refl _) rfl))
    ·intro ac done u W Sx hT
     have hR := hT.1 Sx.nd
     have g : Gr w10 W := hR.1
     have hS2 := (hS.gr g).set (k := i * 17 + 6 + k) (.int .i64 (((up (itN (pass1 i) k (up (itN pass2 i (s, 0)).1 i 16 0)) i 16 1) i (6 + k) : Int) - 1))
     rw [NV_upt _ _ _ (by omega)] at hS2
     exact X.unit (X.w0 rfl) rfl (X.store rfl (Sx.ev 46 (.pointer (some ⟨bn, i * 17 + 6 + k, none⟩))) (Sx.ev 43 (.int .i64 (((up (itN (pass1 i) k (up (itN pass2 i (s, 0)).1 i 16 0)) i 16 1) i (6 + k) : Int) - 1))) ((hS.gr g).st1 (Try.siz3 _) rfl rfl (by omega))) (Y.RT.fin ⟨(g.only _).trans (Y.set_only _ _ _ _), hS2⟩)
    rintro ac u w11 hs hd hl_ ho ⟨hon, hS2⟩
    replace F : Fr ac 58 [(0, .pointer (some ⟨bp, 0, none⟩)), (2, .int .i64 ((itN pass2 i (s, 0)).2)), (3, .int .i64 i), (4, .pointer (some ⟨bn, i * 17, none⟩)), (5, .int .i64 k), (6, .int .i64 ((up ((itN pass2 i (s, 0)).1) i 16 0) i (6 + k))), (11, .int .i64 n), (12, .int .i64 i), (13, .bool true), (27, .agg #[.int .i64 ((up ((itN pass2 i (s, 0)).1) i 16 0) i 6), .int .i64 ((up ((itN pass2 i (s, 0)).1) i 16 0) i 7), .int .i64 ((up ((itN pass2 i (s, 0)).1) i 16 0) i 8), .int .i64 ((up ((itN pass2 i (s, 0)).1) i 16 0) i 9), .int .i64 ((up ((itN pass2 i (s, 0)).1) i 16 0) i 10), .int .i64 ((up ((itN pass2 i (s, 0)).1) i 16 0) i 11), .int .i64 ((up ((itN pass2 i (s, 0)).1) i 16 0) i 12), .int .i64 ((up ((itN pass2 i (s, 0)).1) i 16 0) i 13), .int .i64 ((up ((itN pass2 i (s, 0)).1) i 16 0) i 14)]), (28, .int .i64 k), (29, .bool true), (33, .bool true)] := X.fr hs hd hl_ _ (by kernel_rfl)
    clear hs hd hl_ ho
    replace hP := hP.on hon
    replace hC : RCells w11 [(⟨bp, 0, none⟩, .int .i64 gr), (⟨bp, 1, none⟩, .int .i64 hold), (⟨bp, 2, none⟩, .slice na n nc), (⟨bp, 3, none⟩, .slice la m lc), (⟨bp, 4, none⟩, .slice (some ⟨bn, 0, none⟩) n cap)] := (RCells.cons (hon.cell (hC.at 0 rfl) (by show ¬ bp = bn; omega)) (RCells.cons (hon.cell (hC.at 1 rfl) (by show ¬ bp = bn; omega)) (RCells.cons (hon.cell (hC.at 2 rfl) (by show ¬ bp = bn; omega)) (RCells.cons (hon.cell (hC.at 3 rfl) (by show ¬ bp = bn; omega)) (RCells.cons (hon.cell (hC.at 4 rfl) (by show ¬ bp = bn; omega)) (RCells.nil _))))))
    replace hE := hE.step hon (.inl rfl)
    replace hI1 := hI1.step hon (.inl rfl)
    replace hI2 := hI2.step hon (.inl rfl)
    replace G := Gr.refl w11
    replace hS : OwnP w11 bn (n * 17) (NV (up (up (itN (pass1 i) k (up (itN pass2 i (s, 0)).1 i 16 0)) i 16 1) i (6 + k) (((up (itN (pass1 i) k (up (itN pass2 i (s, 0)).1 i 16 0)) i 16 1) i (6 + k) : Int) - 1))) := hS2
    clear hS2 hon
    rw [show ∀ v : PS, (up v i 16 1) i (6 + k) = v i (6 + k) from fun v => up_ne _ _ (.inr (by omega))] at hS
    refine X.blockN ?_
    refine X.thenN ?_
    refine Y.lit (by kernel_rfl) ?_
    refine Y.pval F (X.w0 rfl) rfl (X.binop rfl (F.ev 28 (.int .i64 k)) (X.kc (.int .i64 1) rfl) (X.addI Try.underlying3 rfl (by omega) (by omega))) ?_
    clear F ac
    intro ac F
    refine Y.pval F (X.w0 rfl) rfl (X.move rfl (F.ev 47 (.int .i64 ((k : Int) + 1)))) ?_
    clear F ac
    intro ac F
    refine Y.nil ?_
    replace F : Fr ac 58 [(0, .pointer (some ⟨bp, 0, none⟩)), (2, .int .i64 ((itN pass2 i (s, 0)).2)), (3, .int .i64 i), (4, .pointer (some ⟨bn, i * 17, none⟩)), (5, .int .i64 k), (6, .int .i64 ((up ((itN pass2 i (s, 0)).1) i 16 0) i (6 + k))), (11, .int .i64 n), (12, .int .i64 i), (13, .bool true), (27, .agg #[.int .i64 ((up ((itN pass2 i (s, 0)).1) i 16 0) i 6), .int .i64 ((up ((itN pass2 i (s, 0)).1) i 16 0) i 7), .int .i64 ((up ((itN pass2 i (s, 0)).1) i 16 0) i 8), .int .i64 ((up ((itN pass2 i (s, 0)).1) i 16 0) i 9), .int .i64 ((up ((itN pass2 i (s, 0)).1) i 16 0) i 10), .int .i64 ((up ((itN pass2 i (s, 0)).1) i 16 0) i 11), .int .i64 ((up ((itN pass2 i (s, 0)).1) i 16 0) i 12), .int .i64 ((up ((itN pass2 i (s, 0)).1) i 16 0) i 13), .int .i64 ((up ((itN pass2 i (s, 0)).1) i 16 0) i 14)]), (28, .int .i64 ((k : Int) + 1)), (29, .bool true), (33, .bool true)] := F.sub _
    refine X.thenN ?_
    refine ⟨_, ?_, k + 1, rfl, by omega, hI2, (by rw [itN_succ, pass1_pos (by rw [pass_keep (by omega) k (Nat.le_refl _) (by omega)]; omega)]; exact hS), F.sub _⟩
    omega
end
section
open Go.RowKit

set_option maxRecDepth 100000 in
set_option maxHeartbeats 1000000 in
theorem run_any (wB w : World) (bp bn : Nat) (gr hold : Int) (na la pa : Option Addr) (n nc m lc cap : Nat) (l : List (List Int)) (s : PS) (t : Nat) (hP : PlE wB w bp bn gr hold na la pa n nc m lc cap l) (hS : OwnP w bn (n * 17) (NV s)) (h16 : n ≤ 16) (hn : ∃ nd : List (List Int), ∃ tt : Int, nd.length = n ∧ gr ≤ 8 ∧ ∀ x ∈ l, NuOk gr nd tt x) (hok0 : SOk n s) (h1 : 1 ≤ hold) (h100 : hold ≤ 100) (hg0 : 0 ≤ gr) (ht : t ≤ 1000) :
  Calls Try.prog 45 #[.pointer (some ⟨bp, 0, none⟩), .int .i64 t] w fun e w' => ∃ v1 v2, e = .returned (.tuple #[v1, v2]) ∧ Only (fun b => b = bn) w w' ∧ OwnP w' bn (n * 17) (NV (runFrom hold gr.toNat n l s t).s) ∧ OwnR w' w.heap.size 3 1 v1 t ((runFrom hold gr.toNat n l s t).asked.map (Value.int .i64)) ∧ OwnR w' w.heap.size 3 1 v2 t ((runFrom hold gr.toNat n l s t).rows.map (Value.int .i64)) := by
 have G := Gr.refl w
 have hE := Only.refl (fun b => b = bn) w
 have hC := hP.p
 have hpb := hP.pb
 have hnb := hP.nb
 have hgb := hP.g.size
 have hpe := hP.ne
 have hplt := hP.lt
 have hnlt := hS.lt
 obtain ⟨nd, tt, hndl, hg8, hnu⟩ := id hn
 have hlt : ∀ x ∈ l, (nv x 2).toNat < n := fun x hx => by have := (hnu x hx).n0; have := (hnu x hx).n1; omega
 refine Y.calls 31 Try.func45 rfl rfl ?_
 intro ac F0
 have F : Fr ac 31 [(0, .pointer (some ⟨bp, 0, none⟩)), (1, .int .i64 t)] := F0.sub _
 clear F0
 refine Y.seq ?_
 refine Y.lit (by kernel_rfl) ?_
 refine Y.pval F (X.w0 rfl) rfl (X.assign rfl (X.kc (.slice none 0 0) rfl)) ?_
 clear F ac
 intro ac F
 refine Y.pval F (X.w0 rfl) rfl (X.assign rfl (X.kc (.slice none 0 0) rfl)) ?_
 clear F ac
 intro ac F
 refine Y.nil ?_
 replace F : Fr ac 31 [(0, .pointer (some ⟨bp, 0, none⟩)), (1, .int .i64 t), (4, .slice none 0 0), (5, .slice none 0 0)] := F.sub _
 refine X.thenN ?_
 refine Y.seq ?_
 refine Y.seq ?_
 refine Y.lit (by kernel_rfl) ?_
 refine Y.pval F (X.w0 rfl) rfl (X.move rfl (F.ev 1 (.int .i64 t))) ?_
 clear F ac
 intro ac F
 refine Y.pval F (X.w0 rfl) rfl (X.move rfl (X.kc (.int .i64 0) rfl)) ?_
 clear F ac
 intro ac F
 refine Y.nil ?_
 replace F : Fr ac 31 [(0, .pointer (some ⟨bp, 0, none⟩)), (1, .int .i64 t), (4, .slice none 0 0), (5, .slice none 0 0), (7, .int .i64 t), (8, .int .i64 0)] := F.sub _
 refine X.thenN ?_
 refine Y.block ?_
 refine Y.loop (fun me_ ac wr => ∃ (i : Nat) (v1 v2 : Value), me_ = t - i ∧ i ≤ t ∧ Only (fun b => b = bn) w wr ∧ OwnP wr bn (n * 17) (NV (runFrom hold gr.toNat n l s i).s) ∧ OwnR wr w.heap.size 3 1 v1 i ((runFrom hold gr.toNat n l s i).asked.map (Value.int .i64)) ∧ OwnR wr w.heap.size 3 1 v2 i ((runFrom hold gr.toNat n l s i).rows.map (Value.int .i64)) ∧ (∀ b, v1.ownBlock = some b → ¬ v2.ownBlock = some b) ∧ Fr ac 31 [(0, .pointer (some ⟨bp, 0, none⟩)), (1, .int .i64 t), (4, v1), (5, v2), (7, .int .i64 t), (8, .int .i64 i)]) _ ⟨0, _, _, rfl, Nat.zero_le _, Only.refl _ _, hS, OwnR.nil _ _ _ _, OwnR.nil _ _ _ _, (fun b e => by simp [Value.ownBlock] at e), F.sub _⟩ ?_
 have hP0 := hP
 clear F hE hC hS G ac hP
 intro me_ ac w3 hI
 obtain ⟨i, v1, v2, rfl, hi, hE, hS, hO1, hO2, hdis, F⟩ := hI
 have hP := hP0.on hE
 have hC := hP.p
 have G := Gr.refl w3
 have hok := (hok0.run (gr := gr.toNat) h1 h100 hlt i)
 have hlen := runFrom_len (n := n) (gr := gr.toNat) (s := s) (hold := hold) (l := l) i
 refine Y.seq ?_
 refine Y.lit (by kernel_rfl) ?_
 refine Y.pval F (X.w0 rfl) rfl (X.binop rfl (F.ev 8 (.int .i64 i)) (F.ev 7 (.int .i64 t)) (X.lssI Try.underlying3 rfl)) ?_
 clear F ac
 intro ac F
 refine Y.nil ?_
 replace F : Fr ac 31 [(0, .pointer (some ⟨bp, 0, none⟩)), (1, .int .i64 t), (4, v1), (5, v2), (7, .int .i64 t), (8, .int .i64 i), (9, .bool (decide ((i : Int) < t)))] := F.sub _
 refine X.thenN ?_
 refine Y.seq ?_
 cases h4 : decide ((i : Int) < t) with
 | false =>
  try rw [h4] at F
  have h4p : ¬ ((i : Int) < t) := of_decide_eq_false h4
  obtain rfl : t = i := by omega
  refine Y.condF (F.ev 9 (.bool false)) ?_
  refine Y.exit ?_
  refine X.thenX ?_
  refine X.thenX ?_
  refine X.blockX ?_
  refine X.thenN ?_
  refine Y.seq ?_
  refine Y.lit (by kernel_rfl) ?_
  refine Y.pval F (X.w0 rfl) rfl (X.move rfl (F.ev 4 (v1))) ?_
  clear F ac
  intro ac F
  refine Y.pval F (X.w0 rfl) rfl (X.move rfl (F.ev 5 (v2))) ?_
  clear F ac
  intro ac F
  refine Y.pval F (X.w0 rfl) rfl (X.assign rfl (F.ev 29 (v1))) ?_
  clear F ac
  intro ac F
  refine Y.pval F (X.w0 rfl) rfl (X.assign rfl (F.ev 30 (v2))) ?_
  clear F ac
  intro ac F
  refine Y.nil ?_
  replace F : Fr ac 31 [(0, .pointer (some ⟨bp, 0, none⟩)), (1, .int .i64 t), (4, v1), (5, v2), (7, .int .i64 t), (8, .int .i64 t), (9, .bool false)] := F.sub _
  refine X.thenN ?_
  refine Y.ret ?_
  exact Y.ret0 (v := .tuple #[v1, v2]) F (Y.rs2 F rfl (by kernel_rfl) (by kernel_rfl)) ⟨_, _, rfl, hE, hS, hO1, hO2⟩
 | true =>
  try rw [h4] at F
  have h4p : ((i : Int) < t) := of_decide_eq_true h4
  refine Y.condT (F.ev 9 (.bool true)) ?_
  refine Y.skip ?_
  refine X.thenN ?_
  refine Y.seq ?_
  refine Y.block ?_
  refine Y.seq ?_
  refine Y.lit (by kernel_rfl) ?_
  refine Y.pval F (X.w0 rfl) rfl (X.move rfl (F.ev 8 (.int .i64 i))) ?_
  clear F ac
  intro ac F
  refine Y.pval F (X.w0 rfl) rfl (X.assign rfl (F.ev 10 (.int .i64 i))) ?_
  clear F ac
  intro ac F
  refine Y.nil ?_
  replace F : Fr ac 31 [(0, .pointer (some ⟨bp, 0, none⟩)), (1, .int .i64 t), (4, v1), (5, v2), (6, .int .i64 i), (7, .int .i64 t), (8, .int .i64 i), (9, .bool true)] := F.sub _
  refine X.thenN ?_
  refine Y.seq ?_
  refine Y.lit (by kernel_rfl) ?_
  refine Y.pval F (X.w0 rfl) rfl (X.move rfl (F.ev 4 (v1))) ?_
  clear F ac
  intro ac F
  refine Y.pval F (X.w0 rfl) rfl (X.move rfl (F.ev 0 (.pointer (some ⟨bp, 0, none⟩)))) ?_
  clear F ac
  intro ac F
  refine Y.pval F (X.w0 rfl) rfl (X.move rfl (F.ev 6 (.int .i64 i))) ?_
  clear F ac
  intro ac F
  refine Y.pcall F (X.w0 rfl) rfl (X.enter (F := 70) rfl (X.kc (.func (.func 70) #[] #[]) rfl) (X.a2 (F.ev 12 (.pointer (some ⟨bp, 0, none⟩))) (F.ev 13 (.int .i64 i))) (enters_of Try.func70 (by kernel_rfl) rfl _)) (ask_any wB w3 bp bn gr hold na la pa n nc m lc cap l ((runFrom hold gr.toNat n l s i).s) i hP hS h16 hn) ?_
  clear F ac
  rintro e w5 ⟨rfl, hon, hS2⟩
  refine ⟨_, rfl, ?_⟩
  intro ac F
  replace hP := hP.on hon
  replace hE := hE.step hon (.inl rfl)
  replace hO1 := hO1.only hon (fun b e h => by have := (hO1.ge e).1; omega)
  replace hO2 := hO2.only hon (fun b e h => by have := (hO2.ge e).1; omega)
  replace hC := hP.p
  replace G := Gr.refl w5
  replace hS := hS2
  clear hS2 hon
  refine Y.pval F (X.w0 rfl) rfl (X.bs rfl (X.b1 (F.ev 14 (.int .i64 (asksG n (askS l i ((runFrom hold gr.toNat n l s i).s)))))) (Try.bs34_1 (asksG n (askS l i ((runFrom hold gr.toNat n l s i).s))) _)) ?_
  clear F ac
  intro ac F
  have g := Gr.alloc w5 (.cells #[.int .i64 (asksG n (askS l i ((runFrom hold gr.toNat n l s i).s)))] 3)
  have hb := heap_alloc_new w5 (.cells #[.int .i64 (asksG n (askS l i ((runFrom hold gr.toNat n l s i).s)))] 3)
  have hbl : w5.heap.size < (w5.alloc (.cells #[.int .i64 (asksG n (askS l i ((runFrom hold gr.toNat n l s i).s)))] 3)).heap.size := by simp
  generalize w5.alloc (.cells #[.int .i64 (asksG n (askS l i ((runFrom hold gr.toNat n l s i).s)))] 3) = w6 at *
  replace G := G.trans g
  replace hC := hC.gr g
  replace hE := hE.thenGr g
  replace hP := hP.gr g
  replace hS := hS.gr g
  replace hO1 := hO1.gr g
  replace hO2 := hO2.gr g
  have hbk := hb
  clear g hb hbl
  refine Y.wpL_plain rfl fun _ hK => wp_pushV Try.underlying34 Try.info3 rfl (by decide) rfl (F.ev 11 (v1)) (F.ev 15 (.slice (some ⟨w5.heap.size, 0, none⟩) 1 1)) hO1 (m := 1) (news := [.int .i64 (asksG n (askS l i ((runFrom hold gr.toNat n l s i).s)))]) rfl (cells_at (vs := [.int .i64 (asksG n (askS l i ((runFrom hold gr.toNat n l s i).s)))]) hbk) rfl (by omega) (by decide) hE.size (fun v' w7 hO' hon hat => hK _ _ ?_)
  refine Y.pput F rfl ?_
  clear F ac hbk
  intro ac F
  have hge := fun b e => hO1.ge (b := b) e
  replace hP := hP.only hon (fun i e => by have := (hge i e).1; exact ⟨by omega, by omega⟩)
  replace hE := hE.step2 hon (fun r e => .inr (hge r e).1)
  replace hS := hS.only hon (fun e => by have := (hge _ e).1; omega)
  have hlt_ := fun b e => (hO2.ge (b := b) e).2
  replace hO2 := hO2.only hon (fun b e h => hdis b h e)
  replace hC := hP.p
  replace G := Gr.refl w7

  replace hdis : ∀ b, v'.ownBlock = some b → ¬ v2.ownBlock = some b := fun b e h => by
   rcases hat with hat | hat
   ·rw [hat] at e; exact hdis b e h
   ·rw [hat] at e; injection e with e; have := hlt_ b h; omega
  clear hat hge hlt_ hon
  replace hO1 := hO'
  clear hO'
  obtain ⟨v1', hv1⟩ : ∃ x, x = v' := ⟨_, rfl⟩
  subst hv1
  refine Y.pval F (X.w0 rfl) rfl (X.assign rfl (F.ev 16 (v1'))) ?_
  clear F ac
  intro ac F
  refine Y.nil ?_
  replace F : Fr ac 31 [(0, .pointer (some ⟨bp, 0, none⟩)), (1, .int .i64 t), (4, v1'), (5, v2), (6, .int .i64 i), (7, .int .i64 t), (8, .int .i64 i), (9, .bool true)] := F.sub _
  refine X.thenN ?_
  refine Y.seq ?_
  refine Y.lit (by kernel_rfl) ?_
  refine Y.pval F (X.w0 rfl) rfl (X.move rfl (F.ev 0 (.pointer (some ⟨bp, 0, none⟩)))) ?_
  clear F ac
  intro ac F
  refine Y.pval F (X.w0 rfl) rfl (X.move rfl (F.ev 6 (.int .i64 i))) ?_
  clear F ac
  intro ac F
  refine Y.pcall F (X.w0 rfl) rfl (X.enter (F := 71) rfl (X.kc (.func (.func 71) #[] #[]) rfl) (X.a2 (F.ev 17 (.pointer (some ⟨bp, 0, none⟩))) (F.ev 18 (.int .i64 i))) (enters_of Try.func71 (by kernel_rfl) rfl _)) (disturb_any wB w7 bp bn gr hold na la pa n nc m lc cap l (askS l i ((runFrom hold gr.toNat n l s i).s)) i hP hS h16 hn (hok.askS l i) h1 h100 ⟨by omega, by omega⟩) ?_
  clear F ac
  rintro e w8 ⟨rfl, hon, hS2⟩
  refine ⟨_, rfl, ?_⟩
  intro ac F
  replace hP := hP.on hon
  replace hE := hE.step hon (.inl rfl)
  replace hO1 := hO1.only hon (fun b e h => by have := (hO1.ge e).1; omega)
  replace hO2 := hO2.only hon (fun b e h => by have := (hO2.ge e).1; omega)
  replace hC := hP.p
  replace G := Gr.refl w8
  replace hS := hS2
  clear hS2 hon
  refine Y.nil ?_
  replace F : Fr ac 31 [(0, .pointer (some ⟨bp, 0, none⟩)), (1, .int .i64 t), (4, v1'), (5, v2), (6, .int .i64 i), (7, .int .i64 t), (8, .int .i64 i), (9, .bool true)] := F.sub _
  refine X.thenN ?_
  refine Y.seq ?_
  refine Y.lit (by kernel_rfl) ?_
  refine Y.pval F (X.w0 rfl) rfl (X.move rfl (F.ev 0 (.pointer (some ⟨bp, 0, none⟩)))) ?_
  clear F ac
  intro ac F
  refine Y.pval F (X.w0 rfl) rfl (X.move rfl (F.ev 6 (.int .i64 i))) ?_
  clear F ac
  intro ac F
  refine Y.pcall F (X.w0 rfl) rfl (X.enter (F := 72) rfl (X.kc (.func (.func 72) #[] #[]) rfl) (X.a2 (F.ev 20 (.pointer (some ⟨bp, 0, none⟩))) (F.ev 21 (.int .i64 i))) (enters_of Try.func72 (by kernel_rfl) rfl _)) (send_any wB w8 bp bn gr hold na la pa n nc m lc cap l (disturbS hold l n i (askS l i ((runFrom hold gr.toNat n l s i).s))) i hP hS h16 hn hg0) ?_
  clear F ac
  rintro e w9 ⟨rfl, hon, hS2⟩
  refine ⟨_, rfl, ?_⟩
  intro ac F
  replace hP := hP.on hon
  replace hE := hE.step hon (.inl rfl)
  replace hO1 := hO1.only hon (fun b e h => by have := (hO1.ge e).1; omega)
  replace hO2 := hO2.only hon (fun b e h => by have := (hO2.ge e).1; omega)
  replace hC := hP.p
  replace G := Gr.refl w9
  replace hS := hS2
  clear hS2 hon
  refine Y.nil ?_
  replace F : Fr ac 31 [(0, .pointer (some ⟨bp, 0, none⟩)), (1, .int .i64 t), (4, v1'), (5, v2), (6, .int .i64 i), (7, .int .i64 t), (8, .int .i64 i), (9, .bool true)] := F.sub _
  refine X.thenN ?_
  refine Y.lit (by kernel_rfl) ?_
  refine Y.pval F (X.w0 rfl) rfl (X.move rfl (F.ev 5 (v2))) ?_
  clear F ac
  intro ac F
  refine Y.pval F (X.w0 rfl) rfl (X.move rfl (F.ev 0 (.pointer (some ⟨bp, 0, none⟩)))) ?_
  clear F ac
  intro ac F
  refine Y.pcall F (X.w0 rfl) rfl (X.enter (F := 73) rfl (X.kc (.func (.func 73) #[] #[]) rfl) (X.a1 (F.ev 24 (.pointer (some ⟨bp, 0, none⟩)))) (enters_of Try.func73 (by kernel_rfl) rfl _)) (pass_any wB w9 bp bn gr hold na la pa n nc m lc cap l (sendS hold gr.toNat n (lostF l i) (disturbS hold l n i (askS l i ((runFrom hold gr.toNat n l s i).s)))) hP hS h16 (((hok.askS l i).disturb h1 h100 hlt i).send h1 h100)) ?_
  clear F ac
  rintro e w10 ⟨rfl, hon, hS2⟩
  refine ⟨_, rfl, ?_⟩
  intro ac F
  replace hP := hP.on hon
  replace hE := hE.step hon (.inl rfl)
  replace hO1 := hO1.only hon (fun b e h => by have := (hO1.ge e).1; omega)
  replace hO2 := hO2.only hon (fun b e h => by have := (hO2.ge e).1; omega)
  replace hC := hP.p
  replace G := Gr.refl w10
  replace hS := hS2
  clear hS2 hon
  refine Y.pval F (X.w0 rfl) rfl (X.bs rfl (X.b1 (F.ev 25 (.int .i64 ((passS n (sendS hold gr.toNat n (lostF l i) (disturbS hold l n i (askS l i ((runFrom hold gr.toNat n l s i).s))))).2)))) (Try.bs34_1 ((passS n (sendS hold gr.toNat n (lostF l i) (disturbS hold l n i (askS l i ((runFrom hold gr.toNat n l s i).s))))).2) _)) ?_
  clear F ac
  intro ac F
  have g := Gr.alloc w10 (.cells #[.int .i64 ((passS n (sendS hold gr.toNat n (lostF l i) (disturbS hold l n i (askS l i ((runFrom hold gr.toNat n l s i).s))))).2)] 3)
  have hb := heap_alloc_new w10 (.cells #[.int .i64 ((passS n (sendS hold gr.toNat n (lostF l i) (disturbS hold l n i (askS l i ((runFrom hold gr.toNat n l s i).s))))).2)] 3)
  have hbl : w10.heap.size < (w10.alloc (.cells #[.int .i64 ((passS n (sendS hold gr.toNat n (lostF l i) (disturbS hold l n i (askS l i ((runFrom hold gr.toNat n l s i).s))))).2)] 3)).heap.size := by simp
  generalize w10.alloc (.cells #[.int .i64 ((passS n (sendS hold gr.toNat n (lostF l i) (disturbS hold l n i (askS l i ((runFrom hold gr.toNat n l s i).s))))).2)] 3) = w11 at *
  replace G := G.trans g
  replace hC := hC.gr g
  replace hE := hE.thenGr g
  replace hP := hP.gr g
  replace hS := hS.gr g
  replace hO1 := hO1.gr g
  replace hO2 := hO2.gr g
  have hbk := hb
  clear g hb hbl
  refine Y.wpL_plain rfl fun _ hK => wp_pushV Try.underlying34 Try.info3 rfl (by decide) rfl (F.ev 23 (v2)) (F.ev 26 (.slice (some ⟨w10.heap.size, 0, none⟩) 1 1)) hO2 (m := 1) (news := [.int .i64 ((passS n (sendS hold gr.toNat n (lostF l i) (disturbS hold l n i (askS l i ((runFrom hold gr.toNat n l s i).s))))).2)]) rfl (cells_at (vs := [.int .i64 ((passS n (sendS hold gr.toNat n (lostF l i) (disturbS hold l n i (askS l i ((runFrom hold gr.toNat n l s i).s))))).2)]) hbk) rfl (by omega) (by decide) hE.size (fun v' w12 hO' hon hat => hK _ _ ?_)
  refine Y.pput F rfl ?_
  clear F ac hbk
  intro ac F
  have hge := fun b e => hO2.ge (b := b) e
  replace hP := hP.only hon (fun i e => by have := (hge i e).1; exact ⟨by omega, by omega⟩)
  replace hE := hE.step2 hon (fun r e => .inr (hge r e).1)
  replace hS := hS.only hon (fun e => by have := (hge _ e).1; omega)
  have hlt_ := fun b e => (hO1.ge (b := b) e).2
  replace hO1 := hO1.only hon (fun b e h => hdis b e h)
  replace hC := hP.p
  replace G := Gr.refl w12

  replace hdis : ∀ b, v1'.ownBlock = some b → ¬ v'.ownBlock = some b := fun b e h => by
   rcases hat with hat | hat
   ·rw [hat] at h; exact hdis b e h
   ·rw [hat] at h; injection h with h; have := hlt_ b e; omega
  clear hat hge hlt_ hon
  replace hO2 := hO'
  clear hO'
  obtain ⟨v2', hv2⟩ : ∃ x, x = v' := ⟨_, rfl⟩
  subst hv2
  refine Y.pval F (X.w0 rfl) rfl (X.assign rfl (F.ev 27 (v2'))) ?_
  clear F ac
  intro ac F
  refine Y.nil ?_
  replace F : Fr ac 31 [(0, .pointer (some ⟨bp, 0, none⟩)), (1, .int .i64 t), (4, v1'), (5, v2'), (6, .int .i64 i), (7, .int .i64 t), (8, .int .i64 i), (9, .bool true)] := F.sub _
  refine X.blockN ?_
  refine X.thenN ?_
  refine Y.lit (by kernel_rfl) ?_
  refine Y.pval F (X.w0 rfl) rfl (X.binop rfl (F.ev 8 (.int .i64 i)) (X.kc (.int .i64 1) rfl) (X.addI Try.underlying3 rfl (by omega) (by omega))) ?_
  clear F ac
  intro ac F
  refine Y.pval F (X.w0 rfl) rfl (X.move rfl (F.ev 28 (.int .i64 ((i : Int) + 1)))) ?_
  clear F ac
  intro ac F
  refine Y.nil ?_
  replace F : Fr ac 31 [(0, .pointer (some ⟨bp, 0, none⟩)), (1, .int .i64 t), (4, v1'), (5, v2'), (6, .int .i64 i), (7, .int .i64 t), (8, .int .i64 ((i : Int) + 1)), (9, .bool true)] := F.sub _
  refine X.thenN ?_
  refine ⟨_, ?_, i + 1, v1', v2', rfl, by omega, hE, hS, (by show OwnR _ _ _ _ _ (i + 1) (List.map _ ((runFrom hold gr.toNat n l s i).asked ++ [_])); rw [List.map_append]; exact hO1), (by show OwnR _ _ _ _ _ (i + 1) (List.map _ ((runFrom hold gr.toNat n l s i).rows ++ [_])); rw [List.map_append]; exact hO2), hdis, F.sub _⟩
  omega
end
end Go.Proofs.Ytoalamakhjbedaa
