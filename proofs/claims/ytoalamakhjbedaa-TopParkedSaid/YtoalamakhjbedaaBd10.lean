/- Several texts of this claim in one file. (1) Contract: the end of a tick. (2) Contract: the run of a play. (3) Contract: Play. (4) The chapter's example, in plain words; rows of structures that are written out. Nothing of the program is walked here. (5) Lists of nudges that a call makes. Nothing of the program is walked here. (6) More on lists of nudges that a call makes; remainders of any number. Nothing of the program is walked here. (7) A cluster with a node turned; a copy of a slice of structures. Nothing of the program is walked here. (8) Contract: without. (9) Contract: sameInts. (10) Contract: the look at the examples. -/
import Derived.Test.YtoalamakhjbedaaBd2
import Derived.Test.YtoalamakhjbedaaBd8
import Derived.Test.YtoalamakhjbedaaBd9
import Derived.Test.YtoalamakhjbedaaBd7
import Derived.Test.YtoalamakhjbedaaBd3
namespace Go.Proofs.Ytoalamakhjbedaa
set_option linter.unusedSimpArgs false
set_option linter.unusedVariables false
section
open Go.RowKit

set_option maxRecDepth 100000 in
set_option maxHeartbeats 1000000 in
theorem pass_any (wB w : World) (bp bn : Nat) (gr hold : Int) (na la pa : Option Addr) (n nc m lc cap : Nat) (l : List (List Int)) (s : PS) (hP : PlE wB w bp bn gr hold na la pa n nc m lc cap l) (hS : OwnP w bn (n * 17) (NV s)) (h16 : n ≤ 16) (hok : SOk n s) :
  Calls Try.prog 73 #[Vp bp] w fun e w' => e = .returned (Vi (passS n s).2) ∧ Only (fun b => b = bn) w w' ∧ OwnP w' bn (n * 17) (NV (passS n s).1) := by
 have G := Gr.refl w
 have hE := Only.refl (fun b => b = bn) w
 have hC := hP.p
 have hpb := hP.pb
 have hnb := hP.nb
 have hgb := hP.g.size
 have hpe := hP.ne
 have hplt := hP.lt
 have hnlt := hS.lt
 refine Y.calls 58 Try.func73 rfl rfl ?_
 intro ac F0
 have F : Fr ac 58 [(0, Vp bp)] := F0.sub _
 clear F0
 refine Y.seq ?_
 refine Y.lit (by kernel_rfl) ?_
 refine Y.pv F (X.assign rfl (X.kc (Vi 0) rfl)) ?_;clear F ac;intro ac F
 refine Y.nil ?_
 replace F : Fr ac 58 [(0, Vp bp), (2, Vi 0)] := F.sub _
 refine X.thenN ?_
 refine Y.seq ?_
 refine Y.seq ?_
 refine Y.lit (by kernel_rfl) ?_
 refine Y.pv F (X.move rfl (F.e 0 rfl)) ?_;clear F ac;intro ac F
 refine Y.pv F (Y.nilC rfl (F.e 7 rfl)) ?_;clear F ac;intro ac F
 refine Y.pv F (X.field rfl (F.e 8 rfl) (X.fld Try.underlying101 rfl (Try.siz99 _) rfl rfl)) ?_;clear F ac;intro ac F
 refine Y.pv F (X.load rfl (F.e 9 rfl) (X.ld1 (Try.agg99 _) (hC.at 4 rfl))) ?_;clear F ac;intro ac F
 refine Y.pv F (X.len1 Try.underlying99 rfl (F.e 10 rfl)) ?_;clear F ac;intro ac F
 refine Y.pv F (X.move rfl (X.kc (Vi 0) rfl)) ?_;clear F ac;intro ac F
 refine Y.nil ?_
 replace F : Fr ac 58 [(0, Vp bp), (2, Vi 0), (11, Vi n), (12, Vi 0)] := F.sub _
 refine X.thenN ?_
 refine Y.block ?_
 have hE_1 := hE
 have hP_1 := hP
 have hC_1 := hC
 refine Y.loop (fun me_ ac wr => ∃ (i : Nat), me_ = n - i ∧ i ≤ n ∧ Only (fun b => b = bn) w wr ∧ OwnP wr bn (n * 17) (NV ((itN pass2 i (s, 0)).1)) ∧ Fr ac 58 [(0, Vp bp), (2, Vi ((itN pass2 i (s, 0)).2)), (11, Vi n), (12, Vi i)]) _ ⟨0, rfl, Nat.zero_le _, Only.refl _ _, hS, F.sub _⟩ ?_
 clear F hP hC hS ac hE
 intro me_ ac w3 hI
 obtain ⟨i, rfl, hi, hI1, hS, F⟩ := hI
 have hP := hP_1.on hI1
 have hE := hE_1.trans hI1
 have hC := (hC_1.kc hI1 0 rfl (hC_1.kc hI1 1 rfl (hC_1.kc hI1 2 rfl (hC_1.kc hI1 3 rfl (hC_1.kc hI1 4 rfl (RCells.nil _))))))
 replace G := Gr.refl w3
 refine Y.seq ?_
 refine Y.lit (by kernel_rfl) ?_
 refine Y.pv F (X.binop rfl (F.e 12 rfl) (F.e 11 rfl) (X.lssI Try.underlying3 rfl)) ?_;clear F ac;intro ac F
 refine Y.nil ?_
 replace F : Fr ac 58 [(0, Vp bp), (2, Vi ((itN pass2 i (s, 0)).2)), (11, Vi n), (12, Vi i), (13, .bool (decide ((i : Int) < n)))] := F.sub _
 refine X.thenN ?_
 refine Y.seq ?_
 cases h4 : decide ((i : Int) < n) with
 | false =>
  try rw [h4] at F
  have h4p : ¬ ((i : Int) < n) := of_decide_eq_false h4
  obtain rfl : n = i := by omega
  refine Y.condF (F.e 13 rfl) ?_
  refine Y.exit ?_
  refine X.thenX ?_
  refine X.thenX ?_
  refine X.blockX ?_
  refine X.thenN ?_
  refine Y.seq ?_
  refine Y.lit (by kernel_rfl) ?_
  refine Y.pv F (X.move rfl (F.e 2 rfl)) ?_;clear F ac;intro ac F
  refine Y.pv F (X.assign rfl (F.e 57 rfl)) ?_;clear F ac;intro ac F
  refine Y.nil ?_
  replace F : Fr ac 58 [(0, Vp bp), (2, Vi ((itN pass2 n (s, 0)).2)), (11, Vi n), (12, Vi n), (13, .bool false)] := F.sub _
  refine X.thenN ?_
  refine Y.ret ?_
  exact Y.ret0 (v := Vi ((itN pass2 n (s, 0)).2)) F (Y.rs1 F rfl (by kernel_rfl)) ⟨rfl, hE, hS⟩
 | true =>
  try rw [h4] at F
  have h4p : ((i : Int) < n) := of_decide_eq_true h4
  have hi2 : i < n := by omega
  have hki := hok.pass i (by omega)
  refine Y.condT (F.e 13 rfl) ?_
  refine Y.skip ?_
  refine X.thenN ?_
  refine Y.seq ?_
  refine Y.block ?_
  refine Y.seq ?_
  refine Y.lit (by kernel_rfl) ?_
  refine Y.pv F (X.move rfl (F.e 12 rfl)) ?_;clear F ac;intro ac F
  refine Y.pv F (X.assign rfl (F.e 14 rfl)) ?_;clear F ac;intro ac F
  refine Y.nil ?_
  replace F : Fr ac 58 [(0, Vp bp), (2, Vi ((itN pass2 i (s, 0)).2)), (3, Vi i), (11, Vi n), (12, Vi i), (13, .bool true)] := F.sub _
  refine X.thenN ?_
  refine Y.seq ?_
  refine Y.lit (by kernel_rfl) ?_
  refine Y.pv F (X.move rfl (F.e 0 rfl)) ?_;clear F ac;intro ac F
  refine Y.pv F (Y.nilC rfl (F.e 15 rfl)) ?_;clear F ac;intro ac F
  refine Y.pv F (X.field rfl (F.e 16 rfl) (X.fld Try.underlying101 rfl (Try.siz99 _) rfl rfl)) ?_;clear F ac;intro ac F
  refine Y.pv F (X.load rfl (F.e 17 rfl) (X.ld1 (Try.agg99 _) (hC.at 4 rfl))) ?_;clear F ac;intro ac F
  refine Y.pv F (X.move rfl (F.e 3 rfl)) ?_;clear F ac;intro ac F
  obtain rfl : pa = some ⟨bn, 0, none⟩ := hP.hpa (by omega)
  refine Y.pv F (X.index rfl (F.e 18 rfl) (F.e 19 rfl) (X.idx (k := i) Try.underlying99 (Try.siz104 _) (by omega) (by omega) (addr_add0 _ _))) ?_;clear F ac;intro ac F
  refine Y.pv F (X.assign rfl (F.ev 20 (.pointer (some ⟨bn, i * 17, none⟩)))) ?_;clear F ac;intro ac F
  refine Y.nil ?_
  replace F : Fr ac 58 [(0, Vp bp), (2, Vi ((itN pass2 i (s, 0)).2)), (3, Vi i), (4, .pointer (some ⟨bn, i * 17, none⟩)), (11, Vi n), (12, Vi i), (13, .bool true)] := F.sub _
  refine X.thenN ?_
  refine Y.seq ?_
  refine Y.lit (by kernel_rfl) ?_
  refine Y.pv F (X.move rfl (F.ev 4 (.pointer (some ⟨bn, i * 17, none⟩)))) ?_;clear F ac;intro ac F
  refine Y.pv F (Y.nilC rfl (F.ev 21 (.pointer (some ⟨bn, i * 17, none⟩)))) ?_;clear F ac;intro ac F
  refine Y.pv F (X.field rfl (F.ev 22 (.pointer (some ⟨bn, i * 17, none⟩))) (X.fld Try.underlying104 rfl (Try.siz4 _) rfl rfl)) ?_;clear F ac;intro ac F
  refine Y.punit F (X.w0 rfl) rfl (X.store rfl (F.ev 23 (.pointer (some ⟨bn, i * 17 + 16, none⟩))) (X.kc (.bool false) rfl) (hS.st1 (Try.siz4 _) rfl rfl (by omega))) ?_;clear F ac;intro ac F
  have hon := Y.set_only w3 bn (i * 17 + 16) (.bool false)
  have hS2 := hS.set (k := i * 17 + 16) (.bool false)
  rw [NV_upB] at hS2
  generalize w3.setCell ⟨bn, i * 17 + 16, none⟩ (.bool false) = w5 at *
  replace hP := hP.on hon
  replace hC := (hC.kc hon 0 rfl (hC.kc hon 1 rfl (hC.kc hon 2 rfl (hC.kc hon 3 rfl (hC.kc hon 4 rfl (RCells.nil _))))))
  replace hE := hE.step hon (.inl rfl)
  replace hI1 := hI1.step hon (.inl rfl)
  replace G := Gr.refl w5
  replace hS : OwnP w5 bn (n * 17) (NV (up ((itN pass2 i (s, 0)).1) i 16 0)) := hS2
  clear hS2 hon
  refine Y.nil ?_
  replace F : Fr ac 58 [(0, Vp bp), (2, Vi ((itN pass2 i (s, 0)).2)), (3, Vi i), (4, .pointer (some ⟨bn, i * 17, none⟩)), (11, Vi n), (12, Vi i), (13, .bool true)] := F.sub _
  refine X.thenN ?_
  refine Y.seq ?_
  refine Y.seq ?_
  refine Y.lit (by kernel_rfl) ?_
  refine Y.pv F (X.move rfl (F.ev 4 (.pointer (some ⟨bn, i * 17, none⟩)))) ?_;clear F ac;intro ac F
  refine Y.pv F (Y.nilC rfl (F.ev 24 (.pointer (some ⟨bn, i * 17, none⟩)))) ?_;clear F ac;intro ac F
  refine Y.pv F (X.field rfl (F.ev 25 (.pointer (some ⟨bn, i * 17, none⟩))) (X.fld Try.underlying104 rfl (Try.siz102 _) rfl rfl)) ?_;clear F ac;intro ac F
  replace hC : RCells w5 [(Ad bp 0, Vi gr), (Ad bp 1, Vi hold), (Ad bp 2, .slice na n nc), (Ad bp 3, .slice la m lc), (Ad bp 4, .slice (some ⟨bn, 0, none⟩) n cap), (⟨bn, i * 17 + 6, none⟩, Vi ((up ((itN pass2 i (s, 0)).1) i 16 0) i 6))] := hC.append ((RCells.cons ((hS.cell (k := i * 17 + 6) (by omega)).trans (congrArg some (NV_int (up ((itN pass2 i (s, 0)).1) i 16 0) i 6 (by decide)))) (RCells.nil _)))
  replace hC : RCells w5 [(Ad bp 0, Vi gr), (Ad bp 1, Vi hold), (Ad bp 2, .slice na n nc), (Ad bp 3, .slice la m lc), (Ad bp 4, .slice (some ⟨bn, 0, none⟩) n cap), (⟨bn, i * 17 + 6, none⟩, Vi ((up ((itN pass2 i (s, 0)).1) i 16 0) i 6)), (⟨bn, i * 17 + 7, none⟩, Vi ((up ((itN pass2 i (s, 0)).1) i 16 0) i 7))] := hC.append ((RCells.cons ((hS.cell (k := i * 17 + 7) (by omega)).trans (congrArg some (NV_int (up ((itN pass2 i (s, 0)).1) i 16 0) i 7 (by decide)))) (RCells.nil _)))
  replace hC : RCells w5 [(Ad bp 0, Vi gr), (Ad bp 1, Vi hold), (Ad bp 2, .slice na n nc), (Ad bp 3, .slice la m lc), (Ad bp 4, .slice (some ⟨bn, 0, none⟩) n cap), (⟨bn, i * 17 + 6, none⟩, Vi ((up ((itN pass2 i (s, 0)).1) i 16 0) i 6)), (⟨bn, i * 17 + 7, none⟩, Vi ((up ((itN pass2 i (s, 0)).1) i 16 0) i 7)), (⟨bn, i * 17 + 8, none⟩, Vi ((up ((itN pass2 i (s, 0)).1) i 16 0) i 8))] := hC.append ((RCells.cons ((hS.cell (k := i * 17 + 8) (by omega)).trans (congrArg some (NV_int (up ((itN pass2 i (s, 0)).1) i 16 0) i 8 (by decide)))) (RCells.nil _)))
  replace hC : RCells w5 [(Ad bp 0, Vi gr), (Ad bp 1, Vi hold), (Ad bp 2, .slice na n nc), (Ad bp 3, .slice la m lc), (Ad bp 4, .slice (some ⟨bn, 0, none⟩) n cap), (⟨bn, i * 17 + 6, none⟩, Vi ((up ((itN pass2 i (s, 0)).1) i 16 0) i 6)), (⟨bn, i * 17 + 7, none⟩, Vi ((up ((itN pass2 i (s, 0)).1) i 16 0) i 7)), (⟨bn, i * 17 + 8, none⟩, Vi ((up ((itN pass2 i (s, 0)).1) i 16 0) i 8)), (⟨bn, i * 17 + 9, none⟩, Vi ((up ((itN pass2 i (s, 0)).1) i 16 0) i 9))] := hC.append ((RCells.cons ((hS.cell (k := i * 17 + 9) (by omega)).trans (congrArg some (NV_int (up ((itN pass2 i (s, 0)).1) i 16 0) i 9 (by decide)))) (RCells.nil _)))
  replace hC : RCells w5 [(Ad bp 0, Vi gr), (Ad bp 1, Vi hold), (Ad bp 2, .slice na n nc), (Ad bp 3, .slice la m lc), (Ad bp 4, .slice (some ⟨bn, 0, none⟩) n cap), (⟨bn, i * 17 + 6, none⟩, Vi ((up ((itN pass2 i (s, 0)).1) i 16 0) i 6)), (⟨bn, i * 17 + 7, none⟩, Vi ((up ((itN pass2 i (s, 0)).1) i 16 0) i 7)), (⟨bn, i * 17 + 8, none⟩, Vi ((up ((itN pass2 i (s, 0)).1) i 16 0) i 8)), (⟨bn, i * 17 + 9, none⟩, Vi ((up ((itN pass2 i (s, 0)).1) i 16 0) i 9)), (⟨bn, i * 17 + 10, none⟩, Vi ((up ((itN pass2 i (s, 0)).1) i 16 0) i 10))] := hC.append ((RCells.cons ((hS.cell (k := i * 17 + 10) (by omega)).trans (congrArg some (NV_int (up ((itN pass2 i (s, 0)).1) i 16 0) i 10 (by decide)))) (RCells.nil _)))
  replace hC : RCells w5 [(Ad bp 0, Vi gr), (Ad bp 1, Vi hold), (Ad bp 2, .slice na n nc), (Ad bp 3, .slice la m lc), (Ad bp 4, .slice (some ⟨bn, 0, none⟩) n cap), (⟨bn, i * 17 + 6, none⟩, Vi ((up ((itN pass2 i (s, 0)).1) i 16 0) i 6)), (⟨bn, i * 17 + 7, none⟩, Vi ((up ((itN pass2 i (s, 0)).1) i 16 0) i 7)), (⟨bn, i * 17 + 8, none⟩, Vi ((up ((itN pass2 i (s, 0)).1) i 16 0) i 8)), (⟨bn, i * 17 + 9, none⟩, Vi ((up ((itN pass2 i (s, 0)).1) i 16 0) i 9)), (⟨bn, i * 17 + 10, none⟩, Vi ((up ((itN pass2 i (s, 0)).1) i 16 0) i 10)), (⟨bn, i * 17 + 11, none⟩, Vi ((up ((itN pass2 i (s, 0)).1) i 16 0) i 11))] := hC.append ((RCells.cons ((hS.cell (k := i * 17 + 11) (by omega)).trans (congrArg some (NV_int (up ((itN pass2 i (s, 0)).1) i 16 0) i 11 (by decide)))) (RCells.nil _)))
  replace hC : RCells w5 [(Ad bp 0, Vi gr), (Ad bp 1, Vi hold), (Ad bp 2, .slice na n nc), (Ad bp 3, .slice la m lc), (Ad bp 4, .slice (some ⟨bn, 0, none⟩) n cap), (⟨bn, i * 17 + 6, none⟩, Vi ((up ((itN pass2 i (s, 0)).1) i 16 0) i 6)), (⟨bn, i * 17 + 7, none⟩, Vi ((up ((itN pass2 i (s, 0)).1) i 16 0) i 7)), (⟨bn, i * 17 + 8, none⟩, Vi ((up ((itN pass2 i (s, 0)).1) i 16 0) i 8)), (⟨bn, i * 17 + 9, none⟩, Vi ((up ((itN pass2 i (s, 0)).1) i 16 0) i 9)), (⟨bn, i * 17 + 10, none⟩, Vi ((up ((itN pass2 i (s, 0)).1) i 16 0) i 10)), (⟨bn, i * 17 + 11, none⟩, Vi ((up ((itN pass2 i (s, 0)).1) i 16 0) i 11)), (⟨bn, i * 17 + 12, none⟩, Vi ((up ((itN pass2 i (s, 0)).1) i 16 0) i 12))] := hC.append ((RCells.cons ((hS.cell (k := i * 17 + 12) (by omega)).trans (congrArg some (NV_int (up ((itN pass2 i (s, 0)).1) i 16 0) i 12 (by decide)))) (RCells.nil _)))
  replace hC : RCells w5 [(Ad bp 0, Vi gr), (Ad bp 1, Vi hold), (Ad bp 2, .slice na n nc), (Ad bp 3, .slice la m lc), (Ad bp 4, .slice (some ⟨bn, 0, none⟩) n cap), (⟨bn, i * 17 + 6, none⟩, Vi ((up ((itN pass2 i (s, 0)).1) i 16 0) i 6)), (⟨bn, i * 17 + 7, none⟩, Vi ((up ((itN pass2 i (s, 0)).1) i 16 0) i 7)), (⟨bn, i * 17 + 8, none⟩, Vi ((up ((itN pass2 i (s, 0)).1) i 16 0) i 8)), (⟨bn, i * 17 + 9, none⟩, Vi ((up ((itN pass2 i (s, 0)).1) i 16 0) i 9)), (⟨bn, i * 17 + 10, none⟩, Vi ((up ((itN pass2 i (s, 0)).1) i 16 0) i 10)), (⟨bn, i * 17 + 11, none⟩, Vi ((up ((itN pass2 i (s, 0)).1) i 16 0) i 11)), (⟨bn, i * 17 + 12, none⟩, Vi ((up ((itN pass2 i (s, 0)).1) i 16 0) i 12)), (⟨bn, i * 17 + 13, none⟩, Vi ((up ((itN pass2 i (s, 0)).1) i 16 0) i 13))] := hC.append ((RCells.cons ((hS.cell (k := i * 17 + 13) (by omega)).trans (congrArg some (NV_int (up ((itN pass2 i (s, 0)).1) i 16 0) i 13 (by decide)))) (RCells.nil _)))
  replace hC : RCells w5 [(Ad bp 0, Vi gr), (Ad bp 1, Vi hold), (Ad bp 2, .slice na n nc), (Ad bp 3, .slice la m lc), (Ad bp 4, .slice (some ⟨bn, 0, none⟩) n cap), (⟨bn, i * 17 + 6, none⟩, Vi ((up ((itN pass2 i (s, 0)).1) i 16 0) i 6)), (⟨bn, i * 17 + 7, none⟩, Vi ((up ((itN pass2 i (s, 0)).1) i 16 0) i 7)), (⟨bn, i * 17 + 8, none⟩, Vi ((up ((itN pass2 i (s, 0)).1) i 16 0) i 8)), (⟨bn, i * 17 + 9, none⟩, Vi ((up ((itN pass2 i (s, 0)).1) i 16 0) i 9)), (⟨bn, i * 17 + 10, none⟩, Vi ((up ((itN pass2 i (s, 0)).1) i 16 0) i 10)), (⟨bn, i * 17 + 11, none⟩, Vi ((up ((itN pass2 i (s, 0)).1) i 16 0) i 11)), (⟨bn, i * 17 + 12, none⟩, Vi ((up ((itN pass2 i (s, 0)).1) i 16 0) i 12)), (⟨bn, i * 17 + 13, none⟩, Vi ((up ((itN pass2 i (s, 0)).1) i 16 0) i 13)), (⟨bn, i * 17 + 14, none⟩, Vi ((up ((itN pass2 i (s, 0)).1) i 16 0) i 14))] := hC.append ((RCells.cons ((hS.cell (k := i * 17 + 14) (by omega)).trans (congrArg some (NV_int (up ((itN pass2 i (s, 0)).1) i 16 0) i 14 (by decide)))) (RCells.nil _)))
  refine Y.pv F (X.load rfl (F.ev 26 (.pointer (some ⟨bn, i * 17 + 6, none⟩))) (X.ldN (Try.agg102 _) (Try.siz102 _) (Y.atz (⟨bn, i * 17 + 6, none⟩) (Y.AtFrom.cons (hC.at 5 rfl) (Y.AtFrom.cons (hC.at 6 rfl) (Y.AtFrom.cons (hC.at 7 rfl) (Y.AtFrom.cons (hC.at 8 rfl) (Y.AtFrom.cons (hC.at 9 rfl) (Y.AtFrom.cons (hC.at 10 rfl) (Y.AtFrom.cons (hC.at 11 rfl) (Y.AtFrom.cons (hC.at 12 rfl) (Y.AtFrom.cons (hC.at 13 rfl) (Y.AtFrom.nil _ _ _))))))))))))) ?_;clear F ac;intro ac F
  refine Y.pv F (X.move rfl (X.kc (Vi 0) rfl)) ?_;clear F ac;intro ac F
  refine Y.nil ?_
  replace F : Fr ac 58 [(0, Vp bp), (2, Vi ((itN pass2 i (s, 0)).2)), (3, Vi i), (4, .pointer (some ⟨bn, i * 17, none⟩)), (11, Vi n), (12, Vi i), (13, .bool true), (27, .agg #[Vi ((up ((itN pass2 i (s, 0)).1) i 16 0) i 6), Vi ((up ((itN pass2 i (s, 0)).1) i 16 0) i 7), Vi ((up ((itN pass2 i (s, 0)).1) i 16 0) i 8), Vi ((up ((itN pass2 i (s, 0)).1) i 16 0) i 9), Vi ((up ((itN pass2 i (s, 0)).1) i 16 0) i 10), Vi ((up ((itN pass2 i (s, 0)).1) i 16 0) i 11), Vi ((up ((itN pass2 i (s, 0)).1) i 16 0) i 12), Vi ((up ((itN pass2 i (s, 0)).1) i 16 0) i 13), Vi ((up ((itN pass2 i (s, 0)).1) i 16 0) i 14)]), (28, Vi 0)] := F.sub _
  refine X.thenN ?_
  refine Y.block ?_
  have hE_2 := hE
  have hI1_2 := hI1
  have hP_2 := hP
  have hC_2 := hC
  refine Y.loop (fun me_ ac wr => ∃ (k : Nat), me_ = 9 - k ∧ k ≤ 9 ∧ Only (fun b => b = bn) w5 wr ∧ OwnP wr bn (n * 17) (NV (itN (pass1 i) k (up (itN pass2 i (s, 0)).1 i 16 0))) ∧ Fr ac 58 [(0, Vp bp), (2, Vi ((itN pass2 i (s, 0)).2)), (3, Vi i), (4, .pointer (some ⟨bn, i * 17, none⟩)), (11, Vi n), (12, Vi i), (13, .bool true), (27, .agg #[Vi ((up ((itN pass2 i (s, 0)).1) i 16 0) i 6), Vi ((up ((itN pass2 i (s, 0)).1) i 16 0) i 7), Vi ((up ((itN pass2 i (s, 0)).1) i 16 0) i 8), Vi ((up ((itN pass2 i (s, 0)).1) i 16 0) i 9), Vi ((up ((itN pass2 i (s, 0)).1) i 16 0) i 10), Vi ((up ((itN pass2 i (s, 0)).1) i 16 0) i 11), Vi ((up ((itN pass2 i (s, 0)).1) i 16 0) i 12), Vi ((up ((itN pass2 i (s, 0)).1) i 16 0) i 13), Vi ((up ((itN pass2 i (s, 0)).1) i 16 0) i 14)]), (28, Vi k)]) _ ⟨0, rfl, Nat.zero_le _, Only.refl _ _, hS, F.sub _⟩ ?_
  clear F hP hC hS ac hE hI1
  intro me_ ac w6 hI
  obtain ⟨k, rfl, hk9, hI2, hS, F⟩ := hI
  have hP := hP_2.on hI2
  have hE := hE_2.trans hI2
  have hI1 := hI1_2.trans hI2
  have hC := (hC_2.kc hI2 0 rfl (hC_2.kc hI2 1 rfl (hC_2.kc hI2 2 rfl (hC_2.kc hI2 3 rfl (hC_2.kc hI2 4 rfl (RCells.nil _))))))
  replace G := Gr.refl w6
  refine Y.seq ?_
  refine Y.lit (by kernel_rfl) ?_
  refine Y.pv F (X.binop rfl (F.e 28 rfl) (X.kc (Vi 9) rfl) (X.lssI Try.underlying3 rfl)) ?_;clear F ac;intro ac F
  refine Y.nil ?_
  replace F : Fr ac 58 [(0, Vp bp), (2, Vi ((itN pass2 i (s, 0)).2)), (3, Vi i), (4, .pointer (some ⟨bn, i * 17, none⟩)), (11, Vi n), (12, Vi i), (13, .bool true), (27, .agg #[Vi ((up ((itN pass2 i (s, 0)).1) i 16 0) i 6), Vi ((up ((itN pass2 i (s, 0)).1) i 16 0) i 7), Vi ((up ((itN pass2 i (s, 0)).1) i 16 0) i 8), Vi ((up ((itN pass2 i (s, 0)).1) i 16 0) i 9), Vi ((up ((itN pass2 i (s, 0)).1) i 16 0) i 10), Vi ((up ((itN pass2 i (s, 0)).1) i 16 0) i 11), Vi ((up ((itN pass2 i (s, 0)).1) i 16 0) i 12), Vi ((up ((itN pass2 i (s, 0)).1) i 16 0) i 13), Vi ((up ((itN pass2 i (s, 0)).1) i 16 0) i 14)]), (28, Vi k), (29, .bool (decide ((k : Int) < 9)))] := F.sub _
  refine X.thenN ?_
  refine Y.seq ?_
  cases h7 : decide ((k : Int) < 9) with
  | false =>
   try rw [h7] at F
   have h7p : ¬ ((k : Int) < 9) := of_decide_eq_false h7
   obtain rfl : k = 9 := by omega
   refine Y.condF (F.e 29 rfl) ?_
   refine Y.exit ?_
   refine X.thenX ?_
   refine X.thenX ?_
   refine X.blockX ?_
   refine X.thenN ?_
   refine Y.seq ?_
   refine Y.lit (by kernel_rfl) ?_
   refine Y.pv F (X.move rfl (F.ev 4 (.pointer (some ⟨bn, i * 17, none⟩)))) ?_;clear F ac;intro ac F
   refine Y.pv F (Y.nilC rfl (F.ev 48 (.pointer (some ⟨bn, i * 17, none⟩)))) ?_;clear F ac;intro ac F
   refine Y.pv F (X.field rfl (F.ev 49 (.pointer (some ⟨bn, i * 17, none⟩))) (X.fld Try.underlying104 rfl (Try.siz4 _) rfl rfl)) ?_;clear F ac;intro ac F
   replace hC : RCells w6 [(Ad bp 0, Vi gr), (Ad bp 1, Vi hold), (Ad bp 2, .slice na n nc), (Ad bp 3, .slice la m lc), (Ad bp 4, .slice (some ⟨bn, 0, none⟩) n cap), (⟨bn, i * 17 + 16, none⟩, .bool (bz ((itN (pass1 i) 9 (up (itN pass2 i (s, 0)).1 i 16 0)) i 16)))] := hC.append ((RCells.cons ((hS.cell (k := i * 17 + 16) (by omega)).trans (congrArg some (NV_bool (itN (pass1 i) 9 (up (itN pass2 i (s, 0)).1 i 16 0)) i))) (RCells.nil _)))
   refine Y.pv F (X.load rfl (F.ev 50 (.pointer (some ⟨bn, i * 17 + 16, none⟩))) (X.ld1 (Try.agg4 _) (hC.at 5 rfl))) ?_;clear F ac;intro ac F
   refine Y.nil ?_
   replace F : Fr ac 58 [(0, Vp bp), (2, Vi ((itN pass2 i (s, 0)).2)), (3, Vi i), (4, .pointer (some ⟨bn, i * 17, none⟩)), (11, Vi n), (12, Vi i), (13, .bool true), (27, .agg #[Vi ((up ((itN pass2 i (s, 0)).1) i 16 0) i 6), Vi ((up ((itN pass2 i (s, 0)).1) i 16 0) i 7), Vi ((up ((itN pass2 i (s, 0)).1) i 16 0) i 8), Vi ((up ((itN pass2 i (s, 0)).1) i 16 0) i 9), Vi ((up ((itN pass2 i (s, 0)).1) i 16 0) i 10), Vi ((up ((itN pass2 i (s, 0)).1) i 16 0) i 11), Vi ((up ((itN pass2 i (s, 0)).1) i 16 0) i 12), Vi ((up ((itN pass2 i (s, 0)).1) i 16 0) i 13), Vi ((up ((itN pass2 i (s, 0)).1) i 16 0) i 14)]), (28, Vi 9), (29, .bool false), (51, .bool (bz ((itN (pass1 i) 9 (up (itN pass2 i (s, 0)).1 i 16 0)) i 16)))] := F.sub _
   refine X.thenN ?_
   cases h8 : bz ((itN (pass1 i) 9 (up (itN pass2 i (s, 0)).1 i 16 0)) i 16) with
   | false =>
    try rw [h8] at F
    have hrow : (itN pass2 (i + 1) (s, 0)).2 = (itN pass2 i (s, 0)).2 := if_pos (show passN i (itN pass2 i (s, 0)).1 i 16 = 0 from bz_false h8)
    refine Y.condF (F.e 51 rfl) ?_
    refine Y.skip ?_
    refine X.blockN ?_
    refine X.thenN ?_
    refine Y.lit (by kernel_rfl) ?_
    refine Y.pv F (X.binop rfl (F.e 12 rfl) (X.kc (Vi 1) rfl) (X.addI Try.underlying3 rfl (by omega) (by omega))) ?_;clear F ac;intro ac F
    refine Y.pv F (X.move rfl (F.e 56 rfl)) ?_;clear F ac;intro ac F
    refine Y.nil ?_
    replace F : Fr ac 58 [(0, Vp bp), (2, Vi ((itN pass2 i (s, 0)).2)), (3, Vi i), (4, .pointer (some ⟨bn, i * 17, none⟩)), (11, Vi n), (12, Vi ((i : Int) + 1)), (13, .bool true), (27, .agg #[Vi ((up ((itN pass2 i (s, 0)).1) i 16 0) i 6), Vi ((up ((itN pass2 i (s, 0)).1) i 16 0) i 7), Vi ((up ((itN pass2 i (s, 0)).1) i 16 0) i 8), Vi ((up ((itN pass2 i (s, 0)).1) i 16 0) i 9), Vi ((up ((itN pass2 i (s, 0)).1) i 16 0) i 10), Vi ((up ((itN pass2 i (s, 0)).1) i 16 0) i 11), Vi ((up ((itN pass2 i (s, 0)).1) i 16 0) i 12), Vi ((up ((itN pass2 i (s, 0)).1) i 16 0) i 13), Vi ((up ((itN pass2 i (s, 0)).1) i 16 0) i 14)]), (28, Vi 9), (29, .bool false), (51, .bool false)] := F.sub _
    refine X.thenN ?_
    refine ⟨_, ?_, i + 1, rfl, by omega, hI1, hS, (by rw [hrow]; exact F.sub _)⟩
    omega
   | true =>
    try rw [h8] at F
    have hrow : (itN pass2 (i + 1) (s, 0)).2 = orV (itN pass2 i (s, 0)).2 (shlV 1 i) := if_neg (show ¬ passN i (itN pass2 i (s, 0)).1 i 16 = 0 from bz_true h8)
    refine Y.condT (F.e 51 rfl) ?_
    refine Y.lit (by kernel_rfl) ?_
    refine Y.pv F (X.move rfl (F.e 2 rfl)) ?_;clear F ac;intro ac F
    refine Y.pv F (X.move rfl (F.e 3 rfl)) ?_;clear F ac;intro ac F
    refine Y.pv F (X.binop rfl (X.kc (Vi 1) rfl) (F.e 53 rfl) (X.shlI Try.underlying3 rfl (by omega))) ?_;clear F ac;intro ac F
    refine Y.pv F (X.binop rfl (F.e 52 rfl) (F.e 54 rfl) (X.orI Try.underlying3 rfl)) ?_;clear F ac;intro ac F
    refine Y.pv F (X.assign rfl (F.e 55 rfl)) ?_;clear F ac;intro ac F
    refine Y.nil ?_
    replace F : Fr ac 58 [(0, Vp bp), (2, Vi (orV ((itN pass2 i (s, 0)).2 : Int) (shlV 1 (i : Int) : Int))), (3, Vi i), (4, .pointer (some ⟨bn, i * 17, none⟩)), (11, Vi n), (12, Vi i), (13, .bool true), (27, .agg #[Vi ((up ((itN pass2 i (s, 0)).1) i 16 0) i 6), Vi ((up ((itN pass2 i (s, 0)).1) i 16 0) i 7), Vi ((up ((itN pass2 i (s, 0)).1) i 16 0) i 8), Vi ((up ((itN pass2 i (s, 0)).1) i 16 0) i 9), Vi ((up ((itN pass2 i (s, 0)).1) i 16 0) i 10), Vi ((up ((itN pass2 i (s, 0)).1) i 16 0) i 11), Vi ((up ((itN pass2 i (s, 0)).1) i 16 0) i 12), Vi ((up ((itN pass2 i (s, 0)).1) i 16 0) i 13), Vi ((up ((itN pass2 i (s, 0)).1) i 16 0) i 14)]), (28, Vi 9), (29, .bool false), (51, .bool true)] := F.sub _
    refine X.blockN ?_
    refine X.thenN ?_
    refine Y.lit (by kernel_rfl) ?_
    refine Y.pv F (X.binop rfl (F.e 12 rfl) (X.kc (Vi 1) rfl) (X.addI Try.underlying3 rfl (by omega) (by omega))) ?_;clear F ac;intro ac F
    refine Y.pv F (X.move rfl (F.e 56 rfl)) ?_;clear F ac;intro ac F
    refine Y.nil ?_
    replace F : Fr ac 58 [(0, Vp bp), (2, Vi (orV ((itN pass2 i (s, 0)).2 : Int) (shlV 1 (i : Int) : Int))), (3, Vi i), (4, .pointer (some ⟨bn, i * 17, none⟩)), (11, Vi n), (12, Vi ((i : Int) + 1)), (13, .bool true), (27, .agg #[Vi ((up ((itN pass2 i (s, 0)).1) i 16 0) i 6), Vi ((up ((itN pass2 i (s, 0)).1) i 16 0) i 7), Vi ((up ((itN pass2 i (s, 0)).1) i 16 0) i 8), Vi ((up ((itN pass2 i (s, 0)).1) i 16 0) i 9), Vi ((up ((itN pass2 i (s, 0)).1) i 16 0) i 10), Vi ((up ((itN pass2 i (s, 0)).1) i 16 0) i 11), Vi ((up ((itN pass2 i (s, 0)).1) i 16 0) i 12), Vi ((up ((itN pass2 i (s, 0)).1) i 16 0) i 13), Vi ((up ((itN pass2 i (s, 0)).1) i 16 0) i 14)]), (28, Vi 9), (29, .bool false), (51, .bool true)] := F.sub _
    refine X.thenN ?_
    refine ⟨_, ?_, i + 1, rfl, by omega, hI1, hS, (by rw [hrow]; exact F.sub _)⟩
    omega
  | true =>
   try rw [h7] at F
   have h7p : ((k : Int) < 9) := of_decide_eq_true h7
   refine Y.condT (F.e 29 rfl) ?_
   refine Y.skip ?_
   refine X.thenN ?_
   refine Y.seq ?_
   refine Y.block ?_
   refine Y.seq ?_
   refine Y.lit (by kernel_rfl) ?_
   refine Y.pv F (X.move rfl (F.e 28 rfl)) ?_;clear F ac;intro ac F
   refine Y.pv F (Y.inx (vs := [Vi ((up ((itN pass2 i (s, 0)).1) i 16 0) i 6), Vi ((up ((itN pass2 i (s, 0)).1) i 16 0) i 7), Vi ((up ((itN pass2 i (s, 0)).1) i 16 0) i 8), Vi ((up ((itN pass2 i (s, 0)).1) i 16 0) i 9), Vi ((up ((itN pass2 i (s, 0)).1) i 16 0) i 10), Vi ((up ((itN pass2 i (s, 0)).1) i 16 0) i 11), Vi ((up ((itN pass2 i (s, 0)).1) i 16 0) i 12), Vi ((up ((itN pass2 i (s, 0)).1) i 16 0) i 13), Vi ((up ((itN pass2 i (s, 0)).1) i 16 0) i 14)]) (k := k) (v := Vi ((up ((itN pass2 i (s, 0)).1) i 16 0) i (6 + k))) rfl (F.e 27 rfl) (F.e 28 rfl) Try.underlying102 (Try.agg3 _) (Try.siz3 _) (by omega) (by omega) (tm9 ((up ((itN pass2 i (s, 0)).1) i 16 0) i) (by omega))) ?_;clear F ac;intro ac F
   refine Y.pv F (X.assign rfl (F.e 30 rfl)) ?_;clear F ac;intro ac F
   refine Y.pv F (X.assign rfl (F.e 31 rfl)) ?_;clear F ac;intro ac F
   refine Y.nil ?_
   replace F : Fr ac 58 [(0, Vp bp), (2, Vi ((itN pass2 i (s, 0)).2)), (3, Vi i), (4, .pointer (some ⟨bn, i * 17, none⟩)), (5, Vi k), (6, Vi ((up ((itN pass2 i (s, 0)).1) i 16 0) i (6 + k))), (11, Vi n), (12, Vi i), (13, .bool true), (27, .agg #[Vi ((up ((itN pass2 i (s, 0)).1) i 16 0) i 6), Vi ((up ((itN pass2 i (s, 0)).1) i 16 0) i 7), Vi ((up ((itN pass2 i (s, 0)).1) i 16 0) i 8), Vi ((up ((itN pass2 i (s, 0)).1) i 16 0) i 9), Vi ((up ((itN pass2 i (s, 0)).1) i 16 0) i 10), Vi ((up ((itN pass2 i (s, 0)).1) i 16 0) i 11), Vi ((up ((itN pass2 i (s, 0)).1) i 16 0) i 12), Vi ((up ((itN pass2 i (s, 0)).1) i 16 0) i 13), Vi ((up ((itN pass2 i (s, 0)).1) i 16 0) i 14)]), (28, Vi k), (29, .bool true)] := F.sub _
   refine X.thenN ?_
   refine Y.seq ?_
   refine Y.lit (by kernel_rfl) ?_
   refine Y.pv F (X.move rfl (F.e 6 rfl)) ?_;clear F ac;intro ac F
   refine Y.pv F (X.binop rfl (F.e 32 rfl) (X.kc (Vi 0) rfl) (X.gtrI Try.underlying3 rfl)) ?_;clear F ac;intro ac F
   refine Y.nil ?_
   replace F : Fr ac 58 [(0, Vp bp), (2, Vi ((itN pass2 i (s, 0)).2)), (3, Vi i), (4, .pointer (some ⟨bn, i * 17, none⟩)), (5, Vi k), (6, Vi ((up ((itN pass2 i (s, 0)).1) i 16 0) i (6 + k))), (11, Vi n), (12, Vi i), (13, .bool true), (27, .agg #[Vi ((up ((itN pass2 i (s, 0)).1) i 16 0) i 6), Vi ((up ((itN pass2 i (s, 0)).1) i 16 0) i 7), Vi ((up ((itN pass2 i (s, 0)).1) i 16 0) i 8), Vi ((up ((itN pass2 i (s, 0)).1) i 16 0) i 9), Vi ((up ((itN pass2 i (s, 0)).1) i 16 0) i 10), Vi ((up ((itN pass2 i (s, 0)).1) i 16 0) i 11), Vi ((up ((itN pass2 i (s, 0)).1) i 16 0) i 12), Vi ((up ((itN pass2 i (s, 0)).1) i 16 0) i 13), Vi ((up ((itN pass2 i (s, 0)).1) i 16 0) i 14)]), (28, Vi k), (29, .bool true), (33, .bool (decide ((0 : Int) < ((up ((itN pass2 i (s, 0)).1) i 16 0) i (6 + k)))))] := F.sub _
   refine X.thenN ?_
   cases h9 : decide ((0 : Int) < ((up ((itN pass2 i (s, 0)).1) i 16 0) i (6 + k))) with
   | false =>
    try rw [h9] at F
    have h9p : ¬ ((0 : Int) < ((up ((itN pass2 i (s, 0)).1) i 16 0) i (6 + k))) := of_decide_eq_false h9
    refine Y.condF (F.e 33 rfl) ?_
    refine Y.skip ?_
    refine X.blockN ?_
    refine X.thenN ?_
    refine Y.lit (by kernel_rfl) ?_
    refine Y.pv F (X.binop rfl (F.e 28 rfl) (X.kc (Vi 1) rfl) (X.addI Try.underlying3 rfl (by omega) (by omega))) ?_;clear F ac;intro ac F
    refine Y.pv F (X.move rfl (F.e 47 rfl)) ?_;clear F ac;intro ac F
    refine Y.nil ?_
    replace F : Fr ac 58 [(0, Vp bp), (2, Vi ((itN pass2 i (s, 0)).2)), (3, Vi i), (4, .pointer (some ⟨bn, i * 17, none⟩)), (5, Vi k), (6, Vi ((up ((itN pass2 i (s, 0)).1) i 16 0) i (6 + k))), (11, Vi n), (12, Vi i), (13, .bool true), (27, .agg #[Vi ((up ((itN pass2 i (s, 0)).1) i 16 0) i 6), Vi ((up ((itN pass2 i (s, 0)).1) i 16 0) i 7), Vi ((up ((itN pass2 i (s, 0)).1) i 16 0) i 8), Vi ((up ((itN pass2 i (s, 0)).1) i 16 0) i 9), Vi ((up ((itN pass2 i (s, 0)).1) i 16 0) i 10), Vi ((up ((itN pass2 i (s, 0)).1) i 16 0) i 11), Vi ((up ((itN pass2 i (s, 0)).1) i 16 0) i 12), Vi ((up ((itN pass2 i (s, 0)).1) i 16 0) i 13), Vi ((up ((itN pass2 i (s, 0)).1) i 16 0) i 14)]), (28, Vi ((k : Int) + 1)), (29, .bool true), (33, .bool false)] := F.sub _
    refine X.thenN ?_
    refine ⟨_, ?_, k + 1, rfl, by omega, hI2, (by rw [itN_succ, pass1_neg (by rw [pass_keep (by omega) k (Nat.le_refl _) (by omega)]; omega)]; exact hS), F.sub _⟩
    omega
   | true =>
    try rw [h9] at F
    have h9p : ((0 : Int) < ((up ((itN pass2 i (s, 0)).1) i 16 0) i (6 + k))) := of_decide_eq_true h9
    have hv := ((hki.passN hi2 k (by omega)).up (i := i) (j := 16) (v := 1) (by decide) (by omega)).t i hi2 (6 + k) (by omega) (by omega)
    refine Y.condT (F.e 33 rfl) ?_
    refine Y.seq ?_
    refine Y.lit (by kernel_rfl) ?_
    refine Y.pv F (X.move rfl (F.ev 4 (.pointer (some ⟨bn, i * 17, none⟩)))) ?_;clear F ac;intro ac F
    refine Y.pv F (Y.nilC rfl (F.ev 34 (.pointer (some ⟨bn, i * 17, none⟩)))) ?_;clear F ac;intro ac F
    refine Y.pv F (X.field rfl (F.ev 35 (.pointer (some ⟨bn, i * 17, none⟩))) (X.fld Try.underlying104 rfl (Try.siz4 _) rfl rfl)) ?_;clear F ac;intro ac F
    refine Y.punit F (X.w0 rfl) rfl (X.store rfl (F.ev 36 (.pointer (some ⟨bn, i * 17 + 16, none⟩))) (X.kc (.bool true) rfl) (hS.st1 (Try.siz4 _) rfl rfl (by omega))) ?_;clear F ac;intro ac F
    have hon := Y.set_only w6 bn (i * 17 + 16) (.bool true)
    have hS2 := hS.set (k := i * 17 + 16) (.bool true)
    rw [NV_upB] at hS2
    generalize w6.setCell ⟨bn, i * 17 + 16, none⟩ (.bool true) = w10 at *
    replace hP := hP.on hon
    replace hC := (hC.kc hon 0 rfl (hC.kc hon 1 rfl (hC.kc hon 2 rfl (hC.kc hon 3 rfl (hC.kc hon 4 rfl (RCells.nil _))))))
    replace hE := hE.step hon (.inl rfl)
    replace hI1 := hI1.step hon (.inl rfl)
    replace hI2 := hI2.step hon (.inl rfl)
    replace G := Gr.refl w10
    replace hS : OwnP w10 bn (n * 17) (NV (up (itN (pass1 i) k (up (itN pass2 i (s, 0)).1 i 16 0)) i 16 1)) := hS2
    clear hS2 hon
    refine Y.nil ?_
    replace F : Fr ac 58 [(0, Vp bp), (2, Vi ((itN pass2 i (s, 0)).2)), (3, Vi i), (4, .pointer (some ⟨bn, i * 17, none⟩)), (5, Vi k), (6, Vi ((up ((itN pass2 i (s, 0)).1) i 16 0) i (6 + k))), (11, Vi n), (12, Vi i), (13, .bool true), (27, .agg #[Vi ((up ((itN pass2 i (s, 0)).1) i 16 0) i 6), Vi ((up ((itN pass2 i (s, 0)).1) i 16 0) i 7), Vi ((up ((itN pass2 i (s, 0)).1) i 16 0) i 8), Vi ((up ((itN pass2 i (s, 0)).1) i 16 0) i 9), Vi ((up ((itN pass2 i (s, 0)).1) i 16 0) i 10), Vi ((up ((itN pass2 i (s, 0)).1) i 16 0) i 11), Vi ((up ((itN pass2 i (s, 0)).1) i 16 0) i 12), Vi ((up ((itN pass2 i (s, 0)).1) i 16 0) i 13), Vi ((up ((itN pass2 i (s, 0)).1) i 16 0) i 14)]), (28, Vi k), (29, .bool true), (33, .bool true)] := F.sub _
    refine X.thenN ?_
    replace hC : RCells w10 [(Ad bp 0, Vi gr), (Ad bp 1, Vi hold), (Ad bp 2, .slice na n nc), (Ad bp 3, .slice la m lc), (Ad bp 4, .slice (some ⟨bn, 0, none⟩) n cap), (⟨bn, i * 17 + 6 + k, none⟩, Vi ((up (itN (pass1 i) k (up (itN pass2 i (s, 0)).1 i 16 0)) i 16 1) i (6 + k)))] := hC.append ((RCells.cons ((hS.cell (k := i * 17 + 6 + k) (by omega)).trans (congrArg some (NV_tm (up (itN (pass1 i) k (up (itN pass2 i (s, 0)).1 i 16 0)) i 16 1) i k (by omega)))) (RCells.nil _)))
    refine Y.regionS F [some (.pointer (some ⟨bn, i * 17, none⟩)), some (Vi k), some (.pointer (some ⟨bn, i * 17, none⟩)), some (.pointer (some ⟨bn, i * 17 + 6, none⟩)), some (.pointer (some ⟨bn, i * 17 + 6 + k, none⟩)), some (Vi ((up (itN (pass1 i) k (up (itN pass2 i (s, 0)).1 i 16 0)) i 16 1) i (6 + k))), some (Vi (((up (itN (pass1 i) k (up (itN pass2 i (s, 0)).1 i 16 0)) i 16 1) i (6 + k) : Int) - 1)), some (.pointer (some ⟨bn, i * 17, none⟩)), some (.pointer (some ⟨bn, i * 17 + 6, none⟩)), some (.pointer (some ⟨bn, i * 17 + 6 + k, none⟩)), none] [] 10 (fun _ W => Only (fun x => x = bn) w10 W ∧ OwnP W bn (n * 17) (NV (up (up (itN (pass1 i) k (up (itN pass2 i (s, 0)).1 i 16 0)) i 16 1) i (6 + k) (((up (itN (pass1 i) k (up (itN pass2 i (s, 0)).1 i 16 0)) i 16 1) i (6 + k) : Int) - 1)))) rfl ⟨by kernel_rfl, of_decide_eq_true (by kernel_rfl), by kernel_rfl, by kernel_rfl, by kernel_rfl⟩ (of_decide_eq_true (by kernel_rfl)) ⟨?_, ?_, ?_, ?_, ?_, ?_, ?_, ?_, ?_, ?_, ?_, trivial⟩ ?_
    ·intro ac done u W Sx hT
     have hs := Sx.no 10 (by kernel_rfl)
     have hR := hT.1 hs
     exact X.vl (X.move rfl (Sx.ev 4 (.pointer (some ⟨bn, i * 17, none⟩)))) (Y.RT.of hs rfl hR.st0)
    ·intro ac done u W Sx hT
     have hs := Sx.no 10 (by kernel_rfl)
     have hR := hT.1 hs
     exact X.vl (X.move rfl (Sx.ev 5 (Vi k))) (Y.RT.of hs rfl hR.st0)
    ·intro ac done u W Sx hT
     have hs := Sx.no 10 (by kernel_rfl)
     have hR := hT.1 hs
     exact X.vl (Y.nilC rfl (Sx.ev 37 (.pointer (some ⟨bn, i * 17, none⟩)))) (Y.RT.of hs rfl hR.st0)
    ·intro ac done u W Sx hT
     have hs := Sx.no 10 (by kernel_rfl)
     have hR := hT.1 hs
     exact X.vl (X.field rfl (Sx.ev 39 (.pointer (some ⟨bn, i * 17, none⟩))) (X.fld Try.underlying104 rfl (Try.siz102 _) rfl rfl)) (Y.RT.of hs rfl hR.st0)
    ·intro ac done u W Sx hT
     have hs := Sx.no 10 (by kernel_rfl)
     have hR := hT.1 hs
     exact X.val (X.w0 rfl) rfl (X.index rfl (Sx.ev 40 (.pointer (some ⟨bn, i * 17 + 6, none⟩))) (Sx.ev 38 (Vi k)) (Y.idxA (k := k) Try.underlying102 (Try.siz3 _) (by decide) (by omega) (by omega) (by rw [Nat.mul_one]; exact Y.addr_add _ _ _))) (Y.RT.of hs rfl hR.st0)
    ·intro ac done u W Sx hT
     have hs := Sx.no 10 (by kernel_rfl)
     have hR := hT.1 hs
     have g : Gr w10 W := hR.1
     exact X.vl (X.load rfl (Sx.ev 41 (.pointer (some ⟨bn, i * 17 + 6 + k, none⟩))) (X.ld1 (Try.agg3 _) ((hC.gr g).at 5 rfl))) (Y.RT.of hs rfl hR.st0)
    ·intro ac done u W Sx hT
     have hs := Sx.no 10 (by kernel_rfl)
     have hR := hT.1 hs
     exact X.vl (X.binop rfl (Sx.ev 42 (Vi ((up (itN (pass1 i) k (up (itN pass2 i (s, 0)).1 i 16 0)) i 16 1) i (6 + k)))) (X.kc (Vi 1) rfl) (X.subI Try.underlying3 rfl (by omega) (by omega))) (Y.RT.of hs rfl hR.st0)
    ·intro ac done u W Sx hT
     have hs := Sx.no 10 (by kernel_rfl)
     have hR := hT.1 hs
     exact X.vl (Y.nilC rfl (Sx.ev 37 (.pointer (some ⟨bn, i * 17, none⟩)))) (Y.RT.of hs rfl hR.st0)
    ·intro ac done u W Sx hT
     have hs := Sx.no 10 (by kernel_rfl)
     have hR := hT.1 hs
     exact X.vl (X.field rfl (Sx.ev 44 (.pointer (some ⟨bn, i * 17, none⟩))) (X.fld Try.underlying104 rfl (Try.siz102 _) rfl rfl)) (Y.RT.of hs rfl hR.st0)
    ·intro ac done u W Sx hT
     have hs := Sx.no 10 (by kernel_rfl)
     have hR := hT.1 hs
     exact X.val (X.w0 rfl) rfl (X.index rfl (Sx.ev 45 (.pointer (some ⟨bn, i * 17 + 6, none⟩))) (Sx.ev 38 (Vi k)) (Y.idxA (k := k) Try.underlying102 (Try.siz3 _) (by decide) (by omega) (by omega) (by rw [Nat.mul_one]; exact Y.addr_add _ _ _))) (Y.RT.of hs rfl hR.st0)
    ·intro ac done u W Sx hT
     have hR := hT.1 Sx.nd
     have g : Gr w10 W := hR.1
     have hS2 := (hS.gr g).set (k := i * 17 + 6 + k) (Vi (((up (itN (pass1 i) k (up (itN pass2 i (s, 0)).1 i 16 0)) i 16 1) i (6 + k) : Int) - 1))
     rw [NV_upt _ _ _ (by omega)] at hS2
     exact X.unit (X.w0 rfl) rfl (X.store rfl (Sx.ev 46 (.pointer (some ⟨bn, i * 17 + 6 + k, none⟩))) (Sx.ev 43 (Vi (((up (itN (pass1 i) k (up (itN pass2 i (s, 0)).1 i 16 0)) i 16 1) i (6 + k) : Int) - 1))) ((hS.gr g).st1 (Try.siz3 _) rfl rfl (by omega))) (Y.RT.fin ⟨(g.only _).trans (Y.set_only _ _ _ _), hS2⟩)
    rintro ac u w11 hs hd hl_ ho ⟨hon, hS2⟩
    replace F : Fr ac 58 [(0, Vp bp), (2, Vi ((itN pass2 i (s, 0)).2)), (3, Vi i), (4, .pointer (some ⟨bn, i * 17, none⟩)), (5, Vi k), (6, Vi ((up ((itN pass2 i (s, 0)).1) i 16 0) i (6 + k))), (11, Vi n), (12, Vi i), (13, .bool true), (27, .agg #[Vi ((up ((itN pass2 i (s, 0)).1) i 16 0) i 6), Vi ((up ((itN pass2 i (s, 0)).1) i 16 0) i 7), Vi ((up ((itN pass2 i (s, 0)).1) i 16 0) i 8), Vi ((up ((itN pass2 i (s, 0)).1) i 16 0) i 9), Vi ((up ((itN pass2 i (s, 0)).1) i 16 0) i 10), Vi ((up ((itN pass2 i (s, 0)).1) i 16 0) i 11), Vi ((up ((itN pass2 i (s, 0)).1) i 16 0) i 12), Vi ((up ((itN pass2 i (s, 0)).1) i 16 0) i 13), Vi ((up ((itN pass2 i (s, 0)).1) i 16 0) i 14)]), (28, Vi k), (29, .bool true), (33, .bool true)] := X.fr hs hd hl_ _ (by kernel_rfl)
    clear hs hd hl_ ho
    replace hP := hP.on hon
    replace hC := (hC.kc hon 0 rfl (hC.kc hon 1 rfl (hC.kc hon 2 rfl (hC.kc hon 3 rfl (hC.kc hon 4 rfl (RCells.nil _))))))
    replace hE := hE.step hon (.inl rfl)
    replace hI1 := hI1.step hon (.inl rfl)
    replace hI2 := hI2.step hon (.inl rfl)
    replace G := Gr.refl w11
    replace hS : OwnP w11 bn (n * 17) (NV (up (up (itN (pass1 i) k (up (itN pass2 i (s, 0)).1 i 16 0)) i 16 1) i (6 + k) (((up (itN (pass1 i) k (up (itN pass2 i (s, 0)).1 i 16 0)) i 16 1) i (6 + k) : Int) - 1))) := hS2
    clear hS2 hon
    rw [show ∀ v : PS, (up v i 16 1) i (6 + k) = v i (6 + k) from fun v => up_ne _ _ (.inr (by omega))] at hS
    refine X.blockN ?_
    refine X.thenN ?_
    refine Y.lit (by kernel_rfl) ?_
    refine Y.pv F (X.binop rfl (F.e 28 rfl) (X.kc (Vi 1) rfl) (X.addI Try.underlying3 rfl (by omega) (by omega))) ?_;clear F ac;intro ac F
    refine Y.pv F (X.move rfl (F.e 47 rfl)) ?_;clear F ac;intro ac F
    refine Y.nil ?_
    replace F : Fr ac 58 [(0, Vp bp), (2, Vi ((itN pass2 i (s, 0)).2)), (3, Vi i), (4, .pointer (some ⟨bn, i * 17, none⟩)), (5, Vi k), (6, Vi ((up ((itN pass2 i (s, 0)).1) i 16 0) i (6 + k))), (11, Vi n), (12, Vi i), (13, .bool true), (27, .agg #[Vi ((up ((itN pass2 i (s, 0)).1) i 16 0) i 6), Vi ((up ((itN pass2 i (s, 0)).1) i 16 0) i 7), Vi ((up ((itN pass2 i (s, 0)).1) i 16 0) i 8), Vi ((up ((itN pass2 i (s, 0)).1) i 16 0) i 9), Vi ((up ((itN pass2 i (s, 0)).1) i 16 0) i 10), Vi ((up ((itN pass2 i (s, 0)).1) i 16 0) i 11), Vi ((up ((itN pass2 i (s, 0)).1) i 16 0) i 12), Vi ((up ((itN pass2 i (s, 0)).1) i 16 0) i 13), Vi ((up ((itN pass2 i (s, 0)).1) i 16 0) i 14)]), (28, Vi ((k : Int) + 1)), (29, .bool true), (33, .bool true)] := F.sub _
    refine X.thenN ?_
    refine ⟨_, ?_, k + 1, rfl, by omega, hI2, (by rw [itN_succ, pass1_pos (by rw [pass_keep (by omega) k (Nat.le_refl _) (by omega)]; omega)]; exact hS), F.sub _⟩
    omega
end
section
open Go.RowKit

set_option maxRecDepth 100000 in
set_option maxHeartbeats 1000000 in
theorem run_any (wB w : World) (bp bn : Nat) (gr hold : Int) (na la pa : Option Addr) (n nc m lc cap : Nat) (l : List (List Int)) (s : PS) (t : Nat) (hP : PlE wB w bp bn gr hold na la pa n nc m lc cap l) (hS : OwnP w bn (n * 17) (NV s)) (h16 : n ≤ 16) (hn : ∃ nd : List (List Int), ∃ tt : Int, nd.length = n ∧ gr ≤ 8 ∧ ∀ x ∈ l, NuOk gr nd tt x) (hok0 : SOk n s) (h1 : 1 ≤ hold) (h100 : hold ≤ 100) (hg0 : 0 ≤ gr) (ht : t ≤ 1000) :
  Calls Try.prog 45 #[Vp bp, Vi t] w fun e w' => ∃ v1 v2, e = .returned (.tuple #[v1, v2]) ∧ Only (fun b => b = bn) w w' ∧ OwnP w' bn (n * 17) (NV (runFrom hold gr.toNat n l s t).s) ∧ OwnR w' w.heap.size 3 1 v1 t ((runFrom hold gr.toNat n l s t).asked.map (Value.int .i64)) ∧ OwnR w' w.heap.size 3 1 v2 t ((runFrom hold gr.toNat n l s t).rows.map (Value.int .i64)) := by
 have G := Gr.refl w
 have hE := Only.refl (fun b => b = bn) w
 have hC := hP.p
 have hpb := hP.pb
 have hnb := hP.nb
 have hgb := hP.g.size
 have hpe := hP.ne
 have hplt := hP.lt
 have hnlt := hS.lt
 obtain ⟨nd, tt, hndl, hg8, hnu⟩ := id hn
 have hlt : ∀ x ∈ l, (nv x 2).toNat < n := fun x hx => by have := (hnu x hx).n0; have := (hnu x hx).n1; omega
 refine Y.calls 31 Try.func45 rfl rfl ?_
 intro ac F0
 have F : Fr ac 31 [(0, Vp bp), (1, Vi t)] := F0.sub _
 clear F0
 refine Y.seq ?_
 refine Y.lit (by kernel_rfl) ?_
 refine Y.pv F (X.assign rfl (X.kc (.slice none 0 0) rfl)) ?_;clear F ac;intro ac F
 refine Y.pv F (X.assign rfl (X.kc (.slice none 0 0) rfl)) ?_;clear F ac;intro ac F
 refine Y.nil ?_
 replace F : Fr ac 31 [(0, Vp bp), (1, Vi t), (4, .slice none 0 0), (5, .slice none 0 0)] := F.sub _
 refine X.thenN ?_
 refine Y.seq ?_
 refine Y.seq ?_
 refine Y.lit (by kernel_rfl) ?_
 refine Y.pv F (X.move rfl (F.e 1 rfl)) ?_;clear F ac;intro ac F
 refine Y.pv F (X.move rfl (X.kc (Vi 0) rfl)) ?_;clear F ac;intro ac F
 refine Y.nil ?_
 replace F : Fr ac 31 [(0, Vp bp), (4, .slice none 0 0), (5, .slice none 0 0), (7, Vi t), (8, Vi 0)] := F.sub _
 refine X.thenN ?_
 refine Y.block ?_
 refine Y.loop (fun me_ ac wr => ∃ (i : Nat) (v1 v2 : Value), me_ = t - i ∧ i ≤ t ∧ Only (fun b => b = bn) w wr ∧ OwnP wr bn (n * 17) (NV (runFrom hold gr.toNat n l s i).s) ∧ OwnR wr w.heap.size 3 1 v1 i ((runFrom hold gr.toNat n l s i).asked.map (Value.int .i64)) ∧ OwnR wr w.heap.size 3 1 v2 i ((runFrom hold gr.toNat n l s i).rows.map (Value.int .i64)) ∧ (∀ b, v1.ownBlock = some b → ¬ v2.ownBlock = some b) ∧ Fr ac 31 [(0, Vp bp), (4, v1), (5, v2), (7, Vi t), (8, Vi i)]) _ ⟨0, _, _, rfl, Nat.zero_le _, Only.refl _ _, hS, OwnR.nil _ _ _ _, OwnR.nil _ _ _ _, (fun b e => by simp [Value.ownBlock] at e), F.sub _⟩ ?_
 have hP0 := hP
 clear F hE hC hS G ac hP
 intro me_ ac w3 hI
 obtain ⟨i, v1, v2, rfl, hi, hE, hS, hO1, hO2, hdis, F⟩ := hI
 have hP := hP0.on hE
 have hC := hP.p
 have G := Gr.refl w3
 have hok := (hok0.run (gr := gr.toNat) h1 h100 hlt i)
 have hlen := runFrom_len (n := n) (gr := gr.toNat) (s := s) (hold := hold) (l := l) i
 refine Y.seq ?_
 refine Y.lit (by kernel_rfl) ?_
 refine Y.pv F (X.binop rfl (F.e 8 rfl) (F.e 7 rfl) (X.lssI Try.underlying3 rfl)) ?_;clear F ac;intro ac F
 refine Y.nil ?_
 replace F : Fr ac 31 [(0, Vp bp), (4, v1), (5, v2), (7, Vi t), (8, Vi i), (9, .bool (decide ((i : Int) < t)))] := F.sub _
 refine X.thenN ?_
 refine Y.seq ?_
 cases h4 : decide ((i : Int) < t) with
 | false =>
  try rw [h4] at F
  have h4p : ¬ ((i : Int) < t) := of_decide_eq_false h4
  obtain rfl : t = i := by omega
  refine Y.condF (F.e 9 rfl) ?_
  refine Y.exit ?_
  refine X.thenX ?_
  refine X.thenX ?_
  refine X.blockX ?_
  refine X.thenN ?_
  refine Y.seq ?_
  refine Y.lit (by kernel_rfl) ?_
  refine Y.pv F (X.move rfl (F.e 4 rfl)) ?_;clear F ac;intro ac F
  refine Y.pv F (X.move rfl (F.e 5 rfl)) ?_;clear F ac;intro ac F
  refine Y.pv F (X.assign rfl (F.e 29 rfl)) ?_;clear F ac;intro ac F
  refine Y.pv F (X.assign rfl (F.e 30 rfl)) ?_;clear F ac;intro ac F
  refine Y.nil ?_
  replace F : Fr ac 31 [(4, v1), (5, v2)] := F.sub _
  refine X.thenN ?_
  refine Y.ret ?_
  exact Y.ret0 (v := .tuple #[v1, v2]) F (Y.rs2 F rfl (by kernel_rfl) (by kernel_rfl)) ⟨_, _, rfl, hE, hS, hO1, hO2⟩
 | true =>
  try rw [h4] at F
  have h4p : ((i : Int) < t) := of_decide_eq_true h4
  refine Y.condT (F.e 9 rfl) ?_
  refine Y.skip ?_
  refine X.thenN ?_
  refine Y.seq ?_
  refine Y.block ?_
  refine Y.seq ?_
  refine Y.lit (by kernel_rfl) ?_
  refine Y.pv F (X.move rfl (F.e 8 rfl)) ?_;clear F ac;intro ac F
  refine Y.pv F (X.assign rfl (F.e 10 rfl)) ?_;clear F ac;intro ac F
  refine Y.nil ?_
  replace F : Fr ac 31 [(0, Vp bp), (4, v1), (5, v2), (6, Vi i), (7, Vi t), (8, Vi i)] := F.sub _
  refine X.thenN ?_
  refine Y.seq ?_
  refine Y.lit (by kernel_rfl) ?_
  refine Y.pv F (X.move rfl (F.e 4 rfl)) ?_;clear F ac;intro ac F
  refine Y.pv F (X.move rfl (F.e 0 rfl)) ?_;clear F ac;intro ac F
  refine Y.pv F (X.move rfl (F.e 6 rfl)) ?_;clear F ac;intro ac F
  refine Y.pcall F (X.w0 rfl) rfl (X.enter (F := 70) rfl (X.kc (.func (.func 70) #[] #[]) rfl) (X.a2 (F.e 12 rfl) (F.e 13 rfl)) (enters_of Try.func70 (by kernel_rfl) rfl _)) (ask_any wB w3 bp bn gr hold na la pa n nc m lc cap l ((runFrom hold gr.toNat n l s i).s) i hP hS h16 hn) ?_
  clear F ac
  rintro e w5 ⟨rfl, hon, hS2⟩
  refine ⟨_, rfl, ?_⟩
  intro ac F
  replace hP := hP.on hon
  replace hE := hE.step hon (.inl rfl)
  replace hO1 := hO1.only hon (fun b e h => by have := (hO1.ge e).1; omega)
  replace hO2 := hO2.only hon (fun b e h => by have := (hO2.ge e).1; omega)
  replace hC := hP.p
  replace G := Gr.refl w5
  replace hS := hS2
  clear hS2 hon
  refine Y.pv F (X.bs rfl (X.b1 (F.e 14 rfl)) (Try.bs34_1 (asksG n (askS l i ((runFrom hold gr.toNat n l s i).s))) _)) ?_;clear F ac;intro ac F
  have g := Gr.alloc w5 (.cells #[Vi (asksG n (askS l i ((runFrom hold gr.toNat n l s i).s)))] 3)
  have hb := heap_alloc_new w5 (.cells #[Vi (asksG n (askS l i ((runFrom hold gr.toNat n l s i).s)))] 3)
  have hbl : w5.heap.size < (w5.alloc (.cells #[Vi (asksG n (askS l i ((runFrom hold gr.toNat n l s i).s)))] 3)).heap.size := by simp
  generalize w5.alloc (.cells #[Vi (asksG n (askS l i ((runFrom hold gr.toNat n l s i).s)))] 3) = w6 at *
  replace G := G.trans g
  replace hC := hC.gr g
  replace hE := hE.thenGr g
  replace hP := hP.gr g
  replace hS := hS.gr g
  replace hO1 := hO1.gr g
  replace hO2 := hO2.gr g
  have hbk := hb
  clear g hb hbl
  refine Y.wpL_plain rfl fun _ hK => wp_pushV Try.underlying34 Try.info3 rfl (by decide) rfl (F.e 11 rfl) (F.e 15 rfl) hO1 (m := 1) (news := [Vi (asksG n (askS l i ((runFrom hold gr.toNat n l s i).s)))]) rfl (cells_at (vs := [Vi (asksG n (askS l i ((runFrom hold gr.toNat n l s i).s)))]) hbk) rfl (by omega) (by decide) hE.size (fun v' w7 hO' hon hat => hK _ _ ?_)
  refine Y.pput F rfl ?_
  clear F ac hbk
  intro ac F
  have hge := fun b e => hO1.ge (b := b) e
  replace hP := hP.only hon (fun i e => by have := (hge i e).1; exact ⟨by omega, by omega⟩)
  replace hE := hE.step2 hon (fun r e => .inr (hge r e).1)
  replace hS := hS.only hon (fun e => by have := (hge _ e).1; omega)
  have hlt_ := fun b e => (hO2.ge (b := b) e).2
  replace hO2 := hO2.only hon (fun b e h => hdis b h e)
  replace hC := hP.p
  replace G := Gr.refl w7

  replace hdis : ∀ b, v'.ownBlock = some b → ¬ v2.ownBlock = some b := fun b e h => by
   rcases hat with hat | hat
   ·rw [hat] at e; exact hdis b e h
   ·rw [hat] at e; injection e with e; have := hlt_ b h; omega
  clear hat hge hlt_ hon
  replace hO1 := hO'
  clear hO'
  obtain ⟨v1', hv1⟩ : ∃ x, x = v' := ⟨_, rfl⟩
  subst hv1
  refine Y.pv F (X.assign rfl (F.e 16 rfl)) ?_;clear F ac;intro ac F
  refine Y.nil ?_
  replace F : Fr ac 31 [(0, Vp bp), (4, v1'), (5, v2), (6, Vi i), (7, Vi t), (8, Vi i)] := F.sub _
  refine X.thenN ?_
  refine Y.seq ?_
  refine Y.lit (by kernel_rfl) ?_
  refine Y.pv F (X.move rfl (F.e 0 rfl)) ?_;clear F ac;intro ac F
  refine Y.pv F (X.move rfl (F.e 6 rfl)) ?_;clear F ac;intro ac F
  refine Y.pcall F (X.w0 rfl) rfl (X.enter (F := 71) rfl (X.kc (.func (.func 71) #[] #[]) rfl) (X.a2 (F.e 17 rfl) (F.e 18 rfl)) (enters_of Try.func71 (by kernel_rfl) rfl _)) (disturb_any wB w7 bp bn gr hold na la pa n nc m lc cap l (askS l i ((runFrom hold gr.toNat n l s i).s)) i hP hS h16 hn (hok.askS l i) h1 h100 ⟨by omega, by omega⟩) ?_
  clear F ac
  rintro e w8 ⟨rfl, hon, hS2⟩
  refine ⟨_, rfl, ?_⟩
  intro ac F
  replace hP := hP.on hon
  replace hE := hE.step hon (.inl rfl)
  replace hO1 := hO1.only hon (fun b e h => by have := (hO1.ge e).1; omega)
  replace hO2 := hO2.only hon (fun b e h => by have := (hO2.ge e).1; omega)
  replace hC := hP.p
  replace G := Gr.refl w8
  replace hS := hS2
  clear hS2 hon
  refine Y.nil ?_
  replace F : Fr ac 31 [(0, Vp bp), (4, v1'), (5, v2), (6, Vi i), (7, Vi t), (8, Vi i)] := F.sub _
  refine X.thenN ?_
  refine Y.seq ?_
  refine Y.lit (by kernel_rfl) ?_
  refine Y.pv F (X.move rfl (F.e 0 rfl)) ?_;clear F ac;intro ac F
  refine Y.pv F (X.move rfl (F.e 6 rfl)) ?_;clear F ac;intro ac F
  refine Y.pcall F (X.w0 rfl) rfl (X.enter (F := 72) rfl (X.kc (.func (.func 72) #[] #[]) rfl) (X.a2 (F.e 20 rfl) (F.e 21 rfl)) (enters_of Try.func72 (by kernel_rfl) rfl _)) (send_any wB w8 bp bn gr hold na la pa n nc m lc cap l (disturbS hold l n i (askS l i ((runFrom hold gr.toNat n l s i).s))) i hP hS h16 hn hg0) ?_
  clear F ac
  rintro e w9 ⟨rfl, hon, hS2⟩
  refine ⟨_, rfl, ?_⟩
  intro ac F
  replace hP := hP.on hon
  replace hE := hE.step hon (.inl rfl)
  replace hO1 := hO1.only hon (fun b e h => by have := (hO1.ge e).1; omega)
  replace hO2 := hO2.only hon (fun b e h => by have := (hO2.ge e).1; omega)
  replace hC := hP.p
  replace G := Gr.refl w9
  replace hS := hS2
  clear hS2 hon
  refine Y.nil ?_
  replace F : Fr ac 31 [(0, Vp bp), (4, v1'), (5, v2), (7, Vi t), (8, Vi i)] := F.sub _
  refine X.thenN ?_
  refine Y.lit (by kernel_rfl) ?_
  refine Y.pv F (X.move rfl (F.e 5 rfl)) ?_;clear F ac;intro ac F
  refine Y.pv F (X.move rfl (F.e 0 rfl)) ?_;clear F ac;intro ac F
  refine Y.pcall F (X.w0 rfl) rfl (X.enter (F := 73) rfl (X.kc (.func (.func 73) #[] #[]) rfl) (X.a1 (F.e 24 rfl)) (enters_of Try.func73 (by kernel_rfl) rfl _)) (pass_any wB w9 bp bn gr hold na la pa n nc m lc cap l (sendS hold gr.toNat n (lostF l i) (disturbS hold l n i (askS l i ((runFrom hold gr.toNat n l s i).s)))) hP hS h16 (((hok.askS l i).disturb h1 h100 hlt i).send h1 h100)) ?_
  clear F ac
  rintro e w10 ⟨rfl, hon, hS2⟩
  refine ⟨_, rfl, ?_⟩
  intro ac F
  replace hP := hP.on hon
  replace hE := hE.step hon (.inl rfl)
  replace hO1 := hO1.only hon (fun b e h => by have := (hO1.ge e).1; omega)
  replace hO2 := hO2.only hon (fun b e h => by have := (hO2.ge e).1; omega)
  replace hC := hP.p
  replace G := Gr.refl w10
  replace hS := hS2
  clear hS2 hon
  refine Y.pv F (X.bs rfl (X.b1 (F.e 25 rfl)) (Try.bs34_1 ((passS n (sendS hold gr.toNat n (lostF l i) (disturbS hold l n i (askS l i ((runFrom hold gr.toNat n l s i).s))))).2) _)) ?_;clear F ac;intro ac F
  have g := Gr.alloc w10 (.cells #[Vi ((passS n (sendS hold gr.toNat n (lostF l i) (disturbS hold l n i (askS l i ((runFrom hold gr.toNat n l s i).s))))).2)] 3)
  have hb := heap_alloc_new w10 (.cells #[Vi ((passS n (sendS hold gr.toNat n (lostF l i) (disturbS hold l n i (askS l i ((runFrom hold gr.toNat n l s i).s))))).2)] 3)
  have hbl : w10.heap.size < (w10.alloc (.cells #[Vi ((passS n (sendS hold gr.toNat n (lostF l i) (disturbS hold l n i (askS l i ((runFrom hold gr.toNat n l s i).s))))).2)] 3)).heap.size := by simp
  generalize w10.alloc (.cells #[Vi ((passS n (sendS hold gr.toNat n (lostF l i) (disturbS hold l n i (askS l i ((runFrom hold gr.toNat n l s i).s))))).2)] 3) = w11 at *
  replace G := G.trans g
  replace hC := hC.gr g
  replace hE := hE.thenGr g
  replace hP := hP.gr g
  replace hS := hS.gr g
  replace hO1 := hO1.gr g
  replace hO2 := hO2.gr g
  have hbk := hb
  clear g hb hbl
  refine Y.wpL_plain rfl fun _ hK => wp_pushV Try.underlying34 Try.info3 rfl (by decide) rfl (F.e 23 rfl) (F.e 26 rfl) hO2 (m := 1) (news := [Vi ((passS n (sendS hold gr.toNat n (lostF l i) (disturbS hold l n i (askS l i ((runFrom hold gr.toNat n l s i).s))))).2)]) rfl (cells_at (vs := [Vi ((passS n (sendS hold gr.toNat n (lostF l i) (disturbS hold l n i (askS l i ((runFrom hold gr.toNat n l s i).s))))).2)]) hbk) rfl (by omega) (by decide) hE.size (fun v' w12 hO' hon hat => hK _ _ ?_)
  refine Y.pput F rfl ?_
  clear F ac hbk
  intro ac F
  have hge := fun b e => hO2.ge (b := b) e
  replace hP := hP.only hon (fun i e => by have := (hge i e).1; exact ⟨by omega, by omega⟩)
  replace hE := hE.step2 hon (fun r e => .inr (hge r e).1)
  replace hS := hS.only hon (fun e => by have := (hge _ e).1; omega)
  have hlt_ := fun b e => (hO1.ge (b := b) e).2
  replace hO1 := hO1.only hon (fun b e h => hdis b e h)
  replace hC := hP.p
  replace G := Gr.refl w12

  replace hdis : ∀ b, v1'.ownBlock = some b → ¬ v'.ownBlock = some b := fun b e h => by
   rcases hat with hat | hat
   ·rw [hat] at h; exact hdis b e h
   ·rw [hat] at h; injection h with h; have := hlt_ b e; omega
  clear hat hge hlt_ hon
  replace hO2 := hO'
  clear hO'
  obtain ⟨v2', hv2⟩ : ∃ x, x = v' := ⟨_, rfl⟩
  subst hv2
  refine Y.pv F (X.assign rfl (F.e 27 rfl)) ?_;clear F ac;intro ac F
  refine Y.nil ?_
  replace F : Fr ac 31 [(0, Vp bp), (4, v1'), (5, v2'), (7, Vi t), (8, Vi i)] := F.sub _
  refine X.blockN ?_
  refine X.thenN ?_
  refine Y.lit (by kernel_rfl) ?_
  refine Y.pv F (X.binop rfl (F.e 8 rfl) (X.kc (Vi 1) rfl) (X.addI Try.underlying3 rfl (by omega) (by omega))) ?_;clear F ac;intro ac F
  refine Y.pv F (X.move rfl (F.e 28 rfl)) ?_;clear F ac;intro ac F
  refine Y.nil ?_
  replace F : Fr ac 31 [(0, Vp bp), (4, v1'), (5, v2'), (7, Vi t), (8, Vi ((i : Int) + 1))] := F.sub _
  refine X.thenN ?_
  refine ⟨_, ?_, i + 1, v1', v2', rfl, by omega, hE, hS, (by show OwnR _ _ _ _ _ (i + 1) (List.map _ ((runFrom hold gr.toNat n l s i).asked ++ [_])); rw [List.map_append]; exact hO1), (by show OwnR _ _ _ _ _ (i + 1) (List.map _ ((runFrom hold gr.toNat n l s i).rows ++ [_])); rw [List.map_append]; exact hO2), hdis, F.sub _⟩
  omega
end
section
open Go.RowKit

set_option maxRecDepth 100000 in
set_option maxHeartbeats 1000000 in
theorem play_any (na la : Option Addr) (n nc m lc : Nat) (gr hold t : Int) (nd l : List (List Int)) (w : World) (hnd : StAt w 5 na n nd) (hl : StAt w 4 la m l) :
  Calls Try.prog 18 #[.agg #[Vi gr, Vi hold, .slice na n nc], Vi t, .slice la m lc] w fun e w' => ∃ ra rn rc ea en ec, e = .returned (.tuple #[.slice ra rn rc, .slice ea en ec, Vi (playE gr hold nd t l)]) ∧ Ints w' ra rn (playRows gr hold nd t l) ∧ Ints w' ea en (playEn gr hold nd t l) ∧ Gr w w' := by
 have G := Gr.refl w
 have hnd0 := hnd
 have hl0 := hl
 have hlm := hl.lt
 have hlnn := hnd.lt
 refine Y.calls 73 Try.func18 rfl rfl ?_
 intro ac F0
 have F : Fr ac 73 [(0, .agg #[Vi gr, Vi hold, .slice na n nc]), (1, Vi t), (2, .slice la m lc)] := F0.sub _
 clear F0
 refine Y.seq ?_
 refine Y.lit (by kernel_rfl) ?_
 refine Y.pv F (X.box rfl (F.e 0 rfl) X.bx) ?_;clear F ac;intro ac F
 have g := Gr.alloc w (.cells #[Vi gr, Vi hold, .slice na n nc] 24)
 have hb := heap_alloc_new w (.cells #[Vi gr, Vi hold, .slice na n nc] 24)
 have hbl : w.heap.size < (w.alloc (.cells #[Vi gr, Vi hold, .slice na n nc] 24)).heap.size := by simp
 have hC2 : RCells (w.alloc (.cells #[Vi gr, Vi hold, .slice na n nc] 24)) [(Ad w.heap.size 0, Vi gr), (Ad w.heap.size 1, Vi hold), (Ad w.heap.size 2, .slice na n nc)] := (RCells.nil w).box (b := w.heap.size) #[Vi gr, Vi hold, .slice na n nc] 24 rfl
 generalize w.alloc (.cells #[Vi gr, Vi hold, .slice na n nc] 24) = w3 at *
 replace G := G.trans g
 have hC := hC2
 clear hC2
 replace hnd := hnd.gr g
 replace hl := hl.gr g
 clear g hb hbl
 have hC0 := hC
 refine Y.pv F (X.assign rfl (X.kc (.slice none 0 0) rfl)) ?_;clear F ac;intro ac F
 refine Y.pv F (X.assign rfl (X.kc (.slice none 0 0) rfl)) ?_;clear F ac;intro ac F
 refine Y.pv F (X.assign rfl (X.kc (Vi 0) rfl)) ?_;clear F ac;intro ac F
 refine Y.nil ?_
 replace F : Fr ac 73 [(1, Vi t), (2, .slice la m lc), (3, Vp w.heap.size)] := F.sub _
 refine X.thenN ?_
 refine Y.seq ?_
 refine Y.lit (by kernel_rfl) ?_
 refine Y.pv F (X.load rfl (F.e 3 rfl) (X.ldN (Try.agg24 _) (Try.siz24 _) (Y.atz (⟨w.heap.size, 0, none⟩) (Y.AtFrom.cons (hC.at 0 rfl) (Y.AtFrom.cons (hC.at 1 rfl) (Y.AtFrom.cons (hC.at 2 rfl) (Y.AtFrom.nil _ _ _))))))) ?_;clear F ac;intro ac F
 refine Y.pv F (X.move rfl (F.e 1 rfl)) ?_;clear F ac;intro ac F
 refine Y.pv F (X.move rfl (F.e 2 rfl)) ?_;clear F ac;intro ac F
 by_cases hE : playE gr hold nd t l = 0
 ·have hE := hE
  refine Y.pcall F (X.w0 rfl) rfl (X.enter (F := 44) rfl (X.kc (.func (.func 44) #[] #[]) rfl) (X.a3 (F.e 15 rfl) (F.e 16 rfl) (F.e 17 rfl)) (enters_of Try.func44 (by kernel_rfl) rfl _)) (begin_any na la n nc m lc gr hold t nd l w3 hnd hl) ?_
  clear F ac
  rintro e w5 ⟨-, g, h0⟩
  obtain ⟨bp, rfl, hBg⟩ := h0 hE
  clear h0
  refine ⟨_, rfl, ?_⟩
  intro ac F
  have hBsz : w3.heap.size = w3.heap.size := rfl
  replace G := G.trans g
  replace hC := hC.gr g
  replace hnd := hnd.gr g
  replace hl := hl.gr g
  clear g
  refine Y.pv F (X.move rfl (F.e 18 rfl)) ?_;clear F ac;intro ac F
  refine Y.pv F (X.extract rfl (F.e 14 rfl) rfl) ?_;clear F ac;intro ac F
  refine Y.pv F (X.extract rfl (F.e 14 rfl) rfl) ?_;clear F ac;intro ac F
  refine Y.pv F (X.assign rfl (F.e 19 rfl)) ?_;clear F ac;intro ac F
  refine Y.pv F (X.assign rfl (F.e 20 rfl)) ?_;clear F ac;intro ac F
  refine Y.nil ?_
  replace F : Fr ac 73 [(1, Vi t), (3, Vp w.heap.size), (8, Vi 0), (9, Vp bp)] := F.sub _
  refine X.thenN ?_
  refine Y.seq ?_
  refine Y.seq ?_
  refine Y.lit (by kernel_rfl) ?_
  refine Y.pv F (X.move rfl (F.e 8 rfl)) ?_;clear F ac;intro ac F
  refine Y.pv F (X.binop rfl (F.e 21 rfl) (X.kc (Vi 0) rfl) (X.neqI Try.underlying26 (show ((0 : Int) != 0) = false by simp))) ?_;clear F ac;intro ac F
  refine Y.nil ?_
  replace F : Fr ac 73 [(1, Vi t), (3, Vp w.heap.size), (8, Vi 0), (9, Vp bp), (22, .bool false)] := F.sub _
  refine X.thenN ?_
  refine Y.condF (F.e 22 rfl) ?_
  refine Y.skip ?_
  refine X.thenN ?_
  refine Y.seq ?_
  refine Y.lit (by kernel_rfl) ?_
  refine Y.pv F (X.move rfl (F.e 9 rfl)) ?_;clear F ac;intro ac F
  refine Y.pv F (X.move rfl (F.e 1 rfl)) ?_;clear F ac;intro ac F
  have hok := playE_ok hE
  have hc := hok.c
  have ht0 := hok.t0
  have ht1 := hok.t1
  have hln := hnd.len
  have h16 : n ≤ 16 := by have := hc.n16; omega
  obtain ⟨bn, pa, cap, hP, hS⟩ := hBg
  have hpb := hP.pb
  have hnb := hP.nb
  have hg1 := hc.g1
  have hg8 := hc.g8
  have hSO : SOk n (startS nd) := by have := SOk.start hc; rwa [hln] at this
  have htt : t = ((t.toNat : Nat) : Int) := by omega
  have hgw := G.size
  have hnu : ∀ x ∈ l, NuOk gr nd t x := fun x hx => by obtain ⟨i, hi, rfl⟩ := List.getElem_of_mem hx; have := hok.nu i hi; rwa [List.getElem?_eq_getElem hi] at this
  refine Y.pcall F (X.w0 rfl) rfl (X.enter (F := 45) rfl (X.kc (.func (.func 45) #[] #[]) rfl) (X.a2 (F.e 25 rfl) (F.e 26 rfl)) (enters_of Try.func45 (by kernel_rfl) rfl _)) (by have h := run_any w3 w5 bp bn gr hold na la pa n nc m lc cap l (startS nd) t.toNat hP hS h16 ⟨nd, t, hln, hg8, hnu⟩ hSO hc.h1 hc.h100 (by omega) (by omega); rw [← htt] at h; exact h) ?_
  clear F ac
  rintro e w6 ⟨v1, v2, rfl, hon, -, hO1, hO2⟩
  refine ⟨_, rfl, ?_⟩
  intro ac F
  have hcb : w.heap.size < w3.heap.size := lt_cell (hC0.at 0 rfl)
  replace hC := (hC.kc hon 0 rfl (hC.kc hon 1 rfl (hC.kc hon 2 rfl (RCells.nil _))))
  replace G := Y.Only.up G hon (by omega)
  replace hnd := hnd0.gr G
  replace hl := hl0.gr G
  clear hon hS hP
  obtain ⟨aa, ac1, rfl, hIa, hIab⟩ := hO1.intsN (runFrom_len t.toNat).1 (by omega)
  obtain ⟨ra, rc, rfl, hIr, hIrb⟩ := hO2.intsN (runFrom_len t.toNat).2 (by omega)
  clear hO1 hO2
  refine Y.pv F (X.move rfl (F.e 27 rfl)) ?_;clear F ac;intro ac F
  refine Y.pv F (X.extract rfl (F.e 24 rfl) rfl) ?_;clear F ac;intro ac F
  refine Y.pv F (X.extract rfl (F.e 24 rfl) rfl) ?_;clear F ac;intro ac F
  refine Y.pv F (X.assign rfl (F.e 29 rfl)) ?_;clear F ac;intro ac F
  refine Y.nil ?_
  replace F : Fr ac 73 [(3, Vp w.heap.size), (6, .slice ra t.toNat rc)] := F.sub _
  refine X.thenN ?_
  refine Y.seq ?_
  refine Y.lit (by kernel_rfl) ?_
  refine Y.pv F (X.field rfl (F.e 3 rfl) (X.fld Try.underlying24 rfl (Try.siz22 _) rfl rfl)) ?_;clear F ac;intro ac F
  refine Y.pv F (X.load rfl (F.e 30 rfl) (X.ld1 (Try.agg22 _) (hC.at 2 rfl))) ?_;clear F ac;intro ac F
  refine Y.pv F (X.len1 Try.underlying22 rfl (F.e 31 rfl)) ?_;clear F ac;intro ac F
  have hq8 : w.heap.size < w6.heap.size := lt_cell (hC.at 0 rfl)
  have hgsw7 := G.size
  refine Y.pv F (Y.mk rfl (F.e 32 rfl) (F.e 32 rfl) (Try.mk34 n _ (by omega))) ?_;clear F ac;intro ac F
  have g := Gr.alloc w6 (.cells (List.replicate n (Vi 0)).toArray 3)
  have hS := zeros_own w6 n
  generalize w6.alloc (.cells (List.replicate n (Vi 0)).toArray 3) = w7 at *
  replace G := G.trans g
  replace hC := hC.gr g
  replace hnd := hnd.gr g
  replace hl := hl.gr g
  replace hIa := hIa.gr g
  replace hIr := hIr.gr g
  clear g
  have hml : w6.heap.size < w7.heap.size := hS.lt
  have hS := hS
  refine Y.pv F (X.assign rfl (F.e 33 rfl)) ?_;clear F ac;intro ac F
  refine Y.nil ?_
  replace F : Fr ac 73 [(3, Vp w.heap.size), (6, .slice ra t.toNat rc), (7, .slice (some ⟨w6.heap.size, 0, none⟩) n n)] := F.sub _
  refine X.thenN ?_
  refine Y.seq ?_
  refine Y.seq ?_
  refine Y.lit (by kernel_rfl) ?_
  refine Y.pv F (X.move rfl (F.e 6 rfl)) ?_;clear F ac;intro ac F
  refine Y.pv F (X.len1 Try.underlying34 rfl (F.e 34 rfl)) ?_;clear F ac;intro ac F
  refine Y.pv F (X.move rfl (X.kc (Vi 0) rfl)) ?_;clear F ac;intro ac F
  refine Y.nil ?_
  replace F : Fr ac 73 [(3, Vp w.heap.size), (6, .slice ra t.toNat rc), (7, .slice (some ⟨w6.heap.size, 0, none⟩) n n), (34, .slice ra t.toNat rc), (35, Vi t.toNat), (36, Vi 0)] := F.sub _
  refine X.thenN ?_
  refine Y.block ?_
  have hIa_1 := hIa
  have hIr_1 := hIr
  have G_1 := G
  have hC_1 := hC
  refine Y.loop (fun me_ ac wr => ∃ (k : Nat), me_ = t.toNat - k ∧ k ≤ t.toNat ∧ Only (fun b => b = w6.heap.size) w7 wr ∧ OwnP wr w6.heap.size (n) (EV (enS nd ((runFrom hold gr.toNat n l (startS nd) t.toNat).rows.take k))) ∧ Fr ac 73 [(3, Vp w.heap.size), (6, .slice ra t.toNat rc), (7, .slice (some ⟨w6.heap.size, 0, none⟩) n n), (34, .slice ra t.toNat rc), (35, Vi t.toNat), (36, Vi k)]) _ ⟨0, rfl, Nat.zero_le _, Only.refl _ _, hS, F.sub _⟩ ?_
  clear F G ac hC hS hIa hIr hnd hl
  intro me_ ac w9 hI
  obtain ⟨k, rfl, hk, hI1, hS, F⟩ := hI
  have G := Y.Only.up G_1 hI1 (by omega)
  have hnd := hnd0.gr G
  have hl := hl0.gr G
  have hIa := hIa_1.onlyAt hI1 (fun ad e h => by have := hIab ad e; omega)
  have hIr := hIr_1.onlyAt hI1 (fun ad e h => by have := hIrb ad e; omega)
  have hC := (hC_1.kc hI1 0 rfl (hC_1.kc hI1 1 rfl (hC_1.kc hI1 2 rfl (RCells.nil _))))
  refine Y.seq ?_
  refine Y.lit (by kernel_rfl) ?_
  refine Y.pv F (X.binop rfl (F.e 36 rfl) (F.e 35 rfl) (X.lssI Try.underlying3 rfl)) ?_;clear F ac;intro ac F
  refine Y.nil ?_
  replace F : Fr ac 73 [(3, Vp w.heap.size), (6, .slice ra t.toNat rc), (7, .slice (some ⟨w6.heap.size, 0, none⟩) n n), (34, .slice ra t.toNat rc), (35, Vi t.toNat), (36, Vi k), (37, .bool (decide ((k : Int) < t.toNat)))] := F.sub _
  refine X.thenN ?_
  refine Y.seq ?_
  cases h10 : decide ((k : Int) < t.toNat) with
  | false =>
   try rw [h10] at F
   have h10p : ¬ ((k : Int) < t.toNat) := of_decide_eq_false h10
   have hkt : k = t.toNat := by omega
   subst hkt
   refine Y.condF (F.e 37 rfl) ?_
   refine Y.exit ?_
   refine X.thenX ?_
   refine X.thenX ?_
   refine X.blockX ?_
   refine X.thenN ?_
   refine Y.seq ?_
   refine Y.lit (by kernel_rfl) ?_
   refine Y.pv F (X.move rfl (F.e 6 rfl)) ?_;clear F ac;intro ac F
   refine Y.pv F (X.move rfl (F.e 7 rfl)) ?_;clear F ac;intro ac F
   refine Y.pv F (X.assign rfl (F.e 71 rfl)) ?_;clear F ac;intro ac F
   refine Y.pv F (X.assign rfl (F.e 72 rfl)) ?_;clear F ac;intro ac F
   refine Y.pv F (X.assign rfl (X.kc (Vi 0) rfl)) ?_;clear F ac;intro ac F
   refine Y.nil ?_
   replace F : Fr ac 73 [(6, .slice ra t.toNat rc), (7, .slice (some ⟨w6.heap.size, 0, none⟩) n n), (8, Vi 0)] := F.sub _
   refine X.thenN ?_
   refine Y.ret ?_
   have e1 : playRows gr hold nd t l = (runFrom hold gr.toNat n l (startS nd) t.toNat).rows := by unfold playRows playR; rw [if_pos hE, hln]
   have e2 : playEn gr hold nd t l = (List.range n).map (enS nd (runFrom hold gr.toNat n l (startS nd) t.toNat).rows) := by unfold playEn playR; rw [if_pos hE, hln]
   have e3 : (runFrom hold gr.toNat n l (startS nd) t.toNat).rows.take t.toNat = (runFrom hold gr.toNat n l (startS nd) t.toNat).rows := List.take_of_length_le (by rw [(runFrom_len t.toNat).2]; omega)
   rw [e3] at hS
   exact Y.ret0 (v := .tuple #[.slice ra t.toNat rc, .slice (some ⟨w6.heap.size, 0, none⟩) n n, Vi 0]) F (Y.rs3 F rfl (by kernel_rfl) (by kernel_rfl) (by kernel_rfl)) ⟨_, _, _, _, _, _, by rw [hE], by rw [e1]; exact hIr, by rw [e2]; exact ownP_ints hS (by omega), G⟩
  | true =>
   try rw [h10] at F
   have h10p : ((k : Int) < t.toNat) := of_decide_eq_true h10
   have hk2 : k < t.toNat := by omega
   have hrl := (runFrom_len (n := n) (gr := gr.toNat) (s := startS nd) (hold := hold) (l := l) t.toNat).2
   refine Y.condT (F.e 37 rfl) ?_
   refine Y.skip ?_
   refine X.thenN ?_
   refine Y.seq ?_
   refine Y.block ?_
   refine Y.seq ?_
   refine Y.lit (by kernel_rfl) ?_
   obtain ⟨pd11, pe11, -, pc11⟩ := hIr.at (j := k) (by omega)
   subst pe11
   replace hC : RCells w9 [(Ad w.heap.size 0, Vi gr), (Ad w.heap.size 1, Vi hold), (Ad w.heap.size 2, .slice na n nc), (pd11.add k, Vi (((runFrom hold gr.toNat n l (startS nd) t.toNat).rows)[k]?.getD 0))] := hC.append ((RCells.cons pc11 (RCells.nil _)))
   clear pc11
   refine Y.pval F (X.w0 rfl) rfl (X.index rfl (F.e 34 rfl) (F.e 36 rfl) (X.idx (k := k) Try.underlying34 (Try.siz3 _) (by omega) (by omega) (by rw [Nat.mul_one]))) ?_;clear F ac;intro ac F
   refine Y.pv F (X.load rfl (F.e 38 rfl) (X.ld1 (Try.agg3 _) (hC.at 3 rfl))) ?_;clear F ac;intro ac F
   refine Y.pv F (X.assign rfl (F.e 39 rfl)) ?_;clear F ac;intro ac F
   refine Y.nil ?_
   replace F : Fr ac 73 [(3, Vp w.heap.size), (6, .slice (some pd11) t.toNat rc), (7, .slice (some ⟨w6.heap.size, 0, none⟩) n n), (11, Vi (((runFrom hold gr.toNat n l (startS nd) t.toNat).rows)[k]?.getD 0)), (34, .slice (some pd11) t.toNat rc), (35, Vi t.toNat), (36, Vi k)] := F.sub _
   refine X.thenN ?_
   refine Y.seq ?_
   refine Y.lit (by kernel_rfl) ?_
   refine Y.pv F (X.field rfl (F.e 3 rfl) (X.fld Try.underlying24 rfl (Try.siz22 _) rfl rfl)) ?_;clear F ac;intro ac F
   refine Y.pv F (X.load rfl (F.e 40 rfl) (X.ld1 (Try.agg22 _) (hC.at 2 rfl))) ?_;clear F ac;intro ac F
   refine Y.pv F (X.len1 Try.underlying22 rfl (F.e 41 rfl)) ?_;clear F ac;intro ac F
   refine Y.pv F (X.move rfl (X.kc (Vi 0) rfl)) ?_;clear F ac;intro ac F
   refine Y.nil ?_
   replace F : Fr ac 73 [(3, Vp w.heap.size), (6, .slice (some pd11) t.toNat rc), (7, .slice (some ⟨w6.heap.size, 0, none⟩) n n), (11, Vi (((runFrom hold gr.toNat n l (startS nd) t.toNat).rows)[k]?.getD 0)), (34, .slice (some pd11) t.toNat rc), (35, Vi t.toNat), (36, Vi k), (41, .slice na n nc), (42, Vi n), (43, Vi 0)] := F.sub _
   refine X.thenN ?_
   refine Y.block ?_
   have hI1_2 := hI1
   have hIa_2 := hIa
   have hIr_2 := hIr
   have G_2 := G
   have hC_2 := hC
   refine Y.loop (fun me_ ac wr => ∃ (i : Nat), me_ = n - i ∧ i ≤ n ∧ Only (fun b => b = w6.heap.size) w9 wr ∧ OwnP wr w6.heap.size (n) (EV (enP nd ((runFrom hold gr.toNat n l (startS nd) t.toNat).rows[k]?.getD 0) i (enS nd ((runFrom hold gr.toNat n l (startS nd) t.toNat).rows.take k)))) ∧ Fr ac 73 [(3, Vp w.heap.size), (6, .slice (some pd11) t.toNat rc), (7, .slice (some ⟨w6.heap.size, 0, none⟩) n n), (11, Vi (((runFrom hold gr.toNat n l (startS nd) t.toNat).rows)[k]?.getD 0)), (34, .slice (some pd11) t.toNat rc), (35, Vi t.toNat), (36, Vi k), (41, .slice na n nc), (42, Vi n), (43, Vi i)]) _ ⟨0, rfl, Nat.zero_le _, Only.refl _ _, (by rw [enP_zero]; exact hS), F.sub _⟩ ?_
   clear F G ac hC hS hI1 hIa hIr hnd hl
   intro me_ ac w12 hI
   obtain ⟨i, rfl, hi, hI2, hS, F⟩ := hI
   have G := Y.Only.up G_2 hI2 (by omega)
   have hI1 := hI1_2.trans hI2
   have hnd := hnd0.gr G
   have hl := hl0.gr G
   have hIa := hIa_2.onlyAt hI2 (fun ad e h => by have := hIab ad e; omega)
   have hIr := hIr_2.onlyAt hI2 (fun ad e h => by have := hIrb ad e; omega)
   have hC := (hC_2.kc hI2 0 rfl (hC_2.kc hI2 1 rfl (hC_2.kc hI2 2 rfl (RCells.nil _))))
   refine Y.seq ?_
   refine Y.lit (by kernel_rfl) ?_
   refine Y.pv F (X.binop rfl (F.e 43 rfl) (F.e 42 rfl) (X.lssI Try.underlying3 rfl)) ?_;clear F ac;intro ac F
   refine Y.nil ?_
   replace F : Fr ac 73 [(3, Vp w.heap.size), (6, .slice (some pd11) t.toNat rc), (7, .slice (some ⟨w6.heap.size, 0, none⟩) n n), (11, Vi (((runFrom hold gr.toNat n l (startS nd) t.toNat).rows)[k]?.getD 0)), (34, .slice (some pd11) t.toNat rc), (35, Vi t.toNat), (36, Vi k), (41, .slice na n nc), (42, Vi n), (43, Vi i), (44, .bool (decide ((i : Int) < n)))] := F.sub _
   refine X.thenN ?_
   refine Y.seq ?_
   cases h13 : decide ((i : Int) < n) with
   | false =>
    try rw [h13] at F
    have h13p : ¬ ((i : Int) < n) := of_decide_eq_false h13
    obtain rfl : n = i := by omega
    refine Y.condF (F.e 44 rfl) ?_
    refine Y.exit ?_
    refine X.thenX ?_
    refine X.thenX ?_
    refine X.blockX ?_
    refine X.blockN ?_
    refine X.thenN ?_
    refine Y.lit (by kernel_rfl) ?_
    refine Y.pv F (X.binop rfl (F.e 36 rfl) (X.kc (Vi 1) rfl) (X.addI Try.underlying3 rfl (by omega) (by omega))) ?_;clear F ac;intro ac F
    refine Y.pv F (X.move rfl (F.e 70 rfl)) ?_;clear F ac;intro ac F
    refine Y.nil ?_
    replace F : Fr ac 73 [(3, Vp w.heap.size), (6, .slice (some pd11) t.toNat rc), (7, .slice (some ⟨w6.heap.size, 0, none⟩) n n), (34, .slice (some pd11) t.toNat rc), (35, Vi t.toNat), (36, Vi ((k : Int) + 1))] := F.sub _
    refine X.thenN ?_
    refine ⟨_, ?_, k + 1, rfl, by omega, hI1, hS.congr (fun j hj => by unfold EV; rw [enS_take (by omega) j]; unfold enP; rw [if_pos hj]), F.sub _⟩
    omega
   | true =>
    try rw [h13] at F
    have h13p : ((i : Int) < n) := of_decide_eq_true h13
    have hi2 : i < n := by omega
    have hb1 := enS_bd hc (j := i) (by omega) ((runFrom hold gr.toNat n l (startS nd) t.toNat).rows.take k)
    have hb2 := enP_at nd ((runFrom hold gr.toNat n l (startS nd) t.toNat).rows[k]?.getD 0) i (enS nd ((runFrom hold gr.toNat n l (startS nd) t.toNat).rows.take k))
    have hb3 : ((runFrom hold gr.toNat n l (startS nd) t.toNat).rows.take k).length ≤ 1000 := by rw [List.length_take]; omega
    have hb4 := hc.awk i (by omega)
    have hb5 := hc.asl i (by omega)
    refine Y.condT (F.e 44 rfl) ?_
    refine Y.skip ?_
    refine X.thenN ?_
    refine Y.seq ?_
    refine Y.block ?_
    refine Y.seq ?_
    refine Y.lit (by kernel_rfl) ?_
    refine Y.pv F (X.move rfl (F.e 43 rfl)) ?_;clear F ac;intro ac F
    obtain ⟨pd14, pe14, -, -, pc14⟩ := hnd.at (j := i) (by omega)
    subst pe14
    replace hC : RCells w12 [(Ad w.heap.size 0, Vi gr), (Ad w.heap.size 1, Vi hold), (Ad w.heap.size 2, .slice (some pd14) n nc), (pd14.add (i * 5), Vi (cv nd i 0)), (⟨(pd14.add (i * 5)).block, (pd14.add (i * 5)).off + 1, none⟩, Vi (cv nd i 1)), (⟨(pd14.add (i * 5)).block, (pd14.add (i * 5)).off + 2, none⟩, Vi (cv nd i 2)), (⟨(pd14.add (i * 5)).block, (pd14.add (i * 5)).off + 3, none⟩, Vi (cv nd i 3)), (⟨(pd14.add (i * 5)).block, (pd14.add (i * 5)).off + 4, none⟩, Vi (cv nd i 4))] := hC.append ((RCells.cons (pc14 0 (by decide)) (RCells.cons (pc14 1 (by decide)) (RCells.cons (pc14 2 (by decide)) (RCells.cons (pc14 3 (by decide)) (RCells.cons (pc14 4 (by decide)) (RCells.nil _)))))))
    clear pc14
    refine Y.pv F (X.index rfl (F.e 41 rfl) (F.e 43 rfl) (X.idx (k := i) Try.underlying22 (Try.siz31 _) (by omega) (by omega) rfl)) ?_;clear F ac;intro ac F
    refine Y.pv F (X.load rfl (F.e 46 rfl) (X.ldN (Try.agg31 _) (Try.siz31 _) (Y.atz (pd14.add (i * 5)) (Y.AtFrom.cons (hC.at 3 rfl) (Y.AtFrom.cons (hC.at 4 rfl) (Y.AtFrom.cons (hC.at 5 rfl) (Y.AtFrom.cons (hC.at 6 rfl) (Y.AtFrom.cons (hC.at 7 rfl) (Y.AtFrom.nil _ _ _))))))))) ?_;clear F ac;intro ac F
    refine Y.pv F (Y.al rfl (Try.new31 _)) ?_;clear F ac;intro ac F
    refine Y.pv F (X.assign rfl (F.e 45 rfl)) ?_;clear F ac;intro ac F
    refine Y.punit F (X.w0 rfl) rfl (X.store rfl (F.e 13 rfl) (F.e 47 rfl) (Y.stNew [Vi (cv nd i 0), Vi (cv nd i 1), Vi (cv nd i 2), Vi (cv nd i 3), Vi (cv nd i 4)] [Vi 0, Vi 0, Vi 0, Vi 0, Vi 0] (Try.siz31 _) rfl rfl)) ?_;clear F ac;intro ac F
    have hq15 : w6.heap.size < w12.heap.size := hS.lt
    have hq16 : w.heap.size < w12.heap.size := lt_cell (hC.at 0 rfl)
    have g := Gr.alloc w12 (.cells #[Vi (cv nd i 0), Vi (cv nd i 1), Vi (cv nd i 2), Vi (cv nd i 3), Vi (cv nd i 4)] 31)
    have hb := heap_alloc_new w12 (.cells #[Vi (cv nd i 0), Vi (cv nd i 1), Vi (cv nd i 2), Vi (cv nd i 3), Vi (cv nd i 4)] 31)
    have hbl : w12.heap.size < (w12.alloc (.cells #[Vi (cv nd i 0), Vi (cv nd i 1), Vi (cv nd i 2), Vi (cv nd i 3), Vi (cv nd i 4)] 31)).heap.size := by simp
    have hC2 : RCells (w12.alloc (.cells #[Vi (cv nd i 0), Vi (cv nd i 1), Vi (cv nd i 2), Vi (cv nd i 3), Vi (cv nd i 4)] 31)) [(Ad w.heap.size 0, Vi gr), (Ad w.heap.size 1, Vi hold), (Ad w.heap.size 2, .slice (some pd14) n nc), (pd14.add (i * 5), Vi (cv nd i 0)), (⟨(pd14.add (i * 5)).block, (pd14.add (i * 5)).off + 1, none⟩, Vi (cv nd i 1)), (⟨(pd14.add (i * 5)).block, (pd14.add (i * 5)).off + 2, none⟩, Vi (cv nd i 2)), (⟨(pd14.add (i * 5)).block, (pd14.add (i * 5)).off + 3, none⟩, Vi (cv nd i 3)), (⟨(pd14.add (i * 5)).block, (pd14.add (i * 5)).off + 4, none⟩, Vi (cv nd i 4)), (Ad w12.heap.size 0, Vi (cv nd i 0)), (Ad w12.heap.size 1, Vi (cv nd i 1)), (Ad w12.heap.size 2, Vi (cv nd i 2)), (Ad w12.heap.size 3, Vi (cv nd i 3)), (Ad w12.heap.size 4, Vi (cv nd i 4))] := hC.box (b := w12.heap.size) #[Vi (cv nd i 0), Vi (cv nd i 1), Vi (cv nd i 2), Vi (cv nd i 3), Vi (cv nd i 4)] 31 rfl
    generalize w12.alloc (.cells #[Vi (cv nd i 0), Vi (cv nd i 1), Vi (cv nd i 2), Vi (cv nd i 3), Vi (cv nd i 4)] 31) = w17 at *
    replace G := G.trans g
    replace hC := hC2
    clear hC2
    replace hI1 := hI1.thenGr g
    replace hI2 := hI2.thenGr g
    replace hnd := hnd.gr g
    replace hl := hl.gr g
    replace hIa := hIa.gr g
    replace hIr := hIr.gr g
    replace hS := hS.gr g
    clear g hb hbl
    refine Y.nil ?_
    replace F : Fr ac 73 [(3, Vp w.heap.size), (6, .slice (some pd11) t.toNat rc), (7, .slice (some ⟨w6.heap.size, 0, none⟩) n n), (11, Vi (((runFrom hold gr.toNat n l (startS nd) t.toNat).rows)[k]?.getD 0)), (12, Vi i), (13, Vp w12.heap.size), (34, .slice (some pd11) t.toNat rc), (35, Vi t.toNat), (36, Vi k), (41, .slice (some pd14) n nc), (42, Vi n), (43, Vi i)] := F.sub _
    refine X.thenN ?_
    refine Y.seq ?_
    refine Y.lit (by kernel_rfl) ?_
    refine Y.pv F (X.move rfl (F.e 11 rfl)) ?_;clear F ac;intro ac F
    refine Y.pv F (X.move rfl (F.e 12 rfl)) ?_;clear F ac;intro ac F
    refine Y.pv F (X.binop rfl (F.e 48 rfl) (F.e 49 rfl) (X.shrI Try.underlying3 rfl (by omega))) ?_;clear F ac;intro ac F
    refine Y.pv F (X.binop rfl (F.e 50 rfl) (X.kc (Vi 1) rfl) (X.andI Try.underlying3 rfl)) ?_;clear F ac;intro ac F
    refine Y.pv F (X.binop rfl (F.e 51 rfl) (X.kc (Vi 1) rfl) (X.eqlI Try.underlying3 rfl)) ?_;clear F ac;intro ac F
    refine Y.nil ?_
    replace F : Fr ac 73 [(3, Vp w.heap.size), (6, .slice (some pd11) t.toNat rc), (7, .slice (some ⟨w6.heap.size, 0, none⟩) n n), (11, Vi (((runFrom hold gr.toNat n l (startS nd) t.toNat).rows)[k]?.getD 0)), (12, Vi i), (13, Vp w12.heap.size), (34, .slice (some pd11) t.toNat rc), (35, Vi t.toNat), (36, Vi k), (41, .slice (some pd14) n nc), (42, Vi n), (43, Vi i), (52, .bool ((andV (shrV (((runFrom hold gr.toNat n l (startS nd) t.toNat).rows)[k]?.getD 0 : Int) (i : Int) : Int) 1 : Int) == 1))] := F.sub _
    refine X.thenN ?_
    cases h18 : ((andV (shrV (((runFrom hold gr.toNat n l (startS nd) t.toNat).rows)[k]?.getD 0 : Int) (i : Int) : Int) 1 : Int) == 1) with
    | false =>
     try rw [h18] at F
     have h18p : ¬ (andV (shrV (((runFrom hold gr.toNat n l (startS nd) t.toNat).rows)[k]?.getD 0 : Int) (i : Int) : Int) 1 : Int) = 1 := by simpa using h18
     refine Y.condF (F.e 52 rfl) ?_
     replace hC : RCells w17 [(Ad w.heap.size 0, Vi gr), (Ad w.heap.size 1, Vi hold), (Ad w.heap.size 2, .slice (some pd14) n nc), (pd14.add (i * 5), Vi (cv nd i 0)), (⟨(pd14.add (i * 5)).block, (pd14.add (i * 5)).off + 1, none⟩, Vi (cv nd i 1)), (⟨(pd14.add (i * 5)).block, (pd14.add (i * 5)).off + 2, none⟩, Vi (cv nd i 2)), (⟨(pd14.add (i * 5)).block, (pd14.add (i * 5)).off + 3, none⟩, Vi (cv nd i 3)), (⟨(pd14.add (i * 5)).block, (pd14.add (i * 5)).off + 4, none⟩, Vi (cv nd i 4)), (Ad w12.heap.size 0, Vi (cv nd i 0)), (Ad w12.heap.size 1, Vi (cv nd i 1)), (Ad w12.heap.size 2, Vi (cv nd i 2)), (Ad w12.heap.size 3, Vi (cv nd i 3)), (Ad w12.heap.size 4, Vi (cv nd i 4)), (⟨w6.heap.size, i, none⟩, Vi ((enP nd ((runFrom hold gr.toNat n l (startS nd) t.toNat).rows[k]?.getD 0) i (enS nd ((runFrom hold gr.toNat n l (startS nd) t.toNat).rows.take k))) i))] := hC.append ((RCells.cons (hS.cell (k := i) (by omega)) (RCells.nil _)))
     refine Y.regionS F [some (.slice (some ⟨w6.heap.size, 0, none⟩) n n), some (Vi i), some (.pointer (some ⟨w6.heap.size, i, none⟩)), some (Vi ((enP nd ((runFrom hold gr.toNat n l (startS nd) t.toNat).rows[k]?.getD 0) i (enS nd ((runFrom hold gr.toNat n l (startS nd) t.toNat).rows.take k))) i)), some (.pointer (some ⟨w12.heap.size, 2, none⟩)), some (Vi (cv nd i 2)), some (Vi (((enP nd ((runFrom hold gr.toNat n l (startS nd) t.toNat).rows[k]?.getD 0) i (enS nd ((runFrom hold gr.toNat n l (startS nd) t.toNat).rows.take k))) i : Int) + (cv nd i 2))), some (.pointer (some ⟨w6.heap.size, i, none⟩)), none] [] 8 (fun _ W => Only (fun x => x = w6.heap.size) w17 W ∧ OwnP W w6.heap.size (n) (EV ((fun z_ => if z_ = i then ((enP nd ((runFrom hold gr.toNat n l (startS nd) t.toNat).rows[k]?.getD 0) i (enS nd ((runFrom hold gr.toNat n l (startS nd) t.toNat).rows.take k))) i : Int) + (cv nd i 2) else (enP nd ((runFrom hold gr.toNat n l (startS nd) t.toNat).rows[k]?.getD 0) i (enS nd ((runFrom hold gr.toNat n l (startS nd) t.toNat).rows.take k))) z_)))) rfl ⟨by kernel_rfl, of_decide_eq_true (by kernel_rfl), by kernel_rfl, by kernel_rfl, by kernel_rfl⟩ (of_decide_eq_true (by kernel_rfl)) ⟨?_, ?_, ?_, ?_, ?_, ?_, ?_, ?_, ?_, trivial⟩ ?_
     ·intro ac done u W Sx hT
      have hs := Sx.no 8 (by kernel_rfl)
      have hR := hT.1 hs
      exact X.vl (X.move rfl (Sx.ev 7 (.slice (some ⟨w6.heap.size, 0, none⟩) n n))) (Y.RT.of hs rfl hR.st0)
     ·intro ac done u W Sx hT
      have hs := Sx.no 8 (by kernel_rfl)
      have hR := hT.1 hs
      exact X.vl (X.move rfl (Sx.ev 12 (Vi i))) (Y.RT.of hs rfl hR.st0)
     ·intro ac done u W Sx hT
      have hs := Sx.no 8 (by kernel_rfl)
      have hR := hT.1 hs
      exact X.val (X.w0 rfl) rfl (X.index rfl (Sx.ev 61 (.slice (some ⟨w6.heap.size, 0, none⟩) n n)) (Sx.ev 62 (Vi i)) (X.idx (k := i) Try.underlying34 (Try.siz3 _) (by omega) (by omega) (by rw [Nat.mul_one]; exact addr_add0 _ _))) (Y.RT.of hs rfl hR.st0)
     ·intro ac done u W Sx hT
      have hs := Sx.no 8 (by kernel_rfl)
      have hR := hT.1 hs
      have g : Gr w17 W := hR.1
      exact X.vl (X.load rfl (Sx.ev 63 (.pointer (some ⟨w6.heap.size, i, none⟩))) (X.ld1 (Try.agg3 _) ((hC.gr g).at 13 rfl))) (Y.RT.of hs rfl hR.st0)
     ·intro ac done u W Sx hT
      have hs := Sx.no 8 (by kernel_rfl)
      have hR := hT.1 hs
      exact X.vl (X.field rfl (Sx.ev 13 (Vp w12.heap.size)) (X.fld Try.underlying31 rfl (Try.siz3 _) rfl rfl)) (Y.RT.of hs rfl hR.st0)
     ·intro ac done u W Sx hT
      have hs := Sx.no 8 (by kernel_rfl)
      have hR := hT.1 hs
      have g : Gr w17 W := hR.1
      exact X.vl (X.load rfl (Sx.ev 65 (.pointer (some ⟨w12.heap.size, 2, none⟩))) (X.ld1 (Try.agg3 _) ((hC.gr g).at 10 rfl))) (Y.RT.of hs rfl hR.st0)
     ·intro ac done u W Sx hT
      have hs := Sx.no 8 (by kernel_rfl)
      have hR := hT.1 hs
      exact X.vl (X.binop rfl (Sx.ev 64 (Vi ((enP nd ((runFrom hold gr.toNat n l (startS nd) t.toNat).rows[k]?.getD 0) i (enS nd ((runFrom hold gr.toNat n l (startS nd) t.toNat).rows.take k))) i))) (Sx.ev 66 (Vi (cv nd i 2))) (X.addI Try.underlying3 rfl (by omega) (by omega))) (Y.RT.of hs rfl hR.st0)
     ·intro ac done u W Sx hT
      have hs := Sx.no 8 (by kernel_rfl)
      have hR := hT.1 hs
      exact X.val (X.w0 rfl) rfl (X.index rfl (Sx.ev 61 (.slice (some ⟨w6.heap.size, 0, none⟩) n n)) (Sx.ev 62 (Vi i)) (X.idx (k := i) Try.underlying34 (Try.siz3 _) (by omega) (by omega) (by rw [Nat.mul_one]; exact addr_add0 _ _))) (Y.RT.of hs rfl hR.st0)
     ·intro ac done u W Sx hT
      have hR := hT.1 Sx.nd
      have g : Gr w17 W := hR.1
      have hS2 := (hS.gr g).set (k := i) (Vi (((enP nd ((runFrom hold gr.toNat n l (startS nd) t.toNat).rows[k]?.getD 0) i (enS nd ((runFrom hold gr.toNat n l (startS nd) t.toNat).rows.take k))) i : Int) + (cv nd i 2)))
      rw [EV_up] at hS2
      exact X.unit (X.w0 rfl) rfl (X.store rfl (Sx.ev 68 (.pointer (some ⟨w6.heap.size, i, none⟩))) (Sx.ev 67 (Vi (((enP nd ((runFrom hold gr.toNat n l (startS nd) t.toNat).rows[k]?.getD 0) i (enS nd ((runFrom hold gr.toNat n l (startS nd) t.toNat).rows.take k))) i : Int) + (cv nd i 2)))) ((hS.gr g).st1 (Try.siz3 _) rfl rfl (by omega))) (Y.RT.fin ⟨(g.only _).trans (Y.set_only _ _ _ _), hS2⟩)
     rintro ac u w19 hs hd hl_ ho ⟨hon, hS2⟩
     replace F : Fr ac 73 [(3, Vp w.heap.size), (6, .slice (some pd11) t.toNat rc), (7, .slice (some ⟨w6.heap.size, 0, none⟩) n n), (11, Vi (((runFrom hold gr.toNat n l (startS nd) t.toNat).rows)[k]?.getD 0)), (34, .slice (some pd11) t.toNat rc), (35, Vi t.toNat), (36, Vi k), (41, .slice (some pd14) n nc), (42, Vi n), (43, Vi i)] := X.fr hs hd hl_ _ (by kernel_rfl)
     clear hs hd hl_ ho
     replace G := Y.Only.up G hon (by omega)
     replace hnd := hnd0.gr G
     replace hl := hl0.gr G
     replace hIa := hIa.onlyAt hon (fun ad e h => by have := hIab ad e; omega)
     replace hIr := hIr.onlyAt hon (fun ad e h => by have := hIrb ad e; omega)
     replace hC := (hC.kc hon 0 rfl (hC.kc hon 1 rfl (hC.kc hon 2 rfl (hC.kc hon 8 rfl (hC.kc hon 9 rfl (hC.kc hon 10 rfl (hC.kc hon 11 rfl (hC.kc hon 12 rfl (RCells.nil _)))))))))
     replace hI1 := hI1.step hon (.inl rfl)
     replace hI2 := hI2.step hon (.inl rfl)
     replace hS : OwnP w19 w6.heap.size (n) (EV ((fun z_ => if z_ = i then ((enP nd ((runFrom hold gr.toNat n l (startS nd) t.toNat).rows[k]?.getD 0) i (enS nd ((runFrom hold gr.toNat n l (startS nd) t.toNat).rows.take k))) i : Int) + (cv nd i 2) else (enP nd ((runFrom hold gr.toNat n l (startS nd) t.toNat).rows[k]?.getD 0) i (enS nd ((runFrom hold gr.toNat n l (startS nd) t.toNat).rows.take k))) z_))) := hS2
     clear hS2 hon
     refine X.blockN ?_
     refine X.thenN ?_
     refine Y.lit (by kernel_rfl) ?_
     refine Y.pv F (X.binop rfl (F.e 43 rfl) (X.kc (Vi 1) rfl) (X.addI Try.underlying3 rfl (by omega) (by omega))) ?_;clear F ac;intro ac F
     refine Y.pv F (X.move rfl (F.e 69 rfl)) ?_;clear F ac;intro ac F
     refine Y.nil ?_
     replace F : Fr ac 73 [(3, Vp w.heap.size), (6, .slice (some pd11) t.toNat rc), (7, .slice (some ⟨w6.heap.size, 0, none⟩) n n), (11, Vi (((runFrom hold gr.toNat n l (startS nd) t.toNat).rows)[k]?.getD 0)), (34, .slice (some pd11) t.toNat rc), (35, Vi t.toNat), (36, Vi k), (41, .slice (some pd14) n nc), (42, Vi n), (43, Vi ((i : Int) + 1))] := F.sub _
     refine X.thenN ?_
     refine ⟨_, ?_, i + 1, rfl, by omega, hI2, (by rw [enP_succ nd _ i _ (by unfold en1 bitB; simp [h18])] at hS; exact hS), F.sub _⟩
     omega
    | true =>
     try rw [h18] at F
     have h18p : (andV (shrV (((runFrom hold gr.toNat n l (startS nd) t.toNat).rows)[k]?.getD 0 : Int) (i : Int) : Int) 1 : Int) = 1 := by simpa using h18
     refine Y.condT (F.e 52 rfl) ?_
     replace hC : RCells w17 [(Ad w.heap.size 0, Vi gr), (Ad w.heap.size 1, Vi hold), (Ad w.heap.size 2, .slice (some pd14) n nc), (pd14.add (i * 5), Vi (cv nd i 0)), (⟨(pd14.add (i * 5)).block, (pd14.add (i * 5)).off + 1, none⟩, Vi (cv nd i 1)), (⟨(pd14.add (i * 5)).block, (pd14.add (i * 5)).off + 2, none⟩, Vi (cv nd i 2)), (⟨(pd14.add (i * 5)).block, (pd14.add (i * 5)).off + 3, none⟩, Vi (cv nd i 3)), (⟨(pd14.add (i * 5)).block, (pd14.add (i * 5)).off + 4, none⟩, Vi (cv nd i 4)), (Ad w12.heap.size 0, Vi (cv nd i 0)), (Ad w12.heap.size 1, Vi (cv nd i 1)), (Ad w12.heap.size 2, Vi (cv nd i 2)), (Ad w12.heap.size 3, Vi (cv nd i 3)), (Ad w12.heap.size 4, Vi (cv nd i 4)), (⟨w6.heap.size, i, none⟩, Vi ((enP nd ((runFrom hold gr.toNat n l (startS nd) t.toNat).rows[k]?.getD 0) i (enS nd ((runFrom hold gr.toNat n l (startS nd) t.toNat).rows.take k))) i))] := hC.append ((RCells.cons (hS.cell (k := i) (by omega)) (RCells.nil _)))
     refine Y.regionS F [some (.slice (some ⟨w6.heap.size, 0, none⟩) n n), some (Vi i), some (.pointer (some ⟨w6.heap.size, i, none⟩)), some (Vi ((enP nd ((runFrom hold gr.toNat n l (startS nd) t.toNat).rows[k]?.getD 0) i (enS nd ((runFrom hold gr.toNat n l (startS nd) t.toNat).rows.take k))) i)), some (.pointer (some ⟨w12.heap.size, 1, none⟩)), some (Vi (cv nd i 1)), some (Vi (((enP nd ((runFrom hold gr.toNat n l (startS nd) t.toNat).rows[k]?.getD 0) i (enS nd ((runFrom hold gr.toNat n l (startS nd) t.toNat).rows.take k))) i : Int) + (cv nd i 1))), some (.pointer (some ⟨w6.heap.size, i, none⟩)), none] [] 8 (fun _ W => Only (fun x => x = w6.heap.size) w17 W ∧ OwnP W w6.heap.size (n) (EV ((fun z_ => if z_ = i then ((enP nd ((runFrom hold gr.toNat n l (startS nd) t.toNat).rows[k]?.getD 0) i (enS nd ((runFrom hold gr.toNat n l (startS nd) t.toNat).rows.take k))) i : Int) + (cv nd i 1) else (enP nd ((runFrom hold gr.toNat n l (startS nd) t.toNat).rows[k]?.getD 0) i (enS nd ((runFrom hold gr.toNat n l (startS nd) t.toNat).rows.take k))) z_)))) rfl ⟨by kernel_rfl, of_decide_eq_true (by kernel_rfl), by kernel_rfl, by kernel_rfl, by kernel_rfl⟩ (of_decide_eq_true (by kernel_rfl)) ⟨?_, ?_, ?_, ?_, ?_, ?_, ?_, ?_, ?_, trivial⟩ ?_
     ·intro ac done u W Sx hT
      have hs := Sx.no 8 (by kernel_rfl)
      have hR := hT.1 hs
      exact X.vl (X.move rfl (Sx.ev 7 (.slice (some ⟨w6.heap.size, 0, none⟩) n n))) (Y.RT.of hs rfl hR.st0)
     ·intro ac done u W Sx hT
      have hs := Sx.no 8 (by kernel_rfl)
      have hR := hT.1 hs
      exact X.vl (X.move rfl (Sx.ev 12 (Vi i))) (Y.RT.of hs rfl hR.st0)
     ·intro ac done u W Sx hT
      have hs := Sx.no 8 (by kernel_rfl)
      have hR := hT.1 hs
      exact X.val (X.w0 rfl) rfl (X.index rfl (Sx.ev 53 (.slice (some ⟨w6.heap.size, 0, none⟩) n n)) (Sx.ev 54 (Vi i)) (X.idx (k := i) Try.underlying34 (Try.siz3 _) (by omega) (by omega) (by rw [Nat.mul_one]; exact addr_add0 _ _))) (Y.RT.of hs rfl hR.st0)
     ·intro ac done u W Sx hT
      have hs := Sx.no 8 (by kernel_rfl)
      have hR := hT.1 hs
      have g : Gr w17 W := hR.1
      exact X.vl (X.load rfl (Sx.ev 55 (.pointer (some ⟨w6.heap.size, i, none⟩))) (X.ld1 (Try.agg3 _) ((hC.gr g).at 13 rfl))) (Y.RT.of hs rfl hR.st0)
     ·intro ac done u W Sx hT
      have hs := Sx.no 8 (by kernel_rfl)
      have hR := hT.1 hs
      exact X.vl (X.field rfl (Sx.ev 13 (Vp w12.heap.size)) (X.fld Try.underlying31 rfl (Try.siz3 _) rfl rfl)) (Y.RT.of hs rfl hR.st0)
     ·intro ac done u W Sx hT
      have hs := Sx.no 8 (by kernel_rfl)
      have hR := hT.1 hs
      have g : Gr w17 W := hR.1
      exact X.vl (X.load rfl (Sx.ev 57 (.pointer (some ⟨w12.heap.size, 1, none⟩))) (X.ld1 (Try.agg3 _) ((hC.gr g).at 9 rfl))) (Y.RT.of hs rfl hR.st0)
     ·intro ac done u W Sx hT
      have hs := Sx.no 8 (by kernel_rfl)
      have hR := hT.1 hs
      exact X.vl (X.binop rfl (Sx.ev 56 (Vi ((enP nd ((runFrom hold gr.toNat n l (startS nd) t.toNat).rows[k]?.getD 0) i (enS nd ((runFrom hold gr.toNat n l (startS nd) t.toNat).rows.take k))) i))) (Sx.ev 58 (Vi (cv nd i 1))) (X.addI Try.underlying3 rfl (by omega) (by omega))) (Y.RT.of hs rfl hR.st0)
     ·intro ac done u W Sx hT
      have hs := Sx.no 8 (by kernel_rfl)
      have hR := hT.1 hs
      exact X.val (X.w0 rfl) rfl (X.index rfl (Sx.ev 53 (.slice (some ⟨w6.heap.size, 0, none⟩) n n)) (Sx.ev 54 (Vi i)) (X.idx (k := i) Try.underlying34 (Try.siz3 _) (by omega) (by omega) (by rw [Nat.mul_one]; exact addr_add0 _ _))) (Y.RT.of hs rfl hR.st0)
     ·intro ac done u W Sx hT
      have hR := hT.1 Sx.nd
      have g : Gr w17 W := hR.1
      have hS2 := (hS.gr g).set (k := i) (Vi (((enP nd ((runFrom hold gr.toNat n l (startS nd) t.toNat).rows[k]?.getD 0) i (enS nd ((runFrom hold gr.toNat n l (startS nd) t.toNat).rows.take k))) i : Int) + (cv nd i 1)))
      rw [EV_up] at hS2
      exact X.unit (X.w0 rfl) rfl (X.store rfl (Sx.ev 60 (.pointer (some ⟨w6.heap.size, i, none⟩))) (Sx.ev 59 (Vi (((enP nd ((runFrom hold gr.toNat n l (startS nd) t.toNat).rows[k]?.getD 0) i (enS nd ((runFrom hold gr.toNat n l (startS nd) t.toNat).rows.take k))) i : Int) + (cv nd i 1)))) ((hS.gr g).st1 (Try.siz3 _) rfl rfl (by omega))) (Y.RT.fin ⟨(g.only _).trans (Y.set_only _ _ _ _), hS2⟩)
     rintro ac u w20 hs hd hl_ ho ⟨hon, hS2⟩
     replace F : Fr ac 73 [(3, Vp w.heap.size), (6, .slice (some pd11) t.toNat rc), (7, .slice (some ⟨w6.heap.size, 0, none⟩) n n), (11, Vi (((runFrom hold gr.toNat n l (startS nd) t.toNat).rows)[k]?.getD 0)), (34, .slice (some pd11) t.toNat rc), (35, Vi t.toNat), (36, Vi k), (41, .slice (some pd14) n nc), (42, Vi n), (43, Vi i)] := X.fr hs hd hl_ _ (by kernel_rfl)
     clear hs hd hl_ ho
     replace G := Y.Only.up G hon (by omega)
     replace hnd := hnd0.gr G
     replace hl := hl0.gr G
     replace hIa := hIa.onlyAt hon (fun ad e h => by have := hIab ad e; omega)
     replace hIr := hIr.onlyAt hon (fun ad e h => by have := hIrb ad e; omega)
     replace hC := (hC.kc hon 0 rfl (hC.kc hon 1 rfl (hC.kc hon 2 rfl (hC.kc hon 8 rfl (hC.kc hon 9 rfl (hC.kc hon 10 rfl (hC.kc hon 11 rfl (hC.kc hon 12 rfl (RCells.nil _)))))))))
     replace hI1 := hI1.step hon (.inl rfl)
     replace hI2 := hI2.step hon (.inl rfl)
     replace hS : OwnP w20 w6.heap.size (n) (EV ((fun z_ => if z_ = i then ((enP nd ((runFrom hold gr.toNat n l (startS nd) t.toNat).rows[k]?.getD 0) i (enS nd ((runFrom hold gr.toNat n l (startS nd) t.toNat).rows.take k))) i : Int) + (cv nd i 1) else (enP nd ((runFrom hold gr.toNat n l (startS nd) t.toNat).rows[k]?.getD 0) i (enS nd ((runFrom hold gr.toNat n l (startS nd) t.toNat).rows.take k))) z_))) := hS2
     clear hS2 hon
     refine X.blockN ?_
     refine X.thenN ?_
     refine Y.lit (by kernel_rfl) ?_
     refine Y.pv F (X.binop rfl (F.e 43 rfl) (X.kc (Vi 1) rfl) (X.addI Try.underlying3 rfl (by omega) (by omega))) ?_;clear F ac;intro ac F
     refine Y.pv F (X.move rfl (F.e 69 rfl)) ?_;clear F ac;intro ac F
     refine Y.nil ?_
     replace F : Fr ac 73 [(3, Vp w.heap.size), (6, .slice (some pd11) t.toNat rc), (7, .slice (some ⟨w6.heap.size, 0, none⟩) n n), (11, Vi (((runFrom hold gr.toNat n l (startS nd) t.toNat).rows)[k]?.getD 0)), (34, .slice (some pd11) t.toNat rc), (35, Vi t.toNat), (36, Vi k), (41, .slice (some pd14) n nc), (42, Vi n), (43, Vi ((i : Int) + 1))] := F.sub _
     refine X.thenN ?_
     refine ⟨_, ?_, i + 1, rfl, by omega, hI2, (by rw [enP_succ nd _ i _ (by unfold en1 bitB; simp [h18])] at hS; exact hS), F.sub _⟩
     omega
 ·have hE := hE
  refine Y.pcall F (X.w0 rfl) rfl (X.enter (F := 44) rfl (X.kc (.func (.func 44) #[] #[]) rfl) (X.a3 (F.e 15 rfl) (F.e 16 rfl) (F.e 17 rfl)) (enters_of Try.func44 (by kernel_rfl) rfl _)) (begin_any na la n nc m lc gr hold t nd l w3 hnd hl) ?_
  clear F ac
  rintro e w21 ⟨h1, g, -⟩
  obtain rfl := h1 hE
  refine ⟨_, rfl, ?_⟩
  intro ac F
  replace G := G.trans g
  replace hC := hC.gr g
  replace hnd := hnd.gr g
  replace hl := hl.gr g
  clear g
  refine Y.pv F (X.move rfl (F.e 18 rfl)) ?_;clear F ac;intro ac F
  refine Y.pv F (X.extract rfl (F.e 14 rfl) rfl) ?_;clear F ac;intro ac F
  refine Y.pv F (X.extract rfl (F.e 14 rfl) rfl) ?_;clear F ac;intro ac F
  refine Y.pv F (X.assign rfl (F.e 19 rfl)) ?_;clear F ac;intro ac F
  refine Y.pv F (X.assign rfl (F.e 20 rfl)) ?_;clear F ac;intro ac F
  refine Y.nil ?_
  replace F : Fr ac 73 [(1, Vi t), (3, Vp w.heap.size), (8, Vi (playE gr hold nd t l)), (9, .pointer none)] := F.sub _
  refine X.thenN ?_
  refine Y.seq ?_
  refine Y.seq ?_
  refine Y.lit (by kernel_rfl) ?_
  refine Y.pv F (X.move rfl (F.e 8 rfl)) ?_;clear F ac;intro ac F
  refine Y.pv F (X.binop rfl (F.e 21 rfl) (X.kc (Vi 0) rfl) (X.neqI Try.underlying26 rfl)) ?_;clear F ac;intro ac F
  refine Y.nil ?_
  replace F : Fr ac 73 [(1, Vi t), (3, Vp w.heap.size), (8, Vi (playE gr hold nd t l)), (9, .pointer none), (22, .bool ((playE gr hold nd t l : Int) != 0))] := F.sub _
  refine X.thenN ?_
  have h23 : ((playE gr hold nd t l : Int) != 0) = true := by simpa using hE
  try rw [h23] at F
  refine Y.condT (F.e 22 rfl) ?_
  refine Y.seq ?_
  refine Y.lit (by kernel_rfl) ?_
  refine Y.pv F (X.move rfl (F.e 8 rfl)) ?_;clear F ac;intro ac F
  refine Y.pv F (X.assign rfl (X.kc (.slice none 0 0) rfl)) ?_;clear F ac;intro ac F
  refine Y.pv F (X.assign rfl (X.kc (.slice none 0 0) rfl)) ?_;clear F ac;intro ac F
  refine Y.pv F (X.assign rfl (F.e 23 rfl)) ?_;clear F ac;intro ac F
  refine Y.nil ?_
  replace F : Fr ac 73 [(6, .slice none 0 0), (7, .slice none 0 0), (8, Vi (playE gr hold nd t l))] := F.sub _
  refine X.thenN ?_
  refine Y.ret ?_
  refine X.thenR ?_
  exact Y.ret0 (v := .tuple #[.slice none 0 0, .slice none 0 0, Vi (playE gr hold nd t l)]) F (Y.rs3 F rfl (by kernel_rfl) (by kernel_rfl) (by kernel_rfl)) ⟨none, 0, 0, none, 0, 0, rfl, by unfold playRows; rw [if_neg hE]; exact Ints.nil _, by unfold playEn; rw [if_neg hE]; exact Ints.nil _, G⟩
end
section
set_option linter.unusedVariables false
open Go.RowKit
theorem stc {P : Program} {b n : Nat} : ∀ (rest : List Value) (i : Nat) (W : World) (val : Nat → Value), OwnP W b n val → i + rest.length ≤ n → (rest.all fun v => v.oneCell') = true →
    ∃ W', (storeCells ⟨b, 0, none⟩ rest i).run P W = .ok () W' ∧ OwnP W' b n (fun k => if i ≤ k ∧ k < i + rest.length then rest.getD (k - i) undef else val k) ∧ Only (fun z => z = b) W W' := by
  intro rest
  induction rest with
  | nil => intro i W val h _ _; exact ⟨W, by simp [storeCells, go_sem], h.congr (fun k _ => by rw [if_neg (by simp only [List.length_nil]; omega)]), Only.refl _ _⟩
  | cons v rest ih =>
    intro i W val h hi h1
    simp only [List.all_cons, Bool.and_eq_true, List.length_cons] at h1 hi
    have hs := run_store P W ⟨b, i, none⟩ v .plain h1.1
    rw [h.cell (k := i) (by omega), h.fz] at hs
    simp only [Bool.false_eq_true, if_false] at hs
    obtain ⟨W', hr, hO, hon⟩ := ih (i + 1) _ _ (h.set (k := i) v) (by omega) h1.2
    refine ⟨W', ?_, hO.congr (fun k hk => ?_), (Y.set_only _ _ _ _).trans hon⟩
    · have e : (⟨b, 0, none⟩ : Addr).add i = ⟨b, i, none⟩ := addr_add0 _ _
      simp [storeCells, e, hs, go_sem]
      exact hr
    · simp only [List.length_cons]
      by_cases e : k = i
      · subst e; rw [if_neg (by omega), if_pos rfl, if_pos (by omega)]; simp
      · by_cases e2 : i + 1 ≤ k ∧ k < i + 1 + rest.length
        · rw [if_pos e2, if_pos (by omega), show k - i = (k - (i + 1)) + 1 by omega]; simp
        · rw [if_neg e2, if_neg e, if_neg (by omega)]
theorem OwnP.stL {P : Program} {W : World} {b n : Nat} {val : Nat → Value} {t : TypeId} (vs : List Value) (h : OwnP W b n val) (hn : vs.length = n) (hS : ∀ W, (sizeOf t).run P W = .ok vs.length W) (h1 : (vs.all fun v => v.oneCell') = true) :
    ∃ W', (Instr.storeAt t (.pointer (some ⟨b, 0, none⟩)) (.agg vs.toArray)).run P W = .ok () W' ∧ OwnP W' b n (VL vs) ∧ Only (fun z => z = b) W W' := by
  obtain ⟨W', hr, hO, hon⟩ := stc (P := P) vs 0 W val h (by omega) h1
  refine ⟨W', ?_, hO.congr (fun k hk => ?_), hon⟩
  · simp [Instr.storeAt, storeVar, Instr.sureAddr, hS, Value.cells, go_sem]
    exact hr
  · rw [if_pos (by omega)]; rfl
theorem stAt_own {W : World} {b n k : Nat} {L : List (List Int)} (h : OwnP W b (n * k) (fun j => .int .i64 (cv L (j / k) (j % k)))) (hl : L.length = n) (hk : ∀ j, j < n → (L[j]?.getD []).length = k) (hn : n * k * 8 ≤ 140737488351232) : StAt W k (some ⟨b, 0, none⟩) n L :=
  ⟨hl, hn, fun j hj => ⟨_, rfl, h.lt, hk j hj, fun r hr => by
    rw [addr_add0, Y.addr_add]
    have h1 : (j * k + r) / k = j := by
      rw [Nat.mul_comm, Nat.mul_add_div (by omega), Nat.div_eq_of_lt hr, Nat.add_zero]
    have h2 : (j * k + r) % k = r := by
      rw [Nat.mul_comm, Nat.mul_add_mod, Nat.mod_eq_of_lt hr]
    have h3 : j * k + r < n * k := by
      have := Nat.mul_le_mul_right k (show j + 1 ≤ n by omega)
      rw [Nat.add_mul, Nat.one_mul] at this
      omega
    rw [h.cell h3]
    show some (Value.int .i64 (cv L ((j * k + r) / k) ((j * k + r) % k))) = _
    rw [h1, h2]; rfl⟩⟩
theorem Try.exc (a : Option Addr) (n c : Nat) (g h : Int) (W : World) : (Instr.build 24 #[(0, .int .i64 g), (1, .int .i64 h), (2, .slice a n c)]).run Try.prog W = .ok (.agg #[.int .i64 g, .int .i64 h, .slice a n c]) W := by kernel_rfl
end
section
set_option linter.unusedVariables false
open Go.RowKit
/-- what was there before stays -/
theorem Gr.own {wb W W' : World} {v : Value} (g : Gr wb W) (h : Only (fun b => v.ownBlock = some b) W W') (hb : ∀ b, v.ownBlock = some b → wb.heap.size ≤ b) : Gr wb W' :=
  ((g.only (fun x => wb.heap.size ≤ x)).trans (h.mono' (fun i e => hb i e))).gr (fun i hi e => by omega)
/-- the cells of nudges -/
def nu4 (x : List Int) : List Value := [.int .i64 (nv x 0), .int .i64 (nv x 1), .int .i64 (nv x 2), .int .i64 (nv x 3)]
def flat4 (l : List (List Int)) : List Value := l.flatMap nu4
theorem flat4_snoc (l : List (List Int)) (x : List Int) : flat4 (l ++ [x]) = flat4 l ++ nu4 x := by
  unfold flat4; rw [List.flatMap_append]; simp
theorem flat4_at : ∀ (l : List (List Int)) (j : Nat) (u : Value), (flat4 l)[j]? = some u → u = .int .i64 (cv l (j / 4) (j % 4))
  | [], j, u, h => by simp [flat4] at h
  | x :: l, j, u, h => by
    have e : flat4 (x :: l) = nu4 x ++ flat4 l := by simp [flat4]
    rw [e] at h
    by_cases hj : j < 4
    · rw [List.getElem?_append_left (by simpa [nu4] using hj)] at h
      have h0 : j / 4 = 0 := by omega
      have h1 : j % 4 = j := by omega
      rw [h0, h1]
      obtain rfl | rfl | rfl | rfl : j = 0 ∨ j = 1 ∨ j = 2 ∨ j = 3 := by omega
      all_goals (simp [nu4] at h; rw [← h]; rfl)
    · rw [List.getElem?_append_right (by simp [nu4]; omega)] at h
      have := flat4_at l (j - 4) u (by simpa [nu4] using h)
      have h0 : j / 4 = (j - 4) / 4 + 1 := by omega
      have h1 : j % 4 = (j - 4) % 4 := by omega
      rw [h0, h1, this]; rfl
theorem OwnR.nudges {w : World} {B e n : Nat} {v : Value} {l : List (List Int)} (h : OwnR w B e 4 v n (flat4 l)) (hn : l.length = n) (h4 : ∀ x ∈ l, x.length = 4) (hm : n ≤ 1000000) :
    ∃ a c, v = .slice a n c ∧ StAt w 4 a n l := by
  have h4' : ∀ j, j < n → (l[j]?.getD []).length = 4 := fun j hj => by
    rw [List.getElem?_eq_getElem (by omega)]; exact h4 _ (List.getElem_mem _)
  rcases h.shape with ⟨rfl, h0⟩ | ⟨g, c, rfl, _, _⟩
  · subst h0
    exact ⟨none, 0, rfl, hn, by omega, fun j hj => by omega⟩
  · exact ⟨_, c, rfl, stAt_own (h.ownP (fun j u hu => flat4_at l j u hu)) hn h4' (by omega)⟩
theorem Try.bs25 (a b c d : Int) (w : World) : (Instr.buildSlice 25 1 #[(0, .agg #[.int .i64 a, .int .i64 b, .int .i64 c, .int .i64 d])]).run Try.prog w = .ok (.slice (some ⟨w.heap.size, 0, none⟩) 1 1) (w.alloc (.cells #[.int .i64 a, .int .i64 b, .int .i64 c, .int .i64 d] 33)) := by kernel_rfl
/-- nudges without those of a kind -/
def withoutL (l : List (List Int)) (k : Int) : List (List Int) := l.filter (fun x => nv x 1 != k)
theorem withoutL_take {l : List (List Int)} {k : Int} {i : Nat} (h : i < l.length) : withoutL (l.take (i + 1)) k = withoutL (l.take i) k ++ (if nv (l[i]?.getD []) 1 != k then [l[i]?.getD []] else []) := by
  unfold withoutL
  rw [List.take_succ_eq_append_getElem h, List.filter_append, List.getElem?_eq_getElem h, List.filter_cons, List.filter_nil]
  rfl
end
section
set_option linter.unusedVariables false
open Go.RowKit
end
section
set_option linter.unusedVariables false
open Go.RowKit
/-- the cells of nodes -/
def F5 (nd : List (List Int)) : Nat → Int := fun k => cv nd (k / 5) (k % 5)
def flat5 (nd : List (List Int)) (n : Nat) : List Value := (List.range (n * 5)).map (fun k => .int .i64 (F5 nd k))
theorem flat5_len (nd : List (List Int)) (n : Nat) : (flat5 nd n).length = n * 5 := by unfold flat5; simp
theorem flat5_one (nd : List (List Int)) (n : Nat) : ((flat5 nd n).all fun u => u.oneCell') = true := by
  rw [List.all_eq_true]
  intro x hx
  unfold flat5 at hx
  obtain ⟨k, _, rfl⟩ := List.mem_map.1 hx
  rfl
theorem flat5_val {nd : List (List Int)} {n j : Nat} {u : Value} (h : (flat5 nd n)[j]? = some u) : j < n * 5 ∧ u = EV (F5 nd) j := by
  have hj : j < n * 5 := by
    have := (List.getElem?_eq_some_iff.1 h).1
    rwa [flat5_len] at this
  unfold flat5 at h
  rw [List.getElem?_map, List.getElem?_range hj] at h
  exact ⟨hj, (Option.some.inj h).symm⟩
theorem flat5_src {W : World} {a : Option Addr} {n : Nat} {nd : List (List Int)} (h : StAt W 5 a n nd) {ad : Addr} (ha : a = some ad) : ∀ j u, (flat5 nd n)[j]? = some u → W.cell? (ad.add j) = some u := by
  intro j u hj
  obtain ⟨h1, rfl⟩ := flat5_val hj
  obtain ⟨ad', e, _, _, hc⟩ := h.at (j := j / 5) (by omega)
  rw [ha] at e
  injection e with e
  subst e
  have := hc (j % 5) (by omega)
  rw [Addr.add_add, show j / 5 * 5 + j % 5 = j by omega] at this
  exact this
/-- what a node takes at the most, tick by tick -/
theorem worst_enF {gr hold T : Int} {nd : List (List Int)} {i : Nat} (hc : cluE gr hold nd = 0) (hi : i < nd.length) (h0 : 0 ≤ T) (h1 : T ≤ 1000) : nodeE gr hold nd i T = 0 ∧ worstV gr hold nd i T = enF (ndV nd hold i T) T.toNat 0 (cv nd i 3) 0 := by
  have hk := cluE_ok hc
  have hT : ticksE gr hold nd T = 0 := by
    unfold ticksE
    rw [if_neg (fun e => e hc), withinB_of h0 h1]; rfl
  have hN := nodeE_of (i := (i : Int)) hT (by omega) (by omega)
  have hb := hk.bud i hi
  refine ⟨hN, ?_⟩
  unfold worstV
  rw [if_pos hN, Int.toNat_natCast, best_enF (ndOk_of hk hi h0 (by omega)) T.toNat 0 (cv nd i 3) (by omega) (by show T - 0 = _; omega) hb.1 (Int.le_refl _)]
theorem enF_congr {p q : Nd} (ha : p.aw = q.aw) (hz : p.za = q.za) (hb : p.bu = q.bu) (hr : p.re = q.re) (hh : p.hold = q.hold) : ∀ (m : Nat) (t x : Int) (r : Nat), enF p m t x r = enF q m t x r
  | 0, _, _, _ => rfl
  | m + 1, t, x, r => by
    have er : refV p t x = refV q t x := by unfold refV; rw [hb, hr]
    rw [enF_succ, enF_succ, er, ha, hz, hh, enF_congr ha hz hb hr hh m, enF_congr ha hz hb hr hh m, enF_congr ha hz hb hr hh m]
theorem worst_more {gr hold T : Int} {nd : List (List Int)} {i : Nat} (hc : cluE gr hold nd = 0) (hi : i < nd.length) (h0 : 0 ≤ T) (h1 : T ≤ 999) : cv nd i 2 ≤ worstV gr hold nd i (T + 1) - worstV gr hold nd i T ∧ worstV gr hold nd i (T + 1) - worstV gr hold nd i T ≤ cv nd i 1 := by
  have hk := cluE_ok hc
  rw [(worst_enF hc hi h0 (by omega)).2, (worst_enF hc hi (show 0 ≤ T + 1 by omega) (by omega)).2, show (T + 1).toNat = T.toNat + 1 by omega]
  rw [enF_congr (p := ndV nd hold i (T + 1)) (q := ndV nd hold i T) rfl rfl rfl rfl rfl]
  exact enF_more (p := ndV nd hold i T) (hk.asl i hi).2 T.toNat 0 (cv nd i 3) 0
theorem worst_bd {gr hold T : Int} {nd : List (List Int)} {i : Nat} (hc : cluE gr hold nd = 0) (hi : i < nd.length) (h0 : 0 ≤ T) (h1 : T ≤ 1000) : 0 ≤ worstV gr hold nd i T ∧ worstV gr hold nd i T ≤ 11000000 := by
  have hk := cluE_ok hc
  have hb := hk.bud i hi
  have hN := (worst_enF hc hi h0 h1).1
  unfold worstV
  rw [if_pos hN, Int.toNat_natCast]
  exact (bestV_bd (ndOk_of hk hi h0 (by omega)) (t := 0) (x := cv nd i 3) (by omega) hb.1 (Int.le_refl _)).1
theorem ownP_3 {W : World} {b : Nat} {x y z : Value} {t : TypeId} (h : W.heap[b]? = some (.cells #[x, y, z] t)) : OwnP W b 3 (VL [x, y, z]) := ownP_box (vs := [x, y, z]) h
end
section
open Go.RowKit

theorem wo_room {l : List (List Int)} {k : Int} {i m : Nat} (hl : l.length = m) (hm : m ≤ 500000) : (withoutL (l.take i) k).length + 1 ≤ 1000000 := by
  have h1 : (withoutL (l.take i) k).length ≤ (l.take i).length := List.length_filter_le _ _
  have h2 : (l.take i).length ≤ l.length := by rw [List.length_take]; omega
  omega
end
section
open Go.RowKit
end
section
open Go.RowKit

theorem st_only {S : Nat → Prop} {w w' : World} {k : Nat} {a : Option Addr} {n : Nat} {L : List (List Int)} (h : StAt w k a n L) (g : Only S w w') (hn : ∀ ad, a = some ad → ¬ S ad.block) : StAt w' k a n L :=
  ⟨h.1, h.2.1, fun j hj => by
    obtain ⟨ad, e, hb, hl, hc⟩ := h.2.2 j hj
    exact ⟨ad, e, Nat.lt_of_lt_of_le hb g.size, hl, fun r hr => g.cell (hc r hr) (by rw [add_block, add_block]; exact hn ad e)⟩⟩
end
end Go.Proofs.Ytoalamakhjbedaa
