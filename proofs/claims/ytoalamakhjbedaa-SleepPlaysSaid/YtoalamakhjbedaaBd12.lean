/- Several texts of this claim in one file. (1) Contract: the end of a tick. (2) Contract: the run of a play. (3) The memory of the reference's play: its nodes, their timers, and the two lists that it makes. Nothing of the program is walked here. (4) What is held while a node of the reference's play is made; what its state keeps. -/
import Derived.Test.YtoalamakhjbedaaBd3
import Derived.Test.YtoalamakhjbedaaBd9
import Derived.Test.YtoalamakhjbedaaBd10
import Derived.Test.YtoalamakhjbedaaBd11
namespace Go.Proofs.Ytoalamakhjbedaa
section
open Go.RowKit

set_option maxRecDepth 100000 in
set_option maxHeartbeats 1000000 in
theorem pass_any (wB w : World) (bp bn : Nat) (gr hold : Int) (na la pa : Option Addr) (n nc m lc cap : Nat) (l : List (List Int)) (s : PS) (hP : PlE wB w bp bn gr hold na la pa n nc m lc cap l) (hS : OwnP w bn (n * 17) (NV s)) (h16 : n ≤ 16) (hok : SOk n s) :
  Calls Try.prog 73 #[Vp bp] w fun e w' => e = .returned (Vi (passS n s).2) ∧ Only (fun b => b = bn) w w' ∧ OwnP w' bn (n * 17) (NV (passS n s).1) := by
 have G := Gr.refl w
 have hE := Only.refl (fun b => b = bn) w
 have hC := hP.p
 have hpb := hP.pb
 have hnb := hP.nb
 have hgb := hP.g.size
 have hpe := hP.ne
 have hplt := hP.lt
 have hnlt := hS.lt
 refine Y.calls 58 Try.func73 rfl rfl ?_
 intro ac F0
 have F : Fr ac 58 [(0, Vp bp)] := F0.sub _
 clear F0
 refine Y.seq ?_
 refine Y.lit (by kernel_rfl) ?_
 refine Y.pv F (X.assign rfl (X.kc (Vi 0) rfl)) ?_;clear F ac;intro ac F
 refine Y.nil ?_
 replace F : Fr ac 58 [(0, Vp bp), (2, Vi 0)] := F.sub _
 refine X.thenN ?_
 refine Y.seq ?_
 refine Y.seq ?_
 refine Y.lit (by kernel_rfl) ?_
 refine Y.pv F (X.move rfl (F.e 0 rfl)) ?_;clear F ac;intro ac F
 refine Y.pv F (Y.nilC rfl (F.e 7 rfl)) ?_;clear F ac;intro ac F
 refine Y.pv F (X.field rfl (F.e 8 rfl) (X.fld Try.underlying101 rfl (Try.siz99 _) rfl rfl)) ?_;clear F ac;intro ac F
 refine Y.pv F (X.load rfl (F.e 9 rfl) (X.ld1 (Try.agg99 _) (hC.at 4 rfl))) ?_;clear F ac;intro ac F
 refine Y.pv F (X.len1 Try.underlying99 rfl (F.e 10 rfl)) ?_;clear F ac;intro ac F
 refine Y.pv F (X.move rfl (X.kc (Vi 0) rfl)) ?_;clear F ac;intro ac F
 refine Y.nil ?_
 replace F : Fr ac 58 [(0, Vp bp), (2, Vi 0), (11, Vi n), (12, Vi 0)] := F.sub _
 refine X.thenN ?_
 refine Y.block ?_
 have hE_1 := hE
 have hP_1 := hP
 have hC_1 := hC
 refine Y.loop (fun me_ ac wr => ∃ (i : Nat), me_ = n - i ∧ i ≤ n ∧ Only (fun b => b = bn) w wr ∧ OwnP wr bn (n * 17) (NV ((itN pass2 i (s, 0)).1)) ∧ Fr ac 58 [(0, Vp bp), (2, Vi ((itN pass2 i (s, 0)).2)), (11, Vi n), (12, Vi i)]) _ ⟨0, rfl, Nat.zero_le _, Only.refl _ _, hS, F.sub _⟩ ?_
 clear F hP hC hS ac hE
 intro me_ ac w3 hI
 obtain ⟨i, rfl, hi, hI1, hS, F⟩ := hI
 have hP := hP_1.on hI1
 have hE := hE_1.trans hI1
 have hC := (hC_1.kc hI1 0 rfl (hC_1.kc hI1 1 rfl (hC_1.kc hI1 2 rfl (hC_1.kc hI1 3 rfl (hC_1.kc hI1 4 rfl (RCells.nil _))))))
 replace G := Gr.refl w3
 refine Y.seq ?_
 refine Y.lit (by kernel_rfl) ?_
 refine Y.pv F (X.binop rfl (F.e 12 rfl) (F.e 11 rfl) (X.lssI Try.underlying3 rfl)) ?_;clear F ac;intro ac F
 refine Y.nil ?_
 replace F : Fr ac 58 [(0, Vp bp), (2, Vi ((itN pass2 i (s, 0)).2)), (11, Vi n), (12, Vi i), (13, .bool (decide ((i : Int) < n)))] := F.sub _
 refine X.thenN ?_
 refine Y.seq ?_
 cases h4 : decide ((i : Int) < n) with
 | false =>
  try rw [h4] at F
  have h4p : ¬ ((i : Int) < n) := of_decide_eq_false h4
  obtain rfl : n = i := by omega
  refine Y.condF (F.e 13 rfl) ?_
  refine Y.exit ?_
  refine X.thenX ?_
  refine X.thenX ?_
  refine X.blockX ?_
  refine X.thenN ?_
  refine Y.seq ?_
  refine Y.lit (by kernel_rfl) ?_
  refine Y.pv F (X.move rfl (F.e 2 rfl)) ?_;clear F ac;intro ac F
  refine Y.pv F (X.assign rfl (F.e 57 rfl)) ?_;clear F ac;intro ac F
  refine Y.nil ?_
  replace F : Fr ac 58 [(0, Vp bp), (2, Vi ((itN pass2 n (s, 0)).2)), (11, Vi n), (12, Vi n), (13, .bool false)] := F.sub _
  refine X.thenN ?_
  refine Y.ret ?_
  exact Y.ret0 (v := Vi ((itN pass2 n (s, 0)).2)) F (Y.rs1 F rfl (by kernel_rfl)) ⟨rfl, hE, hS⟩
 | true =>
  try rw [h4] at F
  have h4p : ((i : Int) < n) := of_decide_eq_true h4
  have hi2 : i < n := by omega
  have hki := hok.pass i (by omega)
  refine Y.condT (F.e 13 rfl) ?_
  refine Y.skip ?_
  refine X.thenN ?_
  refine Y.seq ?_
  refine Y.block ?_
  refine Y.seq ?_
  refine Y.lit (by kernel_rfl) ?_
  refine Y.pv F (X.move rfl (F.e 12 rfl)) ?_;clear F ac;intro ac F
  refine Y.pv F (X.assign rfl (F.e 14 rfl)) ?_;clear F ac;intro ac F
  refine Y.nil ?_
  replace F : Fr ac 58 [(0, Vp bp), (2, Vi ((itN pass2 i (s, 0)).2)), (3, Vi i), (11, Vi n), (12, Vi i), (13, .bool true)] := F.sub _
  refine X.thenN ?_
  refine Y.seq ?_
  refine Y.lit (by kernel_rfl) ?_
  refine Y.pv F (X.move rfl (F.e 0 rfl)) ?_;clear F ac;intro ac F
  refine Y.pv F (Y.nilC rfl (F.e 15 rfl)) ?_;clear F ac;intro ac F
  refine Y.pv F (X.field rfl (F.e 16 rfl) (X.fld Try.underlying101 rfl (Try.siz99 _) rfl rfl)) ?_;clear F ac;intro ac F
  refine Y.pv F (X.load rfl (F.e 17 rfl) (X.ld1 (Try.agg99 _) (hC.at 4 rfl))) ?_;clear F ac;intro ac F
  refine Y.pv F (X.move rfl (F.e 3 rfl)) ?_;clear F ac;intro ac F
  obtain rfl : pa = some ⟨bn, 0, none⟩ := hP.hpa (by omega)
  refine Y.pv F (X.index rfl (F.e 18 rfl) (F.e 19 rfl) (X.idx (k := i) Try.underlying99 (Try.siz104 _) (by omega) (by omega) (addr_add0 _ _))) ?_;clear F ac;intro ac F
  refine Y.pv F (X.assign rfl (F.ev 20 (.pointer (some ⟨bn, i * 17, none⟩)))) ?_;clear F ac;intro ac F
  refine Y.nil ?_
  replace F : Fr ac 58 [(0, Vp bp), (2, Vi ((itN pass2 i (s, 0)).2)), (3, Vi i), (4, .pointer (some ⟨bn, i * 17, none⟩)), (11, Vi n), (12, Vi i), (13, .bool true)] := F.sub _
  refine X.thenN ?_
  refine Y.seq ?_
  refine Y.lit (by kernel_rfl) ?_
  refine Y.pv F (X.move rfl (F.ev 4 (.pointer (some ⟨bn, i * 17, none⟩)))) ?_;clear F ac;intro ac F
  refine Y.pv F (Y.nilC rfl (F.ev 21 (.pointer (some ⟨bn, i * 17, none⟩)))) ?_;clear F ac;intro ac F
  refine Y.pv F (X.field rfl (F.ev 22 (.pointer (some ⟨bn, i * 17, none⟩))) (X.fld Try.underlying104 rfl (Try.siz4 _) rfl rfl)) ?_;clear F ac;intro ac F
  refine Y.punit F (X.w0 rfl) rfl (X.store rfl (F.ev 23 (.pointer (some ⟨bn, i * 17 + 16, none⟩))) (X.kc (.bool false) rfl) (hS.st1 (Try.siz4 _) rfl rfl (by omega))) ?_;clear F ac;intro ac F
  have hon := Y.set_only w3 bn (i * 17 + 16) (.bool false)
  have hS2 := hS.set (k := i * 17 + 16) (.bool false)
  rw [NV_upB] at hS2
  generalize w3.setCell ⟨bn, i * 17 + 16, none⟩ (.bool false) = w5 at *
  replace hP := hP.on hon
  replace hC := (hC.kc hon 0 rfl (hC.kc hon 1 rfl (hC.kc hon 2 rfl (hC.kc hon 3 rfl (hC.kc hon 4 rfl (RCells.nil _))))))
  replace hE := hE.step hon (.inl rfl)
  replace hI1 := hI1.step hon (.inl rfl)
  replace G := Gr.refl w5
  replace hS : OwnP w5 bn (n * 17) (NV (up ((itN pass2 i (s, 0)).1) i 16 0)) := hS2
  clear hS2 hon
  refine Y.nil ?_
  replace F : Fr ac 58 [(0, Vp bp), (2, Vi ((itN pass2 i (s, 0)).2)), (3, Vi i), (4, .pointer (some ⟨bn, i * 17, none⟩)), (11, Vi n), (12, Vi i), (13, .bool true)] := F.sub _
  refine X.thenN ?_
  refine Y.seq ?_
  refine Y.seq ?_
  refine Y.lit (by kernel_rfl) ?_
  refine Y.pv F (X.move rfl (F.ev 4 (.pointer (some ⟨bn, i * 17, none⟩)))) ?_;clear F ac;intro ac F
  refine Y.pv F (Y.nilC rfl (F.ev 24 (.pointer (some ⟨bn, i * 17, none⟩)))) ?_;clear F ac;intro ac F
  refine Y.pv F (X.field rfl (F.ev 25 (.pointer (some ⟨bn, i * 17, none⟩))) (X.fld Try.underlying104 rfl (Try.siz102 _) rfl rfl)) ?_;clear F ac;intro ac F
  replace hC : RCells w5 [(Ad bp 0, Vi gr), (Ad bp 1, Vi hold), (Ad bp 2, .slice na n nc), (Ad bp 3, .slice la m lc), (Ad bp 4, .slice (some ⟨bn, 0, none⟩) n cap), (⟨bn, i * 17 + 6, none⟩, Vi ((up ((itN pass2 i (s, 0)).1) i 16 0) i 6))] := hC.append ((RCells.cons ((hS.cell (k := i * 17 + 6) (by omega)).trans (congrArg some (NV_int (up ((itN pass2 i (s, 0)).1) i 16 0) i 6 (by decide)))) (RCells.nil _)))
  replace hC : RCells w5 [(Ad bp 0, Vi gr), (Ad bp 1, Vi hold), (Ad bp 2, .slice na n nc), (Ad bp 3, .slice la m lc), (Ad bp 4, .slice (some ⟨bn, 0, none⟩) n cap), (⟨bn, i * 17 + 6, none⟩, Vi ((up ((itN pass2 i (s, 0)).1) i 16 0) i 6)), (⟨bn, i * 17 + 7, none⟩, Vi ((up ((itN pass2 i (s, 0)).1) i 16 0) i 7))] := hC.append ((RCells.cons ((hS.cell (k := i * 17 + 7) (by omega)).trans (congrArg some (NV_int (up ((itN pass2 i (s, 0)).1) i 16 0) i 7 (by decide)))) (RCells.nil _)))
  replace hC : RCells w5 [(Ad bp 0, Vi gr), (Ad bp 1, Vi hold), (Ad bp 2, .slice na n nc), (Ad bp 3, .slice la m lc), (Ad bp 4, .slice (some ⟨bn, 0, none⟩) n cap), (⟨bn, i * 17 + 6, none⟩, Vi ((up ((itN pass2 i (s, 0)).1) i 16 0) i 6)), (⟨bn, i * 17 + 7, none⟩, Vi ((up ((itN pass2 i (s, 0)).1) i 16 0) i 7)), (⟨bn, i * 17 + 8, none⟩, Vi ((up ((itN pass2 i (s, 0)).1) i 16 0) i 8))] := hC.append ((RCells.cons ((hS.cell (k := i * 17 + 8) (by omega)).trans (congrArg some (NV_int (up ((itN pass2 i (s, 0)).1) i 16 0) i 8 (by decide)))) (RCells.nil _)))
  replace hC : RCells w5 [(Ad bp 0, Vi gr), (Ad bp 1, Vi hold), (Ad bp 2, .slice na n nc), (Ad bp 3, .slice la m lc), (Ad bp 4, .slice (some ⟨bn, 0, none⟩) n cap), (⟨bn, i * 17 + 6, none⟩, Vi ((up ((itN pass2 i (s, 0)).1) i 16 0) i 6)), (⟨bn, i * 17 + 7, none⟩, Vi ((up ((itN pass2 i (s, 0)).1) i 16 0) i 7)), (⟨bn, i * 17 + 8, none⟩, Vi ((up ((itN pass2 i (s, 0)).1) i 16 0) i 8)), (⟨bn, i * 17 + 9, none⟩, Vi ((up ((itN pass2 i (s, 0)).1) i 16 0) i 9))] := hC.append ((RCells.cons ((hS.cell (k := i * 17 + 9) (by omega)).trans (congrArg some (NV_int (up ((itN pass2 i (s, 0)).1) i 16 0) i 9 (by decide)))) (RCells.nil _)))
  replace hC : RCells w5 [(Ad bp 0, Vi gr), (Ad bp 1, Vi hold), (Ad bp 2, .slice na n nc), (Ad bp 3, .slice la m lc), (Ad bp 4, .slice (some ⟨bn, 0, none⟩) n cap), (⟨bn, i * 17 + 6, none⟩, Vi ((up ((itN pass2 i (s, 0)).1) i 16 0) i 6)), (⟨bn, i * 17 + 7, none⟩, Vi ((up ((itN pass2 i (s, 0)).1) i 16 0) i 7)), (⟨bn, i * 17 + 8, none⟩, Vi ((up ((itN pass2 i (s, 0)).1) i 16 0) i 8)), (⟨bn, i * 17 + 9, none⟩, Vi ((up ((itN pass2 i (s, 0)).1) i 16 0) i 9)), (⟨bn, i * 17 + 10, none⟩, Vi ((up ((itN pass2 i (s, 0)).1) i 16 0) i 10))] := hC.append ((RCells.cons ((hS.cell (k := i * 17 + 10) (by omega)).trans (congrArg some (NV_int (up ((itN pass2 i (s, 0)).1) i 16 0) i 10 (by decide)))) (RCells.nil _)))
  replace hC : RCells w5 [(Ad bp 0, Vi gr), (Ad bp 1, Vi hold), (Ad bp 2, .slice na n nc), (Ad bp 3, .slice la m lc), (Ad bp 4, .slice (some ⟨bn, 0, none⟩) n cap), (⟨bn, i * 17 + 6, none⟩, Vi ((up ((itN pass2 i (s, 0)).1) i 16 0) i 6)), (⟨bn, i * 17 + 7, none⟩, Vi ((up ((itN pass2 i (s, 0)).1) i 16 0) i 7)), (⟨bn, i * 17 + 8, none⟩, Vi ((up ((itN pass2 i (s, 0)).1) i 16 0) i 8)), (⟨bn, i * 17 + 9, none⟩, Vi ((up ((itN pass2 i (s, 0)).1) i 16 0) i 9)), (⟨bn, i * 17 + 10, none⟩, Vi ((up ((itN pass2 i (s, 0)).1) i 16 0) i 10)), (⟨bn, i * 17 + 11, none⟩, Vi ((up ((itN pass2 i (s, 0)).1) i 16 0) i 11))] := hC.append ((RCells.cons ((hS.cell (k := i * 17 + 11) (by omega)).trans (congrArg some (NV_int (up ((itN pass2 i (s, 0)).1) i 16 0) i 11 (by decide)))) (RCells.nil _)))
  replace hC : RCells w5 [(Ad bp 0, Vi gr), (Ad bp 1, Vi hold), (Ad bp 2, .slice na n nc), (Ad bp 3, .slice la m lc), (Ad bp 4, .slice (some ⟨bn, 0, none⟩) n cap), (⟨bn, i * 17 + 6, none⟩, Vi ((up ((itN pass2 i (s, 0)).1) i 16 0) i 6)), (⟨bn, i * 17 + 7, none⟩, Vi ((up ((itN pass2 i (s, 0)).1) i 16 0) i 7)), (⟨bn, i * 17 + 8, none⟩, Vi ((up ((itN pass2 i (s, 0)).1) i 16 0) i 8)), (⟨bn, i * 17 + 9, none⟩, Vi ((up ((itN pass2 i (s, 0)).1) i 16 0) i 9)), (⟨bn, i * 17 + 10, none⟩, Vi ((up ((itN pass2 i (s, 0)).1) i 16 0) i 10)), (⟨bn, i * 17 + 11, none⟩, Vi ((up ((itN pass2 i (s, 0)).1) i 16 0) i 11)), (⟨bn, i * 17 + 12, none⟩, Vi ((up ((itN pass2 i (s, 0)).1) i 16 0) i 12))] := hC.append ((RCells.cons ((hS.cell (k := i * 17 + 12) (by omega)).trans (congrArg some (NV_int (up ((itN pass2 i (s, 0)).1) i 16 0) i 12 (by decide)))) (RCells.nil _)))
  replace hC : RCells w5 [(Ad bp 0, Vi gr), (Ad bp 1, Vi hold), (Ad bp 2, .slice na n nc), (Ad bp 3, .slice la m lc), (Ad bp 4, .slice (some ⟨bn, 0, none⟩) n cap), (⟨bn, i * 17 + 6, none⟩, Vi ((up ((itN pass2 i (s, 0)).1) i 16 0) i 6)), (⟨bn, i * 17 + 7, none⟩, Vi ((up ((itN pass2 i (s, 0)).1) i 16 0) i 7)), (⟨bn, i * 17 + 8, none⟩, Vi ((up ((itN pass2 i (s, 0)).1) i 16 0) i 8)), (⟨bn, i * 17 + 9, none⟩, Vi ((up ((itN pass2 i (s, 0)).1) i 16 0) i 9)), (⟨bn, i * 17 + 10, none⟩, Vi ((up ((itN pass2 i (s, 0)).1) i 16 0) i 10)), (⟨bn, i * 17 + 11, none⟩, Vi ((up ((itN pass2 i (s, 0)).1) i 16 0) i 11)), (⟨bn, i * 17 + 12, none⟩, Vi ((up ((itN pass2 i (s, 0)).1) i 16 0) i 12)), (⟨bn, i * 17 + 13, none⟩, Vi ((up ((itN pass2 i (s, 0)).1) i 16 0) i 13))] := hC.append ((RCells.cons ((hS.cell (k := i * 17 + 13) (by omega)).trans (congrArg some (NV_int (up ((itN pass2 i (s, 0)).1) i 16 0) i 13 (by decide)))) (RCells.nil _)))
  replace hC : RCells w5 [(Ad bp 0, Vi gr), (Ad bp 1, Vi hold), (Ad bp 2, .slice na n nc), (Ad bp 3, .slice la m lc), (Ad bp 4, .slice (some ⟨bn, 0, none⟩) n cap), (⟨bn, i * 17 + 6, none⟩, Vi ((up ((itN pass2 i (s, 0)).1) i 16 0) i 6)), (⟨bn, i * 17 + 7, none⟩, Vi ((up ((itN pass2 i (s, 0)).1) i 16 0) i 7)), (⟨bn, i * 17 + 8, none⟩, Vi ((up ((itN pass2 i (s, 0)).1) i 16 0) i 8)), (⟨bn, i * 17 + 9, none⟩, Vi ((up ((itN pass2 i (s, 0)).1) i 16 0) i 9)), (⟨bn, i * 17 + 10, none⟩, Vi ((up ((itN pass2 i (s, 0)).1) i 16 0) i 10)), (⟨bn, i * 17 + 11, none⟩, Vi ((up ((itN pass2 i (s, 0)).1) i 16 0) i 11)), (⟨bn, i * 17 + 12, none⟩, Vi ((up ((itN pass2 i (s, 0)).1) i 16 0) i 12)), (⟨bn, i * 17 + 13, none⟩, Vi ((up ((itN pass2 i (s, 0)).1) i 16 0) i 13)), (⟨bn, i * 17 + 14, none⟩, Vi ((up ((itN pass2 i (s, 0)).1) i 16 0) i 14))] := hC.append ((RCells.cons ((hS.cell (k := i * 17 + 14) (by omega)).trans (congrArg some (NV_int (up ((itN pass2 i (s, 0)).1) i 16 0) i 14 (by decide)))) (RCells.nil _)))
  refine Y.pv F (X.load rfl (F.ev 26 (.pointer (some ⟨bn, i * 17 + 6, none⟩))) (X.ldN (Try.agg102 _) (Try.siz102 _) (Y.atz (⟨bn, i * 17 + 6, none⟩) (Y.AtFrom.cons (hC.at 5 rfl) (Y.AtFrom.cons (hC.at 6 rfl) (Y.AtFrom.cons (hC.at 7 rfl) (Y.AtFrom.cons (hC.at 8 rfl) (Y.AtFrom.cons (hC.at 9 rfl) (Y.AtFrom.cons (hC.at 10 rfl) (Y.AtFrom.cons (hC.at 11 rfl) (Y.AtFrom.cons (hC.at 12 rfl) (Y.AtFrom.cons (hC.at 13 rfl) (Y.AtFrom.nil _ _ _))))))))))))) ?_;clear F ac;intro ac F
  refine Y.pv F (X.move rfl (X.kc (Vi 0) rfl)) ?_;clear F ac;intro ac F
  refine Y.nil ?_
  replace F : Fr ac 58 [(0, Vp bp), (2, Vi ((itN pass2 i (s, 0)).2)), (3, Vi i), (4, .pointer (some ⟨bn, i * 17, none⟩)), (11, Vi n), (12, Vi i), (13, .bool true), (27, .agg #[Vi ((up ((itN pass2 i (s, 0)).1) i 16 0) i 6), Vi ((up ((itN pass2 i (s, 0)).1) i 16 0) i 7), Vi ((up ((itN pass2 i (s, 0)).1) i 16 0) i 8), Vi ((up ((itN pass2 i (s, 0)).1) i 16 0) i 9), Vi ((up ((itN pass2 i (s, 0)).1) i 16 0) i 10), Vi ((up ((itN pass2 i (s, 0)).1) i 16 0) i 11), Vi ((up ((itN pass2 i (s, 0)).1) i 16 0) i 12), Vi ((up ((itN pass2 i (s, 0)).1) i 16 0) i 13), Vi ((up ((itN pass2 i (s, 0)).1) i 16 0) i 14)]), (28, Vi 0)] := F.sub _
  refine X.thenN ?_
  refine Y.block ?_
  have hE_2 := hE
  have hI1_2 := hI1
  have hP_2 := hP
  have hC_2 := hC
  refine Y.loop (fun me_ ac wr => ∃ (k : Nat), me_ = 9 - k ∧ k ≤ 9 ∧ Only (fun b => b = bn) w5 wr ∧ OwnP wr bn (n * 17) (NV (itN (pass1 i) k (up (itN pass2 i (s, 0)).1 i 16 0))) ∧ Fr ac 58 [(0, Vp bp), (2, Vi ((itN pass2 i (s, 0)).2)), (3, Vi i), (4, .pointer (some ⟨bn, i * 17, none⟩)), (11, Vi n), (12, Vi i), (13, .bool true), (27, .agg #[Vi ((up ((itN pass2 i (s, 0)).1) i 16 0) i 6), Vi ((up ((itN pass2 i (s, 0)).1) i 16 0) i 7), Vi ((up ((itN pass2 i (s, 0)).1) i 16 0) i 8), Vi ((up ((itN pass2 i (s, 0)).1) i 16 0) i 9), Vi ((up ((itN pass2 i (s, 0)).1) i 16 0) i 10), Vi ((up ((itN pass2 i (s, 0)).1) i 16 0) i 11), Vi ((up ((itN pass2 i (s, 0)).1) i 16 0) i 12), Vi ((up ((itN pass2 i (s, 0)).1) i 16 0) i 13), Vi ((up ((itN pass2 i (s, 0)).1) i 16 0) i 14)]), (28, Vi k)]) _ ⟨0, rfl, Nat.zero_le _, Only.refl _ _, hS, F.sub _⟩ ?_
  clear F hP hC hS ac hE hI1
  intro me_ ac w6 hI
  obtain ⟨k, rfl, hk9, hI2, hS, F⟩ := hI
  have hP := hP_2.on hI2
  have hE := hE_2.trans hI2
  have hI1 := hI1_2.trans hI2
  have hC := (hC_2.kc hI2 0 rfl (hC_2.kc hI2 1 rfl (hC_2.kc hI2 2 rfl (hC_2.kc hI2 3 rfl (hC_2.kc hI2 4 rfl (RCells.nil _))))))
  replace G := Gr.refl w6
  refine Y.seq ?_
  refine Y.lit (by kernel_rfl) ?_
  refine Y.pv F (X.binop rfl (F.e 28 rfl) (X.kc (Vi 9) rfl) (X.lssI Try.underlying3 rfl)) ?_;clear F ac;intro ac F
  refine Y.nil ?_
  replace F : Fr ac 58 [(0, Vp bp), (2, Vi ((itN pass2 i (s, 0)).2)), (3, Vi i), (4, .pointer (some ⟨bn, i * 17, none⟩)), (11, Vi n), (12, Vi i), (13, .bool true), (27, .agg #[Vi ((up ((itN pass2 i (s, 0)).1) i 16 0) i 6), Vi ((up ((itN pass2 i (s, 0)).1) i 16 0) i 7), Vi ((up ((itN pass2 i (s, 0)).1) i 16 0) i 8), Vi ((up ((itN pass2 i (s, 0)).1) i 16 0) i 9), Vi ((up ((itN pass2 i (s, 0)).1) i 16 0) i 10), Vi ((up ((itN pass2 i (s, 0)).1) i 16 0) i 11), Vi ((up ((itN pass2 i (s, 0)).1) i 16 0) i 12), Vi ((up ((itN pass2 i (s, 0)).1) i 16 0) i 13), Vi ((up ((itN pass2 i (s, 0)).1) i 16 0) i 14)]), (28, Vi k), (29, .bool (decide ((k : Int) < 9)))] := F.sub _
  refine X.thenN ?_
  refine Y.seq ?_
  cases h7 : decide ((k : Int) < 9) with
  | false =>
   try rw [h7] at F
   have h7p : ¬ ((k : Int) < 9) := of_decide_eq_false h7
   obtain rfl : k = 9 := by omega
   refine Y.condF (F.e 29 rfl) ?_
   refine Y.exit ?_
   refine X.thenX ?_
   refine X.thenX ?_
   refine X.blockX ?_
   refine X.thenN ?_
   refine Y.seq ?_
   refine Y.lit (by kernel_rfl) ?_
   refine Y.pv F (X.move rfl (F.ev 4 (.pointer (some ⟨bn, i * 17, none⟩)))) ?_;clear F ac;intro ac F
   refine Y.pv F (Y.nilC rfl (F.ev 48 (.pointer (some ⟨bn, i * 17, none⟩)))) ?_;clear F ac;intro ac F
   refine Y.pv F (X.field rfl (F.ev 49 (.pointer (some ⟨bn, i * 17, none⟩))) (X.fld Try.underlying104 rfl (Try.siz4 _) rfl rfl)) ?_;clear F ac;intro ac F
   replace hC : RCells w6 [(Ad bp 0, Vi gr), (Ad bp 1, Vi hold), (Ad bp 2, .slice na n nc), (Ad bp 3, .slice la m lc), (Ad bp 4, .slice (some ⟨bn, 0, none⟩) n cap), (⟨bn, i * 17 + 16, none⟩, .bool (bz ((itN (pass1 i) 9 (up (itN pass2 i (s, 0)).1 i 16 0)) i 16)))] := hC.append ((RCells.cons ((hS.cell (k := i * 17 + 16) (by omega)).trans (congrArg some (NV_bool (itN (pass1 i) 9 (up (itN pass2 i (s, 0)).1 i 16 0)) i))) (RCells.nil _)))
   refine Y.pv F (X.load rfl (F.ev 50 (.pointer (some ⟨bn, i * 17 + 16, none⟩))) (X.ld1 (Try.agg4 _) (hC.at 5 rfl))) ?_;clear F ac;intro ac F
   refine Y.nil ?_
   replace F : Fr ac 58 [(0, Vp bp), (2, Vi ((itN pass2 i (s, 0)).2)), (3, Vi i), (4, .pointer (some ⟨bn, i * 17, none⟩)), (11, Vi n), (12, Vi i), (13, .bool true), (27, .agg #[Vi ((up ((itN pass2 i (s, 0)).1) i 16 0) i 6), Vi ((up ((itN pass2 i (s, 0)).1) i 16 0) i 7), Vi ((up ((itN pass2 i (s, 0)).1) i 16 0) i 8), Vi ((up ((itN pass2 i (s, 0)).1) i 16 0) i 9), Vi ((up ((itN pass2 i (s, 0)).1) i 16 0) i 10), Vi ((up ((itN pass2 i (s, 0)).1) i 16 0) i 11), Vi ((up ((itN pass2 i (s, 0)).1) i 16 0) i 12), Vi ((up ((itN pass2 i (s, 0)).1) i 16 0) i 13), Vi ((up ((itN pass2 i (s, 0)).1) i 16 0) i 14)]), (28, Vi 9), (29, .bool false), (51, .bool (bz ((itN (pass1 i) 9 (up (itN pass2 i (s, 0)).1 i 16 0)) i 16)))] := F.sub _
   refine X.thenN ?_
   cases h8 : bz ((itN (pass1 i) 9 (up (itN pass2 i (s, 0)).1 i 16 0)) i 16) with
   | false =>
    try rw [h8] at F
    have hrow : (itN pass2 (i + 1) (s, 0)).2 = (itN pass2 i (s, 0)).2 := if_pos (show passN i (itN pass2 i (s, 0)).1 i 16 = 0 from bz_false h8)
    refine Y.condF (F.e 51 rfl) ?_
    refine Y.skip ?_
    refine X.blockN ?_
    refine X.thenN ?_
    refine Y.lit (by kernel_rfl) ?_
    refine Y.pv F (X.binop rfl (F.e 12 rfl) (X.kc (Vi 1) rfl) (X.addI Try.underlying3 rfl (by omega) (by omega))) ?_;clear F ac;intro ac F
    refine Y.pv F (X.move rfl (F.e 56 rfl)) ?_;clear F ac;intro ac F
    refine Y.nil ?_
    replace F : Fr ac 58 [(0, Vp bp), (2, Vi ((itN pass2 i (s, 0)).2)), (3, Vi i), (4, .pointer (some ⟨bn, i * 17, none⟩)), (11, Vi n), (12, Vi ((i : Int) + 1)), (13, .bool true), (27, .agg #[Vi ((up ((itN pass2 i (s, 0)).1) i 16 0) i 6), Vi ((up ((itN pass2 i (s, 0)).1) i 16 0) i 7), Vi ((up ((itN pass2 i (s, 0)).1) i 16 0) i 8), Vi ((up ((itN pass2 i (s, 0)).1) i 16 0) i 9), Vi ((up ((itN pass2 i (s, 0)).1) i 16 0) i 10), Vi ((up ((itN pass2 i (s, 0)).1) i 16 0) i 11), Vi ((up ((itN pass2 i (s, 0)).1) i 16 0) i 12), Vi ((up ((itN pass2 i (s, 0)).1) i 16 0) i 13), Vi ((up ((itN pass2 i (s, 0)).1) i 16 0) i 14)]), (28, Vi 9), (29, .bool false), (51, .bool false)] := F.sub _
    refine X.thenN ?_
    refine ⟨_, ?_, i + 1, rfl, by omega, hI1, hS, (by rw [hrow]; exact F.sub _)⟩
    omega
   | true =>
    try rw [h8] at F
    have hrow : (itN pass2 (i + 1) (s, 0)).2 = orV (itN pass2 i (s, 0)).2 (shlV 1 i) := if_neg (show ¬ passN i (itN pass2 i (s, 0)).1 i 16 = 0 from bz_true h8)
    refine Y.condT (F.e 51 rfl) ?_
    refine Y.lit (by kernel_rfl) ?_
    refine Y.pv F (X.move rfl (F.e 2 rfl)) ?_;clear F ac;intro ac F
    refine Y.pv F (X.move rfl (F.e 3 rfl)) ?_;clear F ac;intro ac F
    refine Y.pv F (X.binop rfl (X.kc (Vi 1) rfl) (F.e 53 rfl) (X.shlI Try.underlying3 rfl (by omega))) ?_;clear F ac;intro ac F
    refine Y.pv F (X.binop rfl (F.e 52 rfl) (F.e 54 rfl) (X.orI Try.underlying3 rfl)) ?_;clear F ac;intro ac F
    refine Y.pv F (X.assign rfl (F.e 55 rfl)) ?_;clear F ac;intro ac F
    refine Y.nil ?_
    replace F : Fr ac 58 [(0, Vp bp), (2, Vi (orV ((itN pass2 i (s, 0)).2 : Int) (shlV 1 (i : Int) : Int))), (3, Vi i), (4, .pointer (some ⟨bn, i * 17, none⟩)), (11, Vi n), (12, Vi i), (13, .bool true), (27, .agg #[Vi ((up ((itN pass2 i (s, 0)).1) i 16 0) i 6), Vi ((up ((itN pass2 i (s, 0)).1) i 16 0) i 7), Vi ((up ((itN pass2 i (s, 0)).1) i 16 0) i 8), Vi ((up ((itN pass2 i (s, 0)).1) i 16 0) i 9), Vi ((up ((itN pass2 i (s, 0)).1) i 16 0) i 10), Vi ((up ((itN pass2 i (s, 0)).1) i 16 0) i 11), Vi ((up ((itN pass2 i (s, 0)).1) i 16 0) i 12), Vi ((up ((itN pass2 i (s, 0)).1) i 16 0) i 13), Vi ((up ((itN pass2 i (s, 0)).1) i 16 0) i 14)]), (28, Vi 9), (29, .bool false), (51, .bool true)] := F.sub _
    refine X.blockN ?_
    refine X.thenN ?_
    refine Y.lit (by kernel_rfl) ?_
    refine Y.pv F (X.binop rfl (F.e 12 rfl) (X.kc (Vi 1) rfl) (X.addI Try.underlying3 rfl (by omega) (by omega))) ?_;clear F ac;intro ac F
    refine Y.pv F (X.move rfl (F.e 56 rfl)) ?_;clear F ac;intro ac F
    refine Y.nil ?_
    replace F : Fr ac 58 [(0, Vp bp), (2, Vi (orV ((itN pass2 i (s, 0)).2 : Int) (shlV 1 (i : Int) : Int))), (3, Vi i), (4, .pointer (some ⟨bn, i * 17, none⟩)), (11, Vi n), (12, Vi ((i : Int) + 1)), (13, .bool true), (27, .agg #[Vi ((up ((itN pass2 i (s, 0)).1) i 16 0) i 6), Vi ((up ((itN pass2 i (s, 0)).1) i 16 0) i 7), Vi ((up ((itN pass2 i (s, 0)).1) i 16 0) i 8), Vi ((up ((itN pass2 i (s, 0)).1) i 16 0) i 9), Vi ((up ((itN pass2 i (s, 0)).1) i 16 0) i 10), Vi ((up ((itN pass2 i (s, 0)).1) i 16 0) i 11), Vi ((up ((itN pass2 i (s, 0)).1) i 16 0) i 12), Vi ((up ((itN pass2 i (s, 0)).1) i 16 0) i 13), Vi ((up ((itN pass2 i (s, 0)).1) i 16 0) i 14)]), (28, Vi 9), (29, .bool false), (51, .bool true)] := F.sub _
    refine X.thenN ?_
    refine ⟨_, ?_, i + 1, rfl, by omega, hI1, hS, (by rw [hrow]; exact F.sub _)⟩
    omega
  | true =>
   try rw [h7] at F
   have h7p : ((k : Int) < 9) := of_decide_eq_true h7
   refine Y.condT (F.e 29 rfl) ?_
   refine Y.skip ?_
   refine X.thenN ?_
   refine Y.seq ?_
   refine Y.block ?_
   refine Y.seq ?_
   refine Y.lit (by kernel_rfl) ?_
   refine Y.pv F (X.move rfl (F.e 28 rfl)) ?_;clear F ac;intro ac F
   refine Y.pv F (Y.inx (vs := [Vi ((up ((itN pass2 i (s, 0)).1) i 16 0) i 6), Vi ((up ((itN pass2 i (s, 0)).1) i 16 0) i 7), Vi ((up ((itN pass2 i (s, 0)).1) i 16 0) i 8), Vi ((up ((itN pass2 i (s, 0)).1) i 16 0) i 9), Vi ((up ((itN pass2 i (s, 0)).1) i 16 0) i 10), Vi ((up ((itN pass2 i (s, 0)).1) i 16 0) i 11), Vi ((up ((itN pass2 i (s, 0)).1) i 16 0) i 12), Vi ((up ((itN pass2 i (s, 0)).1) i 16 0) i 13), Vi ((up ((itN pass2 i (s, 0)).1) i 16 0) i 14)]) (k := k) (v := Vi ((up ((itN pass2 i (s, 0)).1) i 16 0) i (6 + k))) rfl (F.e 27 rfl) (F.e 28 rfl) Try.underlying102 (Try.agg3 _) (Try.siz3 _) (by omega) (by omega) (tm9 ((up ((itN pass2 i (s, 0)).1) i 16 0) i) (by omega))) ?_;clear F ac;intro ac F
   refine Y.pv F (X.assign rfl (F.e 30 rfl)) ?_;clear F ac;intro ac F
   refine Y.pv F (X.assign rfl (F.e 31 rfl)) ?_;clear F ac;intro ac F
   refine Y.nil ?_
   replace F : Fr ac 58 [(0, Vp bp), (2, Vi ((itN pass2 i (s, 0)).2)), (3, Vi i), (4, .pointer (some ⟨bn, i * 17, none⟩)), (5, Vi k), (6, Vi ((up ((itN pass2 i (s, 0)).1) i 16 0) i (6 + k))), (11, Vi n), (12, Vi i), (13, .bool true), (27, .agg #[Vi ((up ((itN pass2 i (s, 0)).1) i 16 0) i 6), Vi ((up ((itN pass2 i (s, 0)).1) i 16 0) i 7), Vi ((up ((itN pass2 i (s, 0)).1) i 16 0) i 8), Vi ((up ((itN pass2 i (s, 0)).1) i 16 0) i 9), Vi ((up ((itN pass2 i (s, 0)).1) i 16 0) i 10), Vi ((up ((itN pass2 i (s, 0)).1) i 16 0) i 11), Vi ((up ((itN pass2 i (s, 0)).1) i 16 0) i 12), Vi ((up ((itN pass2 i (s, 0)).1) i 16 0) i 13), Vi ((up ((itN pass2 i (s, 0)).1) i 16 0) i 14)]), (28, Vi k), (29, .bool true)] := F.sub _
   refine X.thenN ?_
   refine Y.seq ?_
   refine Y.lit (by kernel_rfl) ?_
   refine Y.pv F (X.move rfl (F.e 6 rfl)) ?_;clear F ac;intro ac F
   refine Y.pv F (X.binop rfl (F.e 32 rfl) (X.kc (Vi 0) rfl) (X.gtrI Try.underlying3 rfl)) ?_;clear F ac;intro ac F
   refine Y.nil ?_
   replace F : Fr ac 58 [(0, Vp bp), (2, Vi ((itN pass2 i (s, 0)).2)), (3, Vi i), (4, .pointer (some ⟨bn, i * 17, none⟩)), (5, Vi k), (6, Vi ((up ((itN pass2 i (s, 0)).1) i 16 0) i (6 + k))), (11, Vi n), (12, Vi i), (13, .bool true), (27, .agg #[Vi ((up ((itN pass2 i (s, 0)).1) i 16 0) i 6), Vi ((up ((itN pass2 i (s, 0)).1) i 16 0) i 7), Vi ((up ((itN pass2 i (s, 0)).1) i 16 0) i 8), Vi ((up ((itN pass2 i (s, 0)).1) i 16 0) i 9), Vi ((up ((itN pass2 i (s, 0)).1) i 16 0) i 10), Vi ((up ((itN pass2 i (s, 0)).1) i 16 0) i 11), Vi ((up ((itN pass2 i (s, 0)).1) i 16 0) i 12), Vi ((up ((itN pass2 i (s, 0)).1) i 16 0) i 13), Vi ((up ((itN pass2 i (s, 0)).1) i 16 0) i 14)]), (28, Vi k), (29, .bool true), (33, .bool (decide ((0 : Int) < ((up ((itN pass2 i (s, 0)).1) i 16 0) i (6 + k)))))] := F.sub _
   refine X.thenN ?_
   cases h9 : decide ((0 : Int) < ((up ((itN pass2 i (s, 0)).1) i 16 0) i (6 + k))) with
   | false =>
    try rw [h9] at F
    have h9p : ¬ ((0 : Int) < ((up ((itN pass2 i (s, 0)).1) i 16 0) i (6 + k))) := of_decide_eq_false h9
    refine Y.condF (F.e 33 rfl) ?_
    refine Y.skip ?_
    refine X.blockN ?_
    refine X.thenN ?_
    refine Y.lit (by kernel_rfl) ?_
    refine Y.pv F (X.binop rfl (F.e 28 rfl) (X.kc (Vi 1) rfl) (X.addI Try.underlying3 rfl (by omega) (by omega))) ?_;clear F ac;intro ac F
    refine Y.pv F (X.move rfl (F.e 47 rfl)) ?_;clear F ac;intro ac F
    refine Y.nil ?_
    replace F : Fr ac 58 [(0, Vp bp), (2, Vi ((itN pass2 i (s, 0)).2)), (3, Vi i), (4, .pointer (some ⟨bn, i * 17, none⟩)), (5, Vi k), (6, Vi ((up ((itN pass2 i (s, 0)).1) i 16 0) i (6 + k))), (11, Vi n), (12, Vi i), (13, .bool true), (27, .agg #[Vi ((up ((itN pass2 i (s, 0)).1) i 16 0) i 6), Vi ((up ((itN pass2 i (s, 0)).1) i 16 0) i 7), Vi ((up ((itN pass2 i (s, 0)).1) i 16 0) i 8), Vi ((up ((itN pass2 i (s, 0)).1) i 16 0) i 9), Vi ((up ((itN pass2 i (s, 0)).1) i 16 0) i 10), Vi ((up ((itN pass2 i (s, 0)).1) i 16 0) i 11), Vi ((up ((itN pass2 i (s, 0)).1) i 16 0) i 12), Vi ((up ((itN pass2 i (s, 0)).1) i 16 0) i 13), Vi ((up ((itN pass2 i (s, 0)).1) i 16 0) i 14)]), (28, Vi ((k : Int) + 1)), (29, .bool true), (33, .bool false)] := F.sub _
    refine X.thenN ?_
    refine ⟨_, ?_, k + 1, rfl, by omega, hI2, (by rw [itN_succ, pass1_neg (by rw [pass_keep (by omega) k (Nat.le_refl _) (by omega)]; omega)]; exact hS), F.sub _⟩
    omega
   | true =>
    try rw [h9] at F
    have h9p : ((0 : Int) < ((up ((itN pass2 i (s, 0)).1) i 16 0) i (6 + k))) := of_decide_eq_true h9
    have hv := ((hki.passN hi2 k (by omega)).up (i := i) (j := 16) (v := 1) (by decide) (by omega)).t i hi2 (6 + k) (by omega) (by omega)
    refine Y.condT (F.e 33 rfl) ?_
    refine Y.seq ?_
    refine Y.lit (by kernel_rfl) ?_
    refine Y.pv F (X.move rfl (F.ev 4 (.pointer (some ⟨bn, i * 17, none⟩)))) ?_;clear F ac;intro ac F
    refine Y.pv F (Y.nilC rfl (F.ev 34 (.pointer (some ⟨bn, i * 17, none⟩)))) ?_;clear F ac;intro ac F
    refine Y.pv F (X.field rfl (F.ev 35 (.pointer (some ⟨bn, i * 17, none⟩))) (X.fld Try.underlying104 rfl (Try.siz4 _) rfl rfl)) ?_;clear F ac;intro ac F
    refine Y.punit F (X.w0 rfl) rfl (X.store rfl (F.ev 36 (.pointer (some ⟨bn, i * 17 + 16, none⟩))) (X.kc (.bool true) rfl) (hS.st1 (Try.siz4 _) rfl rfl (by omega))) ?_;clear F ac;intro ac F
    have hon := Y.set_only w6 bn (i * 17 + 16) (.bool true)
    have hS2 := hS.set (k := i * 17 + 16) (.bool true)
    rw [NV_upB] at hS2
    generalize w6.setCell ⟨bn, i * 17 + 16, none⟩ (.bool true) = w10 at *
    replace hP := hP.on hon
    replace hC := (hC.kc hon 0 rfl (hC.kc hon 1 rfl (hC.kc hon 2 rfl (hC.kc hon 3 rfl (hC.kc hon 4 rfl (RCells.nil _))))))
    replace hE := hE.step hon (.inl rfl)
    replace hI1 := hI1.step hon (.inl rfl)
    replace hI2 := hI2.step hon (.inl rfl)
    replace G := Gr.refl w10
    replace hS : OwnP w10 bn (n * 17) (NV (up (itN (pass1 i) k (up (itN pass2 i (s, 0)).1 i 16 0)) i 16 1)) := hS2
    clear hS2 hon
    refine Y.nil ?_
    replace F : Fr ac 58 [(0, Vp bp), (2, Vi ((itN pass2 i (s, 0)).2)), (3, Vi i), (4, .pointer (some ⟨bn, i * 17, none⟩)), (5, Vi k), (6, Vi ((up ((itN pass2 i (s, 0)).1) i 16 0) i (6 + k))), (11, Vi n), (12, Vi i), (13, .bool true), (27, .agg #[Vi ((up ((itN pass2 i (s, 0)).1) i 16 0) i 6), Vi ((up ((itN pass2 i (s, 0)).1) i 16 0) i 7), Vi ((up ((itN pass2 i (s, 0)).1) i 16 0) i 8), Vi ((up ((itN pass2 i (s, 0)).1) i 16 0) i 9), Vi ((up ((itN pass2 i (s, 0)).1) i 16 0) i 10), Vi ((up ((itN pass2 i (s, 0)).1) i 16 0) i 11), Vi ((up ((itN pass2 i (s, 0)).1) i 16 0) i 12), Vi ((up ((itN pass2 i (s, 0)).1) i 16 0) i 13), Vi ((up ((itN pass2 i (s, 0)).1) i 16 0) i 14)]), (28, Vi k), (29, .bool true), (33, .bool true)] := F.sub _
    refine X.thenN ?_
    replace hC : RCells w10 [(Ad bp 0, Vi gr), (Ad bp 1, Vi hold), (Ad bp 2, .slice na n nc), (Ad bp 3, .slice la m lc), (Ad bp 4, .slice (some ⟨bn, 0, none⟩) n cap), (⟨bn, i * 17 + 6 + k, none⟩, Vi ((up (itN (pass1 i) k (up (itN pass2 i (s, 0)).1 i 16 0)) i 16 1) i (6 + k)))] := hC.append ((RCells.cons ((hS.cell (k := i * 17 + 6 + k) (by omega)).trans (congrArg some (NV_tm (up (itN (pass1 i) k (up (itN pass2 i (s, 0)).1 i 16 0)) i 16 1) i k (by omega)))) (RCells.nil _)))
    refine Y.regionS F [some (.pointer (some ⟨bn, i * 17, none⟩)), some (Vi k), some (.pointer (some ⟨bn, i * 17, none⟩)), some (.pointer (some ⟨bn, i * 17 + 6, none⟩)), some (.pointer (some ⟨bn, i * 17 + 6 + k, none⟩)), some (Vi ((up (itN (pass1 i) k (up (itN pass2 i (s, 0)).1 i 16 0)) i 16 1) i (6 + k))), some (Vi (((up (itN (pass1 i) k (up (itN pass2 i (s, 0)).1 i 16 0)) i 16 1) i (6 + k) : Int) - 1)), some (.pointer (some ⟨bn, i * 17, none⟩)), some (.pointer (some ⟨bn, i * 17 + 6, none⟩)), some (.pointer (some ⟨bn, i * 17 + 6 + k, none⟩)), none] [] 10 (fun _ W => Only (fun x => x = bn) w10 W ∧ OwnP W bn (n * 17) (NV (up (up (itN (pass1 i) k (up (itN pass2 i (s, 0)).1 i 16 0)) i 16 1) i (6 + k) (((up (itN (pass1 i) k (up (itN pass2 i (s, 0)).1 i 16 0)) i 16 1) i (6 + k) : Int) - 1)))) rfl ⟨by kernel_rfl, of_decide_eq_true (by kernel_rfl), by kernel_rfl, by kernel_rfl, by kernel_rfl⟩ (of_decide_eq_true (by kernel_rfl)) ⟨?_, ?_, ?_, ?_, ?_, ?_, ?_, ?_, ?_, ?_, ?_, trivial⟩ ?_
    ·intro ac done u W Sx hT
     have hs := Sx.no 10 (by kernel_rfl)
     have hR := hT.1 hs
     exact X.vl (X.move rfl (Sx.ev 4 (.pointer (some ⟨bn, i * 17, none⟩)))) (Y.RT.of hs rfl hR.st0)
    ·intro ac done u W Sx hT
     have hs := Sx.no 10 (by kernel_rfl)
     have hR := hT.1 hs
     exact X.vl (X.move rfl (Sx.ev 5 (Vi k))) (Y.RT.of hs rfl hR.st0)
    ·intro ac done u W Sx hT
     have hs := Sx.no 10 (by kernel_rfl)
     have hR := hT.1 hs
     exact X.vl (Y.nilC rfl (Sx.ev 37 (.pointer (some ⟨bn, i * 17, none⟩)))) (Y.RT.of hs rfl hR.st0)
    ·intro ac done u W Sx hT
     have hs := Sx.no 10 (by kernel_rfl)
     have hR := hT.1 hs
     exact X.vl (X.field rfl (Sx.ev 39 (.pointer (some ⟨bn, i * 17, none⟩))) (X.fld Try.underlying104 rfl (Try.siz102 _) rfl rfl)) (Y.RT.of hs rfl hR.st0)
    ·intro ac done u W Sx hT
     have hs := Sx.no 10 (by kernel_rfl)
     have hR := hT.1 hs
     exact X.val (X.w0 rfl) rfl (X.index rfl (Sx.ev 40 (.pointer (some ⟨bn, i * 17 + 6, none⟩))) (Sx.ev 38 (Vi k)) (Y.idxA (k := k) Try.underlying102 (Try.siz3 _) (by decide) (by omega) (by omega) (by rw [Nat.mul_one]; exact Y.addr_add _ _ _))) (Y.RT.of hs rfl hR.st0)
    ·intro ac done u W Sx hT
     have hs := Sx.no 10 (by kernel_rfl)
     have hR := hT.1 hs
     have g : Gr w10 W := hR.1
     exact X.vl (X.load rfl (Sx.ev 41 (.pointer (some ⟨bn, i * 17 + 6 + k, none⟩))) (X.ld1 (Try.agg3 _) ((hC.gr g).at 5 rfl))) (Y.RT.of hs rfl hR.st0)
    ·intro ac done u W Sx hT
     have hs := Sx.no 10 (by kernel_rfl)
     have hR := hT.1 hs
     exact X.vl (X.binop rfl (Sx.ev 42 (Vi ((up (itN (pass1 i) k (up (itN pass2 i (s, 0)).1 i 16 0)) i 16 1) i (6 + k)))) (X.kc (Vi 1) rfl) (X.subI Try.underlying3 rfl (by omega) (by omega))) (Y.RT.of hs rfl hR.st0)
    ·intro ac done u W Sx hT
     have hs := Sx.no 10 (by kernel_rfl)
     have hR := hT.1 hs
     exact X.vl (Y.nilC rfl (Sx.ev 37 (.pointer (some ⟨bn, i * 17, none⟩)))) (Y.RT.of hs rfl hR.st0)
    ·intro ac done u W Sx hT
     have hs := Sx.no 10 (by kernel_rfl)
     have hR := hT.1 hs
     exact X.vl (X.field rfl (Sx.ev 44 (.pointer (some ⟨bn, i * 17, none⟩))) (X.fld Try.underlying104 rfl (Try.siz102 _) rfl rfl)) (Y.RT.of hs rfl hR.st0)
    ·intro ac done u W Sx hT
     have hs := Sx.no 10 (by kernel_rfl)
     have hR := hT.1 hs
     exact X.val (X.w0 rfl) rfl (X.index rfl (Sx.ev 45 (.pointer (some ⟨bn, i * 17 + 6, none⟩))) (Sx.ev 38 (Vi k)) (Y.idxA (k := k) Try.underlying102 (Try.siz3 _) (by decide) (by omega) (by omega) (by rw [Nat.mul_one]; exact Y.addr_add _ _ _))) (Y.RT.of hs rfl hR.st0)
    ·intro ac done u W Sx hT
     have hR := hT.1 Sx.nd
     have g : Gr w10 W := hR.1
     have hS2 := (hS.gr g).set (k := i * 17 + 6 + k) (Vi (((up (itN (pass1 i) k (up (itN pass2 i (s, 0)).1 i 16 0)) i 16 1) i (6 + k) : Int) - 1))
     rw [NV_upt _ _ _ (by omega)] at hS2
     exact X.unit (X.w0 rfl) rfl (X.store rfl (Sx.ev 46 (.pointer (some ⟨bn, i * 17 + 6 + k, none⟩))) (Sx.ev 43 (Vi (((up (itN (pass1 i) k (up (itN pass2 i (s, 0)).1 i 16 0)) i 16 1) i (6 + k) : Int) - 1))) ((hS.gr g).st1 (Try.siz3 _) rfl rfl (by omega))) (Y.RT.fin ⟨(g.only _).trans (Y.set_only _ _ _ _), hS2⟩)
    rintro ac u w11 hs hd hl_ ho ⟨hon, hS2⟩
    replace F : Fr ac 58 [(0, Vp bp), (2, Vi ((itN pass2 i (s, 0)).2)), (3, Vi i), (4, .pointer (some ⟨bn, i * 17, none⟩)), (5, Vi k), (6, Vi ((up ((itN pass2 i (s, 0)).1) i 16 0) i (6 + k))), (11, Vi n), (12, Vi i), (13, .bool true), (27, .agg #[Vi ((up ((itN pass2 i (s, 0)).1) i 16 0) i 6), Vi ((up ((itN pass2 i (s, 0)).1) i 16 0) i 7), Vi ((up ((itN pass2 i (s, 0)).1) i 16 0) i 8), Vi ((up ((itN pass2 i (s, 0)).1) i 16 0) i 9), Vi ((up ((itN pass2 i (s, 0)).1) i 16 0) i 10), Vi ((up ((itN pass2 i (s, 0)).1) i 16 0) i 11), Vi ((up ((itN pass2 i (s, 0)).1) i 16 0) i 12), Vi ((up ((itN pass2 i (s, 0)).1) i 16 0) i 13), Vi ((up ((itN pass2 i (s, 0)).1) i 16 0) i 14)]), (28, Vi k), (29, .bool true), (33, .bool true)] := X.fr hs hd hl_ _ (by kernel_rfl)
    clear hs hd hl_ ho
    replace hP := hP.on hon
    replace hC := (hC.kc hon 0 rfl (hC.kc hon 1 rfl (hC.kc hon 2 rfl (hC.kc hon 3 rfl (hC.kc hon 4 rfl (RCells.nil _))))))
    replace hE := hE.step hon (.inl rfl)
    replace hI1 := hI1.step hon (.inl rfl)
    replace hI2 := hI2.step hon (.inl rfl)
    replace G := Gr.refl w11
    replace hS : OwnP w11 bn (n * 17) (NV (up (up (itN (pass1 i) k (up (itN pass2 i (s, 0)).1 i 16 0)) i 16 1) i (6 + k) (((up (itN (pass1 i) k (up (itN pass2 i (s, 0)).1 i 16 0)) i 16 1) i (6 + k) : Int) - 1))) := hS2
    clear hS2 hon
    rw [show ∀ v : PS, (up v i 16 1) i (6 + k) = v i (6 + k) from fun v => up_ne _ _ (.inr (by omega))] at hS
    refine X.blockN ?_
    refine X.thenN ?_
    refine Y.lit (by kernel_rfl) ?_
    refine Y.pv F (X.binop rfl (F.e 28 rfl) (X.kc (Vi 1) rfl) (X.addI Try.underlying3 rfl (by omega) (by omega))) ?_;clear F ac;intro ac F
    refine Y.pv F (X.move rfl (F.e 47 rfl)) ?_;clear F ac;intro ac F
    refine Y.nil ?_
    replace F : Fr ac 58 [(0, Vp bp), (2, Vi ((itN pass2 i (s, 0)).2)), (3, Vi i), (4, .pointer (some ⟨bn, i * 17, none⟩)), (5, Vi k), (6, Vi ((up ((itN pass2 i (s, 0)).1) i 16 0) i (6 + k))), (11, Vi n), (12, Vi i), (13, .bool true), (27, .agg #[Vi ((up ((itN pass2 i (s, 0)).1) i 16 0) i 6), Vi ((up ((itN pass2 i (s, 0)).1) i 16 0) i 7), Vi ((up ((itN pass2 i (s, 0)).1) i 16 0) i 8), Vi ((up ((itN pass2 i (s, 0)).1) i 16 0) i 9), Vi ((up ((itN pass2 i (s, 0)).1) i 16 0) i 10), Vi ((up ((itN pass2 i (s, 0)).1) i 16 0) i 11), Vi ((up ((itN pass2 i (s, 0)).1) i 16 0) i 12), Vi ((up ((itN pass2 i (s, 0)).1) i 16 0) i 13), Vi ((up ((itN pass2 i (s, 0)).1) i 16 0) i 14)]), (28, Vi ((k : Int) + 1)), (29, .bool true), (33, .bool true)] := F.sub _
    refine X.thenN ?_
    refine ⟨_, ?_, k + 1, rfl, by omega, hI2, (by rw [itN_succ, pass1_pos (by rw [pass_keep (by omega) k (Nat.le_refl _) (by omega)]; omega)]; exact hS), F.sub _⟩
    omega
end
section
open Go.RowKit

set_option maxRecDepth 100000 in
set_option maxHeartbeats 1000000 in
theorem run_any (wB w : World) (bp bn : Nat) (gr hold : Int) (na la pa : Option Addr) (n nc m lc cap : Nat) (l : List (List Int)) (s : PS) (t : Nat) (hP : PlE wB w bp bn gr hold na la pa n nc m lc cap l) (hS : OwnP w bn (n * 17) (NV s)) (h16 : n ≤ 16) (hn : ∃ nd : List (List Int), ∃ tt : Int, nd.length = n ∧ gr ≤ 8 ∧ ∀ x ∈ l, NuOk gr nd tt x) (hok0 : SOk n s) (h1 : 1 ≤ hold) (h100 : hold ≤ 100) (hg0 : 0 ≤ gr) (ht : t ≤ 1000) :
  Calls Try.prog 45 #[Vp bp, Vi t] w fun e w' => ∃ v1 v2, e = .returned (.tuple #[v1, v2]) ∧ Only (fun b => b = bn) w w' ∧ OwnP w' bn (n * 17) (NV (runFrom hold gr.toNat n l s t).s) ∧ OwnR w' w.heap.size 3 1 v1 t ((runFrom hold gr.toNat n l s t).asked.map (Value.int .i64)) ∧ OwnR w' w.heap.size 3 1 v2 t ((runFrom hold gr.toNat n l s t).rows.map (Value.int .i64)) := by
 have G := Gr.refl w
 have hE := Only.refl (fun b => b = bn) w
 have hC := hP.p
 have hpb := hP.pb
 have hnb := hP.nb
 have hgb := hP.g.size
 have hpe := hP.ne
 have hplt := hP.lt
 have hnlt := hS.lt
 obtain ⟨nd, tt, hndl, hg8, hnu⟩ := id hn
 have hlt : ∀ x ∈ l, (nv x 2).toNat < n := fun x hx => by have := (hnu x hx).n0; have := (hnu x hx).n1; omega
 refine Y.calls 31 Try.func45 rfl rfl ?_
 intro ac F0
 have F : Fr ac 31 [(0, Vp bp), (1, Vi t)] := F0.sub _
 clear F0
 refine Y.seq ?_
 refine Y.lit (by kernel_rfl) ?_
 refine Y.pv F (X.assign rfl (X.kc (.slice none 0 0) rfl)) ?_;clear F ac;intro ac F
 refine Y.pv F (X.assign rfl (X.kc (.slice none 0 0) rfl)) ?_;clear F ac;intro ac F
 refine Y.nil ?_
 replace F : Fr ac 31 [(0, Vp bp), (1, Vi t), (4, .slice none 0 0), (5, .slice none 0 0)] := F.sub _
 refine X.thenN ?_
 refine Y.seq ?_
 refine Y.seq ?_
 refine Y.lit (by kernel_rfl) ?_
 refine Y.pv F (X.move rfl (F.e 1 rfl)) ?_;clear F ac;intro ac F
 refine Y.pv F (X.move rfl (X.kc (Vi 0) rfl)) ?_;clear F ac;intro ac F
 refine Y.nil ?_
 replace F : Fr ac 31 [(0, Vp bp), (4, .slice none 0 0), (5, .slice none 0 0), (7, Vi t), (8, Vi 0)] := F.sub _
 refine X.thenN ?_
 refine Y.block ?_
 refine Y.loop (fun me_ ac wr => ∃ (i : Nat) (v1 v2 : Value), me_ = t - i ∧ i ≤ t ∧ Only (fun b => b = bn) w wr ∧ OwnP wr bn (n * 17) (NV (runFrom hold gr.toNat n l s i).s) ∧ OwnR wr w.heap.size 3 1 v1 i ((runFrom hold gr.toNat n l s i).asked.map (Value.int .i64)) ∧ OwnR wr w.heap.size 3 1 v2 i ((runFrom hold gr.toNat n l s i).rows.map (Value.int .i64)) ∧ (∀ b, v1.ownBlock = some b → ¬ v2.ownBlock = some b) ∧ Fr ac 31 [(0, Vp bp), (4, v1), (5, v2), (7, Vi t), (8, Vi i)]) _ ⟨0, _, _, rfl, Nat.zero_le _, Only.refl _ _, hS, OwnR.nil _ _ _ _, OwnR.nil _ _ _ _, (fun b e => by simp [Value.ownBlock] at e), F.sub _⟩ ?_
 have hP0 := hP
 clear F hE hC hS G ac hP
 intro me_ ac w3 hI
 obtain ⟨i, v1, v2, rfl, hi, hE, hS, hO1, hO2, hdis, F⟩ := hI
 have hP := hP0.on hE
 have hC := hP.p
 have G := Gr.refl w3
 have hok := (hok0.run (gr := gr.toNat) h1 h100 hlt i)
 have hlen := runFrom_len (n := n) (gr := gr.toNat) (s := s) (hold := hold) (l := l) i
 refine Y.seq ?_
 refine Y.lit (by kernel_rfl) ?_
 refine Y.pv F (X.binop rfl (F.e 8 rfl) (F.e 7 rfl) (X.lssI Try.underlying3 rfl)) ?_;clear F ac;intro ac F
 refine Y.nil ?_
 replace F : Fr ac 31 [(0, Vp bp), (4, v1), (5, v2), (7, Vi t), (8, Vi i), (9, .bool (decide ((i : Int) < t)))] := F.sub _
 refine X.thenN ?_
 refine Y.seq ?_
 cases h4 : decide ((i : Int) < t) with
 | false =>
  try rw [h4] at F
  have h4p : ¬ ((i : Int) < t) := of_decide_eq_false h4
  obtain rfl : t = i := by omega
  refine Y.condF (F.e 9 rfl) ?_
  refine Y.exit ?_
  refine X.thenX ?_
  refine X.thenX ?_
  refine X.blockX ?_
  refine X.thenN ?_
  refine Y.seq ?_
  refine Y.lit (by kernel_rfl) ?_
  refine Y.pv F (X.move rfl (F.e 4 rfl)) ?_;clear F ac;intro ac F
  refine Y.pv F (X.move rfl (F.e 5 rfl)) ?_;clear F ac;intro ac F
  refine Y.pv F (X.assign rfl (F.e 29 rfl)) ?_;clear F ac;intro ac F
  refine Y.pv F (X.assign rfl (F.e 30 rfl)) ?_;clear F ac;intro ac F
  refine Y.nil ?_
  replace F : Fr ac 31 [(4, v1), (5, v2)] := F.sub _
  refine X.thenN ?_
  refine Y.ret ?_
  exact Y.ret0 (v := .tuple #[v1, v2]) F (Y.rs2 F rfl (by kernel_rfl) (by kernel_rfl)) ⟨_, _, rfl, hE, hS, hO1, hO2⟩
 | true =>
  try rw [h4] at F
  have h4p : ((i : Int) < t) := of_decide_eq_true h4
  refine Y.condT (F.e 9 rfl) ?_
  refine Y.skip ?_
  refine X.thenN ?_
  refine Y.seq ?_
  refine Y.block ?_
  refine Y.seq ?_
  refine Y.lit (by kernel_rfl) ?_
  refine Y.pv F (X.move rfl (F.e 8 rfl)) ?_;clear F ac;intro ac F
  refine Y.pv F (X.assign rfl (F.e 10 rfl)) ?_;clear F ac;intro ac F
  refine Y.nil ?_
  replace F : Fr ac 31 [(0, Vp bp), (4, v1), (5, v2), (6, Vi i), (7, Vi t), (8, Vi i)] := F.sub _
  refine X.thenN ?_
  refine Y.seq ?_
  refine Y.lit (by kernel_rfl) ?_
  refine Y.pv F (X.move rfl (F.e 4 rfl)) ?_;clear F ac;intro ac F
  refine Y.pv F (X.move rfl (F.e 0 rfl)) ?_;clear F ac;intro ac F
  refine Y.pv F (X.move rfl (F.e 6 rfl)) ?_;clear F ac;intro ac F
  refine Y.pcall F (X.w0 rfl) rfl (X.enter (F := 70) rfl (X.kc (.func (.func 70) #[] #[]) rfl) (X.a2 (F.e 12 rfl) (F.e 13 rfl)) (enters_of Try.func70 (by kernel_rfl) rfl _)) (ask_any wB w3 bp bn gr hold na la pa n nc m lc cap l ((runFrom hold gr.toNat n l s i).s) i hP hS h16 hn) ?_
  clear F ac
  rintro e w5 ⟨rfl, hon, hS2⟩
  refine ⟨_, rfl, ?_⟩
  intro ac F
  replace hP := hP.on hon
  replace hE := hE.step hon (.inl rfl)
  replace hO1 := hO1.only hon (fun b e h => by have := (hO1.ge e).1; omega)
  replace hO2 := hO2.only hon (fun b e h => by have := (hO2.ge e).1; omega)
  replace hC := hP.p
  replace G := Gr.refl w5
  replace hS := hS2
  clear hS2 hon
  refine Y.pv F (X.bs rfl (X.b1 (F.e 14 rfl)) (Try.bs34_1 (asksG n (askS l i ((runFrom hold gr.toNat n l s i).s))) _)) ?_;clear F ac;intro ac F
  have g := Gr.alloc w5 (.cells #[Vi (asksG n (askS l i ((runFrom hold gr.toNat n l s i).s)))] 3)
  have hb := heap_alloc_new w5 (.cells #[Vi (asksG n (askS l i ((runFrom hold gr.toNat n l s i).s)))] 3)
  have hbl : w5.heap.size < (w5.alloc (.cells #[Vi (asksG n (askS l i ((runFrom hold gr.toNat n l s i).s)))] 3)).heap.size := by simp
  generalize w5.alloc (.cells #[Vi (asksG n (askS l i ((runFrom hold gr.toNat n l s i).s)))] 3) = w6 at *
  replace G := G.trans g
  replace hC := hC.gr g
  replace hE := hE.thenGr g
  replace hP := hP.gr g
  replace hS := hS.gr g
  replace hO1 := hO1.gr g
  replace hO2 := hO2.gr g
  have hbk := hb
  clear g hb hbl
  refine Y.wpL_plain rfl fun _ hK => wp_pushV Try.underlying34 Try.info3 rfl (by decide) rfl (F.e 11 rfl) (F.e 15 rfl) hO1 (m := 1) (news := [Vi (asksG n (askS l i ((runFrom hold gr.toNat n l s i).s)))]) rfl (cells_at (vs := [Vi (asksG n (askS l i ((runFrom hold gr.toNat n l s i).s)))]) hbk) rfl (by omega) (by decide) hE.size (fun v' w7 hO' hon hat => hK _ _ ?_)
  refine Y.pput F rfl ?_
  clear F ac hbk
  intro ac F
  have hge := fun b e => hO1.ge (b := b) e
  replace hP := hP.only hon (fun i e => by have := (hge i e).1; exact ⟨by omega, by omega⟩)
  replace hE := hE.step2 hon (fun r e => .inr (hge r e).1)
  replace hS := hS.only hon (fun e => by have := (hge _ e).1; omega)
  have hlt_ := fun b e => (hO2.ge (b := b) e).2
  replace hO2 := hO2.only hon (fun b e h => hdis b h e)
  replace hC := hP.p
  replace G := Gr.refl w7

  replace hdis : ∀ b, v'.ownBlock = some b → ¬ v2.ownBlock = some b := fun b e h => by
   rcases hat with hat | hat
   ·rw [hat] at e; exact hdis b e h
   ·rw [hat] at e; injection e with e; have := hlt_ b h; omega
  clear hat hge hlt_ hon
  replace hO1 := hO'
  clear hO'
  obtain ⟨v1', hv1⟩ : ∃ x, x = v' := ⟨_, rfl⟩
  subst hv1
  refine Y.pv F (X.assign rfl (F.e 16 rfl)) ?_;clear F ac;intro ac F
  refine Y.nil ?_
  replace F : Fr ac 31 [(0, Vp bp), (4, v1'), (5, v2), (6, Vi i), (7, Vi t), (8, Vi i)] := F.sub _
  refine X.thenN ?_
  refine Y.seq ?_
  refine Y.lit (by kernel_rfl) ?_
  refine Y.pv F (X.move rfl (F.e 0 rfl)) ?_;clear F ac;intro ac F
  refine Y.pv F (X.move rfl (F.e 6 rfl)) ?_;clear F ac;intro ac F
  refine Y.pcall F (X.w0 rfl) rfl (X.enter (F := 71) rfl (X.kc (.func (.func 71) #[] #[]) rfl) (X.a2 (F.e 17 rfl) (F.e 18 rfl)) (enters_of Try.func71 (by kernel_rfl) rfl _)) (disturb_any wB w7 bp bn gr hold na la pa n nc m lc cap l (askS l i ((runFrom hold gr.toNat n l s i).s)) i hP hS h16 hn (hok.askS l i) h1 h100 ⟨by omega, by omega⟩) ?_
  clear F ac
  rintro e w8 ⟨rfl, hon, hS2⟩
  refine ⟨_, rfl, ?_⟩
  intro ac F
  replace hP := hP.on hon
  replace hE := hE.step hon (.inl rfl)
  replace hO1 := hO1.only hon (fun b e h => by have := (hO1.ge e).1; omega)
  replace hO2 := hO2.only hon (fun b e h => by have := (hO2.ge e).1; omega)
  replace hC := hP.p
  replace G := Gr.refl w8
  replace hS := hS2
  clear hS2 hon
  refine Y.nil ?_
  replace F : Fr ac 31 [(0, Vp bp), (4, v1'), (5, v2), (6, Vi i), (7, Vi t), (8, Vi i)] := F.sub _
  refine X.thenN ?_
  refine Y.seq ?_
  refine Y.lit (by kernel_rfl) ?_
  refine Y.pv F (X.move rfl (F.e 0 rfl)) ?_;clear F ac;intro ac F
  refine Y.pv F (X.move rfl (F.e 6 rfl)) ?_;clear F ac;intro ac F
  refine Y.pcall F (X.w0 rfl) rfl (X.enter (F := 72) rfl (X.kc (.func (.func 72) #[] #[]) rfl) (X.a2 (F.e 20 rfl) (F.e 21 rfl)) (enters_of Try.func72 (by kernel_rfl) rfl _)) (send_any wB w8 bp bn gr hold na la pa n nc m lc cap l (disturbS hold l n i (askS l i ((runFrom hold gr.toNat n l s i).s))) i hP hS h16 hn hg0) ?_
  clear F ac
  rintro e w9 ⟨rfl, hon, hS2⟩
  refine ⟨_, rfl, ?_⟩
  intro ac F
  replace hP := hP.on hon
  replace hE := hE.step hon (.inl rfl)
  replace hO1 := hO1.only hon (fun b e h => by have := (hO1.ge e).1; omega)
  replace hO2 := hO2.only hon (fun b e h => by have := (hO2.ge e).1; omega)
  replace hC := hP.p
  replace G := Gr.refl w9
  replace hS := hS2
  clear hS2 hon
  refine Y.nil ?_
  replace F : Fr ac 31 [(0, Vp bp), (4, v1'), (5, v2), (7, Vi t), (8, Vi i)] := F.sub _
  refine X.thenN ?_
  refine Y.lit (by kernel_rfl) ?_
  refine Y.pv F (X.move rfl (F.e 5 rfl)) ?_;clear F ac;intro ac F
  refine Y.pv F (X.move rfl (F.e 0 rfl)) ?_;clear F ac;intro ac F
  refine Y.pcall F (X.w0 rfl) rfl (X.enter (F := 73) rfl (X.kc (.func (.func 73) #[] #[]) rfl) (X.a1 (F.e 24 rfl)) (enters_of Try.func73 (by kernel_rfl) rfl _)) (pass_any wB w9 bp bn gr hold na la pa n nc m lc cap l (sendS hold gr.toNat n (lostF l i) (disturbS hold l n i (askS l i ((runFrom hold gr.toNat n l s i).s)))) hP hS h16 (((hok.askS l i).disturb h1 h100 hlt i).send h1 h100)) ?_
  clear F ac
  rintro e w10 ⟨rfl, hon, hS2⟩
  refine ⟨_, rfl, ?_⟩
  intro ac F
  replace hP := hP.on hon
  replace hE := hE.step hon (.inl rfl)
  replace hO1 := hO1.only hon (fun b e h => by have := (hO1.ge e).1; omega)
  replace hO2 := hO2.only hon (fun b e h => by have := (hO2.ge e).1; omega)
  replace hC := hP.p
  replace G := Gr.refl w10
  replace hS := hS2
  clear hS2 hon
  refine Y.pv F (X.bs rfl (X.b1 (F.e 25 rfl)) (Try.bs34_1 ((passS n (sendS hold gr.toNat n (lostF l i) (disturbS hold l n i (askS l i ((runFrom hold gr.toNat n l s i).s))))).2) _)) ?_;clear F ac;intro ac F
  have g := Gr.alloc w10 (.cells #[Vi ((passS n (sendS hold gr.toNat n (lostF l i) (disturbS hold l n i (askS l i ((runFrom hold gr.toNat n l s i).s))))).2)] 3)
  have hb := heap_alloc_new w10 (.cells #[Vi ((passS n (sendS hold gr.toNat n (lostF l i) (disturbS hold l n i (askS l i ((runFrom hold gr.toNat n l s i).s))))).2)] 3)
  have hbl : w10.heap.size < (w10.alloc (.cells #[Vi ((passS n (sendS hold gr.toNat n (lostF l i) (disturbS hold l n i (askS l i ((runFrom hold gr.toNat n l s i).s))))).2)] 3)).heap.size := by simp
  generalize w10.alloc (.cells #[Vi ((passS n (sendS hold gr.toNat n (lostF l i) (disturbS hold l n i (askS l i ((runFrom hold gr.toNat n l s i).s))))).2)] 3) = w11 at *
  replace G := G.trans g
  replace hC := hC.gr g
  replace hE := hE.thenGr g
  replace hP := hP.gr g
  replace hS := hS.gr g
  replace hO1 := hO1.gr g
  replace hO2 := hO2.gr g
  have hbk := hb
  clear g hb hbl
  refine Y.wpL_plain rfl fun _ hK => wp_pushV Try.underlying34 Try.info3 rfl (by decide) rfl (F.e 23 rfl) (F.e 26 rfl) hO2 (m := 1) (news := [Vi ((passS n (sendS hold gr.toNat n (lostF l i) (disturbS hold l n i (askS l i ((runFrom hold gr.toNat n l s i).s))))).2)]) rfl (cells_at (vs := [Vi ((passS n (sendS hold gr.toNat n (lostF l i) (disturbS hold l n i (askS l i ((runFrom hold gr.toNat n l s i).s))))).2)]) hbk) rfl (by omega) (by decide) hE.size (fun v' w12 hO' hon hat => hK _ _ ?_)
  refine Y.pput F rfl ?_
  clear F ac hbk
  intro ac F
  have hge := fun b e => hO2.ge (b := b) e
  replace hP := hP.only hon (fun i e => by have := (hge i e).1; exact ⟨by omega, by omega⟩)
  replace hE := hE.step2 hon (fun r e => .inr (hge r e).1)
  replace hS := hS.only hon (fun e => by have := (hge _ e).1; omega)
  have hlt_ := fun b e => (hO1.ge (b := b) e).2
  replace hO1 := hO1.only hon (fun b e h => hdis b e h)
  replace hC := hP.p
  replace G := Gr.refl w12

  replace hdis : ∀ b, v1'.ownBlock = some b → ¬ v'.ownBlock = some b := fun b e h => by
   rcases hat with hat | hat
   ·rw [hat] at h; exact hdis b e h
   ·rw [hat] at h; injection h with h; have := hlt_ b e; omega
  clear hat hge hlt_ hon
  replace hO2 := hO'
  clear hO'
  obtain ⟨v2', hv2⟩ : ∃ x, x = v' := ⟨_, rfl⟩
  subst hv2
  refine Y.pv F (X.assign rfl (F.e 27 rfl)) ?_;clear F ac;intro ac F
  refine Y.nil ?_
  replace F : Fr ac 31 [(0, Vp bp), (4, v1'), (5, v2'), (7, Vi t), (8, Vi i)] := F.sub _
  refine X.blockN ?_
  refine X.thenN ?_
  refine Y.lit (by kernel_rfl) ?_
  refine Y.pv F (X.binop rfl (F.e 8 rfl) (X.kc (Vi 1) rfl) (X.addI Try.underlying3 rfl (by omega) (by omega))) ?_;clear F ac;intro ac F
  refine Y.pv F (X.move rfl (F.e 28 rfl)) ?_;clear F ac;intro ac F
  refine Y.nil ?_
  replace F : Fr ac 31 [(0, Vp bp), (4, v1'), (5, v2'), (7, Vi t), (8, Vi ((i : Int) + 1))] := F.sub _
  refine X.thenN ?_
  refine ⟨_, ?_, i + 1, v1', v2', rfl, by omega, hE, hS, (by show OwnR _ _ _ _ _ (i + 1) (List.map _ ((runFrom hold gr.toNat n l s i).asked ++ [_])); rw [List.map_append]; exact hO1), (by show OwnR _ _ _ _ _ (i + 1) (List.map _ ((runFrom hold gr.toNat n l s i).rows ++ [_])); rw [List.map_append]; exact hO2), hdis, F.sub _⟩
  omega
end
section
set_option linter.unusedVariables false
open Go.RowKit

def QV (f : Nat → Nat) (K : Nat) (s : PS) : Nat → Value := fun k =>
  if k % 5 = 0 then .int .i64 (s (k / 5) 5) else if k % 5 = 1 then .slice (some ⟨f (k / 5), 0, none⟩) K K
  else if k % 5 = 2 then .int .i64 (s (k / 5) 14) else if k % 5 = 3 then .int .i64 (s (k / 5) 15) else .bool (s (k / 5) 16 != 0)
theorem QV_0 (f : Nat → Nat) (K : Nat) (s : PS) (i : Nat) : QV f K s (i * 5 + 0) = .int .i64 (s i 5) := by
  unfold QV; rw [show (i * 5 + 0) % 5 = 0 by omega, show (i * 5 + 0) / 5 = i by omega]; rfl
theorem QV_1 (f : Nat → Nat) (K : Nat) (s : PS) (i : Nat) : QV f K s (i * 5 + 1) = .slice (some ⟨f i, 0, none⟩) K K := by
  unfold QV; rw [show (i * 5 + 1) % 5 = 1 by omega, show (i * 5 + 1) / 5 = i by omega]; rfl
theorem QV_2 (f : Nat → Nat) (K : Nat) (s : PS) (i : Nat) : QV f K s (i * 5 + 2) = .int .i64 (s i 14) := by
  unfold QV; rw [show (i * 5 + 2) % 5 = 2 by omega, show (i * 5 + 2) / 5 = i by omega]; rfl
theorem QV_3 (f : Nat → Nat) (K : Nat) (s : PS) (i : Nat) : QV f K s (i * 5 + 3) = .int .i64 (s i 15) := by
  unfold QV; rw [show (i * 5 + 3) % 5 = 3 by omega, show (i * 5 + 3) / 5 = i by omega]; rfl
theorem QV_4 (f : Nat → Nat) (K : Nat) (s : PS) (i : Nat) : QV f K s (i * 5 + 4) = .bool (s i 16 != 0) := by
  unfold QV; rw [show (i * 5 + 4) % 5 = 4 by omega, show (i * 5 + 4) / 5 = i by omega]; rfl
theorem upS {S : Nat → Prop} {wb W W' : World} (g : Gr wb W) (h : Only S W W') (hb : ∀ b, S b → wb.heap.size ≤ b) : Gr wb W' :=
  ((g.only (fun x => wb.heap.size ≤ x)).trans (h.mono' (fun i e => hb i e))).gr (fun i hi e => by omega)
/-- which cell of a node a number of the play is -/
def qc (c j : Nat) : Prop := (c = 0 ∧ j = 5) ∨ (c = 2 ∧ j = 14) ∨ (c = 3 ∧ j = 15)
theorem QV_up {f : Nat → Nat} {K : Nat} {s : PS} {i c j : Nat} (h : qc c j) (v : Int) : (fun k => if k = i * 5 + c then .int .i64 v else QV f K s k) = QV f K (up s i j v) := by
  funext k
  by_cases e : k = i * 5 + c
  · subst e
    rw [if_pos rfl]
    rcases h with ⟨rfl, rfl⟩ | ⟨rfl, rfl⟩ | ⟨rfl, rfl⟩
    · rw [QV_0, up_same]
    · rw [QV_2, up_same]
    · rw [QV_3, up_same]
  · rw [if_neg e]
    unfold QV qc at *
    split
    · rw [up_ne _ _ (by omega)]
    · split
      · rfl
      · split
        · rw [up_ne _ _ (by omega)]
        · split
          · rw [up_ne _ _ (by omega)]
          · rw [up_ne _ _ (by omega)]
theorem QV_upB {f : Nat → Nat} {K : Nat} {s : PS} {i : Nat} (b : Bool) : (fun k => if k = i * 5 + 4 then .bool b else QV f K s k) = QV f K (up s i 16 (if b then 1 else 0)) := by
  funext k
  by_cases e : k = i * 5 + 4
  · subst e
    rw [if_pos rfl, QV_4, up_same]
    cases b <;> rfl
  · rw [if_neg e]
    unfold QV
    split
    · rw [up_ne _ _ (by omega)]
    · split
      · rfl
      · split
        · rw [up_ne _ _ (by omega)]
        · split
          · rw [up_ne _ _ (by omega)]
          · rw [up_ne _ _ (by omega)]
theorem QV_upT {f : Nat → Nat} {K : Nat} {s : PS} {i g : Nat} (hg : g < 8) (v : Int) : QV f K s = QV f K (up s i (6 + g) v) := by
  funext k
  unfold QV
  rw [up_ne _ _ (by omega), up_ne _ _ (by omega), up_ne _ _ (by omega), up_ne _ _ (by omega)]

structure Pst (W1 W : World) (bn n K : Nat) (f : Nat → Nat) (s : PS) (v1 v2 : Value) (k1 k2 : Nat) (xs ys : List Int) : Prop where
  g : Gr W1 W
  k8 : K ≤ 8
  o : 0 < n → OwnP W bn (n * 5) (QV f K s)
  t : ∀ i, i < n → OwnP W (f i) K (fun q => .int .i64 (s i (6 + q)))
  ne : ∀ i, i < n → ¬ f i = bn
  inj : ∀ i j, i < n → j < n → f i = f j → i = j
  b0 : 0 < n → W1.heap.size ≤ bn
  b1 : ∀ i, i < n → W1.heap.size ≤ f i
  r : OwnR W W1.heap.size 3 1 v1 k1 (xs.map (Value.int .i64))
  a : OwnR W W1.heap.size 3 1 v2 k2 (ys.map (Value.int .i64))
  dr : ∀ b, v1.ownBlock = some b → 0 < n → ¬ b = bn ∧ ∀ i, i < n → ¬ b = f i
  da : ∀ b, v2.ownBlock = some b → 0 < n → ¬ b = bn ∧ ∀ i, i < n → ¬ b = f i
  dd : ∀ b, v1.ownBlock = some b → ¬ v2.ownBlock = some b
section
variable {W1 W W' : World} {bn n K : Nat} {f : Nat → Nat} {s : PS} {v1 v2 : Value} {k1 k2 : Nat} {xs ys : List Int}
theorem Pst.gr (h : Pst W1 W bn n K f s v1 v2 k1 k2 xs ys) (g : Gr W W') : Pst W1 W' bn n K f s v1 v2 k1 k2 xs ys :=
  { h with g := h.g.trans g, o := fun e => (h.o e).gr g, t := fun i hi => (h.t i hi).gr g, r := h.r.gr g, a := h.a.gr g }
theorem Pst.c0 (h : Pst W1 W bn n K f s v1 v2 k1 k2 xs ys) {i : Nat} (hi : i < n) : W.cell? ⟨bn, i * 5 + 0, none⟩ = some (.int .i64 (s i 5)) := by rw [(h.o (by omega)).cell (by omega), QV_0]
theorem Pst.c1 (h : Pst W1 W bn n K f s v1 v2 k1 k2 xs ys) {i : Nat} (hi : i < n) : W.cell? ⟨bn, i * 5 + 1, none⟩ = some (.slice (some ⟨f i, 0, none⟩) K K) := by rw [(h.o (by omega)).cell (by omega), QV_1]
theorem Pst.c2 (h : Pst W1 W bn n K f s v1 v2 k1 k2 xs ys) {i : Nat} (hi : i < n) : W.cell? ⟨bn, i * 5 + 2, none⟩ = some (.int .i64 (s i 14)) := by rw [(h.o (by omega)).cell (by omega), QV_2]
theorem Pst.c3 (h : Pst W1 W bn n K f s v1 v2 k1 k2 xs ys) {i : Nat} (hi : i < n) : W.cell? ⟨bn, i * 5 + 3, none⟩ = some (.int .i64 (s i 15)) := by rw [(h.o (by omega)).cell (by omega), QV_3]
theorem Pst.c4 (h : Pst W1 W bn n K f s v1 v2 k1 k2 xs ys) {i : Nat} (hi : i < n) : W.cell? ⟨bn, i * 5 + 4, none⟩ = some (.bool (s i 16 != 0)) := by rw [(h.o (by omega)).cell (by omega), QV_4]
theorem Pst.ct (h : Pst W1 W bn n K f s v1 v2 k1 k2 xs ys) {i q : Nat} (hi : i < n) (hq : q < K) : W.cell? ⟨f i, q, none⟩ = some (.int .i64 (s i (6 + q))) := (h.t i hi).cell hq
theorem Pst.setAny (h : Pst W1 W bn n K f s v1 v2 k1 k2 xs ys) {i c : Nat} {v : Value} {z : PS} (hi : i < n) (hv : (fun k => if k = i * 5 + c then v else QV f K s k) = QV f K z) (hz : ∀ a q, q < 8 → z a (6 + q) = s a (6 + q)) :
    Pst W1 (W.setCell ⟨bn, i * 5 + c, none⟩ v) bn n K f z v1 v2 k1 k2 xs ys := by
  have hon := Y.set_only W bn (i * 5 + c) v
  have h8 := h.k8
  exact { h with
    g := Y.Only.up h.g hon (by have := h.b0 (by omega); omega)
    o := fun e => by have := (h.o e).set (k := i * 5 + c) v; rwa [hv] at this
    t := fun a ha => ((h.t a ha).only hon (h.ne a ha)).congr (fun q hq => by rw [hz a q (by omega)])
    r := h.r.only hon (fun b e => (h.dr b e (by omega)).1)
    a := h.a.only hon (fun b e => (h.da b e (by omega)).1) }
theorem Pst.setI (h : Pst W1 W bn n K f s v1 v2 k1 k2 xs ys) {i c j : Nat} (hi : i < n) (hc : qc c j) (v : Int) : Pst W1 (W.setCell ⟨bn, i * 5 + c, none⟩ (.int .i64 v)) bn n K f (up s i j v) v1 v2 k1 k2 xs ys :=
  h.setAny hi (QV_up hc v) (fun a q hq => up_ne _ _ (by unfold qc at hc; omega))
theorem Pst.setB (h : Pst W1 W bn n K f s v1 v2 k1 k2 xs ys) {i : Nat} (hi : i < n) (b : Bool) : Pst W1 (W.setCell ⟨bn, i * 5 + 4, none⟩ (.bool b)) bn n K f (up s i 16 (if b then 1 else 0)) v1 v2 k1 k2 xs ys :=
  h.setAny hi (QV_upB b) (fun a q hq => up_ne _ _ (by omega))
theorem Pst.setT (h : Pst W1 W bn n K f s v1 v2 k1 k2 xs ys) {i q : Nat} (hi : i < n) (hq : q < K) (v : Int) : Pst W1 (W.setCell ⟨f i, q, none⟩ (.int .i64 v)) bn n K f (up s i (6 + q) v) v1 v2 k1 k2 xs ys := by
  have hon := Y.set_only W (f i) q (.int .i64 v)
  have h8 := h.k8
  exact { h with
    g := Y.Only.up h.g hon (by have := h.b1 i hi; omega)
    o := fun e => by
      have := (h.o e).only hon (fun e2 => h.ne i hi e2.symm)
      rwa [QV_upT (i := i) (g := q) (by omega) v] at this
    t := fun a ha => by
      by_cases e : a = i
      · subst e
        exact ((h.t a ha).set (k := q) (.int .i64 v)).congr (fun r hr => by
          by_cases e2 : r = q
          · subst e2; rw [if_pos rfl, up_same]
          · rw [if_neg e2, up_ne _ _ (.inr (by omega))])
      · exact ((h.t a ha).only hon (fun e2 => e (h.inj a i ha hi e2))).congr (fun r hr => by rw [up_ne _ _ (.inl e)])
    r := h.r.only hon (fun b e => (h.dr b e (by omega)).2 i hi)
    a := h.a.only hon (fun b e => (h.da b e (by omega)).2 i hi) }
theorem Pst.size (h : Pst W1 W bn n K f s v1 v2 k1 k2 xs ys) (hn : 0 < n) : bn < W.heap.size ∧ ∀ i, i < n → f i < W.heap.size := ⟨(h.o hn).lt, fun i hi => (h.t i hi).lt⟩
theorem Pst.push1 (h : Pst W1 W bn n K f s v1 v2 k1 k2 xs ys) {v : Value} {x : Int} (hO : OwnR W' W1.heap.size 3 1 v (k1 + 1) (xs.map (Value.int .i64) ++ [.int .i64 x])) (hon : Only (fun b => v1.ownBlock = some b) W W')
    (hat : v.ownBlock = v1.ownBlock ∨ v.ownBlock = some W.heap.size) : Pst W1 W' bn n K f s v v2 (k1 + 1) k2 (xs ++ [x]) ys := by
  have hge := fun b e => h.r.ge (b := b) e
  exact { h with
    g := upS h.g hon (fun b e => (hge b e).1)
    o := fun e => (h.o e).only hon (fun e2 => (h.dr _ e2 e).1 rfl)
    t := fun a ha => (h.t a ha).only hon (fun e2 => (h.dr _ e2 (by omega)).2 a ha rfl)
    r := by rw [List.map_append]; exact hO
    a := h.a.only hon (fun b e e2 => h.dd b e2 e)
    dr := fun b e hn => by
      rcases hat with e2 | e2
      · exact h.dr b (e2 ▸ e) hn
      · rw [e2] at e; injection e with e
        have := h.size hn
        exact ⟨by omega, fun i hi => by have := this.2 i hi; omega⟩
    dd := fun b e e3 => by
      rcases hat with e2 | e2
      · exact h.dd b (e2 ▸ e) e3
      · rw [e2] at e; injection e with e
        have := (h.a.ge e3).2; omega }
theorem Pst.push2 (h : Pst W1 W bn n K f s v1 v2 k1 k2 xs ys) {v : Value} {x : Int} (hO : OwnR W' W1.heap.size 3 1 v (k2 + 1) (ys.map (Value.int .i64) ++ [.int .i64 x])) (hon : Only (fun b => v2.ownBlock = some b) W W')
    (hat : v.ownBlock = v2.ownBlock ∨ v.ownBlock = some W.heap.size) : Pst W1 W' bn n K f s v1 v k1 (k2 + 1) xs (ys ++ [x]) := by
  have hge := fun b e => h.a.ge (b := b) e
  exact { h with
    g := upS h.g hon (fun b e => (hge b e).1)
    o := fun e => (h.o e).only hon (fun e2 => (h.da _ e2 e).1 rfl)
    t := fun a ha => (h.t a ha).only hon (fun e2 => (h.da _ e2 (by omega)).2 a ha rfl)
    r := h.r.only hon (fun b e e2 => h.dd b e e2)
    a := by rw [List.map_append]; exact hO
    da := fun b e hn => by
      rcases hat with e2 | e2
      · exact h.da b (e2 ▸ e) hn
      · rw [e2] at e; injection e with e
        have := h.size hn
        exact ⟨by omega, fun i hi => by have := this.2 i hi; omega⟩
    dd := fun b e e3 => by
      rcases hat with e2 | e2
      · exact h.dd b e (e2 ▸ e3)
      · rw [e2] at e3; injection e3 with e3
        have := (h.r.ge e).2; omega }
end

/- the nodes in the making -/
/-- the cells of a new node -/
def rowQ (nd : List (List Int)) (K : Nat) (f : Nat → Nat) (i : Nat) : List Value := [.int .i64 0, .slice (some ⟨f i, 0, none⟩) K K, .int .i64 0, .int .i64 (cv nd i 3), .bool false]
def flatQ (nd : List (List Int)) (K : Nat) (f : Nat → Nat) : Nat → List Value
  | 0 => []
  | i + 1 => flatQ nd K f i ++ rowQ nd K f i
theorem flatQ_len (nd : List (List Int)) (K : Nat) (f : Nat → Nat) : ∀ i, (flatQ nd K f i).length = i * 5
  | 0 => rfl
  | i + 1 => by rw [flatQ, List.length_append, flatQ_len nd K f i]; show i * 5 + 5 = (i + 1) * 5; omega
theorem flatQ_congr {nd : List (List Int)} {K : Nat} {f f' : Nat → Nat} : ∀ i, (∀ j, j < i → f j = f' j) → flatQ nd K f i = flatQ nd K f' i
  | 0, _ => rfl
  | i + 1, h => by rw [flatQ, flatQ, flatQ_congr i (fun j hj => h j (by omega)), rowQ, rowQ, h i (by omega)]
theorem flatQ_at {nd : List (List Int)} {K : Nat} {f : Nat → Nat} : ∀ {n j : Nat} {u : Value}, (flatQ nd K f n)[j]? = some u → u = QV f K (startS nd) j
  | 0, j, u, h => by simp [flatQ] at h
  | n + 1, j, u, h => by
    rw [flatQ] at h
    have hl := flatQ_len nd K f n
    by_cases hj : j < n * 5
    · rw [List.getElem?_append_left (by omega)] at h
      exact flatQ_at h
    · rw [List.getElem?_append_right (by omega), hl] at h
      obtain ⟨r, rfl⟩ : ∃ r, j = n * 5 + r := ⟨j - n * 5, by omega⟩
      rw [show n * 5 + r - n * 5 = r by omega] at h
      match r with
      | 0 => simp [rowQ] at h; rw [QV_0, ← h]; rfl
      | 1 => simp [rowQ] at h; rw [QV_1, ← h]
      | 2 => simp [rowQ] at h; rw [QV_2, ← h]; rfl
      | 3 => simp [rowQ] at h; rw [QV_3, ← h]; rfl
      | 4 => simp [rowQ] at h; rw [QV_4, ← h]; rfl
      | r + 5 => simp [rowQ] at h
structure Qst (W1 W : World) (n K : Nat) (nd : List (List Int)) (f : Nat → Nat) (v : Value) (i : Nat) : Prop where
  g : Gr W1 W
  o : OwnR W W1.heap.size 115 5 v i (flatQ nd K f i)
  t : ∀ a, a < i → OwnP W (f a) K (EV (fun _ => 0))
  ne : ∀ a, a < i → ∀ b, v.ownBlock = some b → ¬ f a = b
  inj : ∀ a b, a < i → b < i → f a = f b → a = b
  b1 : ∀ a, a < i → W1.heap.size ≤ f a
theorem Qst.nil {W1 : World} {n K : Nat} {nd : List (List Int)} : Qst W1 W1 n K nd (fun _ => 0) (.slice none 0 0) 0 := ⟨Gr.refl _, OwnR.nil _ _ _ _, fun a h => by omega, fun a h => by omega, fun a b h => by omega, fun a h => by omega⟩
/-- one node more: W2 with the new timers g3, W3 behind the append -/
theorem Qst.push {W1 W W2 W3 : World} {n K g3 : Nat} {nd : List (List Int)} {f : Nat → Nat} {v v' : Value} {i : Nat} (h : Qst W1 W n K nd f v i) (g : Gr W W2) (h3 : OwnP W2 g3 K (EV (fun _ => 0))) (hg3 : W.heap.size ≤ g3)
    (hO : OwnR W3 W1.heap.size 115 5 v' (i + 1) (flatQ nd K f i ++ [.int .i64 0, .slice (some ⟨g3, 0, none⟩) K K, .int .i64 0, .int .i64 (cv nd i 3), .bool false])) (hon : Only (fun b => v.ownBlock = some b) W2 W3)
    (hat : v'.ownBlock = v.ownBlock ∨ v'.ownBlock = some W2.heap.size) : Qst W1 W3 n K nd (fun a => if a = i then g3 else f a) v' (i + 1) := by
  have hs := g.size
  have h3l := h3.lt
  have hge := fun b e => (h.o.ge (b := b) e)
  have hf : ∀ a, a < i → f a < W.heap.size := fun a ha => (h.t a ha).lt
  have hs1 := h.g.size
  refine ⟨upS (h.g.trans g) hon (fun b e => (hge b e).1), ?_, fun a ha => ?_, fun a ha b hb => ?_, fun a b ha hb e => ?_, fun a ha => ?_⟩
  · show OwnR _ _ _ _ _ _ (flatQ nd K _ i ++ rowQ nd K _ i)
    rw [flatQ_congr (f' := f) i (fun j hj => if_neg (by omega))]
    show OwnR _ _ _ _ _ _ (_ ++ [_, .slice (some ⟨if i = i then g3 else f i, 0, none⟩) K K, _, _, _])
    rw [if_pos rfl]; exact hO
  · by_cases e : a = i
    · simp only [if_pos e]; exact h3.only hon (fun e2 => by have := (hge _ e2).2; omega)
    · simp only [if_neg e]; exact ((h.t a (by omega)).gr g).only hon (fun e2 => h.ne a (by omega) _ e2 rfl)
  · by_cases e : a = i
    · simp only [if_pos e]
      rcases hat with e2 | e2
      · have := (hge b (e2 ▸ hb)).2; omega
      · rw [e2] at hb; injection hb with hb; omega
    · simp only [if_neg e]
      have := hf a (by omega)
      rcases hat with e2 | e2
      · exact h.ne a (by omega) b (e2 ▸ hb)
      · rw [e2] at hb; injection hb with hb; omega
  · by_cases e1 : a = i <;> by_cases e2 : b = i
    · omega
    · simp only [if_pos e1, if_neg e2] at e; have := hf b (by omega); omega
    · simp only [if_neg e1, if_pos e2] at e; have := hf a (by omega); omega
    · simp only [if_neg e1, if_neg e2] at e; exact h.inj a b (by omega) (by omega) e
  · by_cases e : a = i
    · simp only [if_pos e]; omega
    · simp only [if_neg e]; exact h.b1 a (by omega)
theorem Qst.done {W1 W : World} {n K : Nat} {nd : List (List Int)} {f : Nat → Nat} {v : Value} (h : Qst W1 W n K nd f v n) (h8 : K ≤ 8) : ∃ bn pa c, v = .slice pa n c ∧ (0 < n → pa = some ⟨bn, 0, none⟩) ∧ Pst W1 W bn n K f (startS nd) (.slice none 0 0) (.slice none 0 0) 0 0 [] [] := by
  have hz : ∀ a q, q < 8 → startS nd a (6 + q) = 0 := fun a q hq => by
    show (if 6 + q < 5 then cv nd a (6 + q) else if 6 + q = 15 then cv nd a 3 else 0) = 0
    rw [if_neg (by omega), if_neg (by omega)]
  have ht : ∀ i, i < n → OwnP W (f i) K (fun q => .int .i64 (startS nd i (6 + q))) := fun i hi => (h.t i hi).congr (fun q hq => by rw [hz i q (by omega)]; rfl)
  rcases h.o.shape with ⟨rfl, h0⟩ | ⟨g2, c2, rfl, hg2, hg3⟩
  · exact ⟨0, none, 0, by rw [h0], fun e => by omega, h.g, h8, fun e => by omega, ht, fun i hi => by omega, h.inj, fun e => by omega, h.b1, OwnR.nil _ _ _ _, OwnR.nil _ _ _ _, fun b e => by simp [Value.ownBlock] at e, fun b e => by simp [Value.ownBlock] at e, fun b e => by simp [Value.ownBlock] at e⟩
  · exact ⟨g2, _, c2, rfl, fun _ => rfl, h.g, h8, fun _ => h.o.ownP (fun j u e => flatQ_at e), ht, fun i hi => h.ne i hi g2 rfl, h.inj, fun _ => hg2, h.b1, OwnR.nil _ _ _ _, OwnR.nil _ _ _ _, fun b e => by simp [Value.ownBlock] at e, fun b e => by simp [Value.ownBlock] at e, fun b e => by simp [Value.ownBlock] at e⟩
end
section
open Go.RowKit

/-- the branches of a test meet again -/
theorem Y.seqJ {P : Program} {ro : Option Nat} {x y : Code} {Q : Exit → Act → World → Prop} {A : Act} {W : World} (J : Act → World → Prop) (h : x.wpIn (FW ro) 0 P (Exit.then J Q) A W) (hJ : ∀ A W, J A W → y.wpIn (FW ro) 0 P Q A W) : (Code.seq x y).wpIn (FW ro) 0 P Q A W :=
  wpIn_seq (wpIn_mono h (fun e a w hq => by
    cases e with
    | normal => exact hJ _ _ hq
    | exit id => exact hq
    | goto l => exact hq
    | ret => exact hq
    | panic ch => exact hq
    | outgrown => exact hq))
theorem Try.bd115 (sa : Option Addr) (n c : Nat) (b : Int) (W : World) : (Instr.build 115 #[(1, .slice sa n c), (3, .int .i64 b)]).run Try.prog W = .ok (.agg #[.int .i64 0, .slice sa n c, .int .i64 0, .int .i64 b, .bool false]) W := by kernel_rfl
theorem Try.bs113 (sa : Option Addr) (n c : Nat) (b : Int) (W : World) : (Instr.buildSlice 113 1 #[(0, .agg #[.int .i64 0, .slice sa n c, .int .i64 0, .int .i64 b, .bool false])]).run Try.prog W = .ok (.slice (some ⟨W.heap.size, 0, none⟩) 1 1) (W.alloc (.cells #[.int .i64 0, .slice sa n c, .int .i64 0, .int .i64 b, .bool false] 115)) := by kernel_rfl
theorem b13 {ρ : Operand → Value} {x y : Operand} {v1 v2 : Value} (h1 : ρ x = v1) (h2 : ρ y = v2) : [(1, x), (3, y)].map (fun p : Nat × Operand => (p.1, ρ p.2)) = [(1, v1), (3, v2)] := by simp [h1, h2]
theorem addr_ownR (g j : Nat) : (⟨g, 0, none⟩ : Addr).add (j * 1) = ⟨g, j, none⟩ := by rw [Nat.mul_one]; exact addr_add0 g j
theorem dis1_def {hold : Int} {l : List (List Int)} {t : Int} {i : Nat} {s : PS} : dis1 hold l t i s = nzR hold l t i (refill1 t i s) := rfl
/-- what is held in the region that makes a node -/
structure RN (W0 : World) (K : Nat) (tok : Int) (Fin : Value → World → Prop) (done : Nat → Bool) (u : Nat → Value) (W : World) : Prop where
  g : done 12 = false → Gr W0 W
  p3 : done 3 = true → ∃ g3, u 3 = .slice (some ⟨g3, 0, none⟩) K K ∧ W0.heap.size ≤ g3 ∧ (done 12 = false → OwnP W g3 K (EV (fun _ => 0)))
  p10 : done 10 = true → u 10 = .agg #[.int .i64 0, u 3, .int .i64 0, .int .i64 tok, .bool false]
  p11 : done 11 = true → done 12 = false → ∃ g9, u 11 = .slice (some ⟨g9, 0, none⟩) 1 1 ∧ W.heap[g9]? = some (.cells #[.int .i64 0, u 3, .int .i64 0, .int .i64 tok, .bool false] 115)
  p12 : done 12 = true → Fin (u 12) W
  p13 : done 13 = true → u 13 = u 12
section
variable {W0 W W' : World} {K i : Nat} {tok : Int} {Fin : Value → World → Prop} {done : Nat → Bool} {u : Nat → Value} {v : Value}
theorem RN.start (g : Gr W0 W) : RN W0 K tok Fin (fun _ => false) u W := ⟨fun _ => g, fun h => (by cases h), fun h => (by cases h), fun h => (by cases h), fun h => (by cases h), fun h => (by cases h)⟩
theorem RN.q (h : RN W0 K tok Fin done u W) (hi : (i == 3 || i == 10 || i == 11 || i == 12 || i == 13) = false) : RN W0 K tok Fin (upd done i) (fun j => if j = i then v else u j) W := by
  simp only [Bool.or_eq_false_iff, beq_eq_false_iff_ne] at hi
  obtain ⟨⟨⟨⟨h1, h2⟩, h3⟩, h4⟩, h5⟩ := hi
  have e : ∀ j, ¬ i = j → upd done i j = done j ∧ (if j = i then v else u j) = u j := fun j hj => ⟨upd_ne (fun x => hj x.symm), if_neg (fun x => hj x.symm)⟩
  exact ⟨fun k => h.g ((e 12 h4).1 ▸ k), fun k => by simp only [(e 3 h1).2, (e 12 h4).1]; exact h.p3 ((e 3 h1).1 ▸ k), fun k => by simp only [(e 3 h1).2, (e 10 h2).2]; exact h.p10 ((e 10 h2).1 ▸ k),
    fun k k2 => by simp only [(e 3 h1).2, (e 11 h3).2]; exact h.p11 ((e 11 h3).1 ▸ k) ((e 12 h4).1 ▸ k2), fun k => by simp only [(e 12 h4).2]; exact h.p12 ((e 12 h4).1 ▸ k), fun k => by simp only [(e 12 h4).2, (e 13 h5).2]; exact h.p13 ((e 13 h5).1 ▸ k)⟩
theorem RN.s3 (h : RN W0 K tok Fin done u W) (d10 : done 10 = false) (d11 : done 11 = false) (d12 : done 12 = false) (d13 : done 13 = false) {g3 : Nat} (g : Gr W W') (hO : OwnP W' g3 K (EV (fun _ => 0))) (hg : W0.heap.size ≤ g3) : RN W0 K tok Fin (upd done 3) (fun j => if j = 3 then .slice (some ⟨g3, 0, none⟩) K K else u j) W' := by
  have e : ∀ j, ¬ 3 = j → upd done 3 j = done j := fun j hj => upd_ne (fun x => hj x.symm)
  exact ⟨fun k => (h.g d12).trans g, fun k => ⟨g3, if_pos rfl, hg, fun _ => hO⟩, fun k => (by rw [e 10 (by decide), d10] at k; cases k), fun k => (by rw [e 11 (by decide), d11] at k; cases k), fun k => (by rw [e 12 (by decide), d12] at k; cases k), fun k => (by rw [e 13 (by decide), d13] at k; cases k)⟩
theorem RN.s10 (h : RN W0 K tok Fin done u W) (d11 : done 11 = false) (d12 : done 12 = false) (d13 : done 13 = false) (hv : v = .agg #[.int .i64 0, u 3, .int .i64 0, .int .i64 tok, .bool false]) : RN W0 K tok Fin (upd done 10) (fun j => if j = 10 then v else u j) W := by
  have e : ∀ j, ¬ 10 = j → upd done 10 j = done j := fun j hj => upd_ne (fun x => hj x.symm)
  exact ⟨fun k => h.g d12, fun k => by have := h.p3 ((e 3 (by decide)) ▸ k); rw [e 12 (by decide)]; exact this, fun k => hv, fun k => (by rw [e 11 (by decide), d11] at k; cases k), fun k => (by rw [e 12 (by decide), d12] at k; cases k), fun k => (by rw [e 13 (by decide), d13] at k; cases k)⟩
theorem RN.s11 (h : RN W0 K tok Fin done u W) (d12 : done 12 = false) (d13 : done 13 = false) {g9 : Nat} (g : Gr W W') (hg : W'.heap[g9]? = some (.cells #[.int .i64 0, u 3, .int .i64 0, .int .i64 tok, .bool false] 115)) : RN W0 K tok Fin (upd done 11) (fun j => if j = 11 then .slice (some ⟨g9, 0, none⟩) 1 1 else u j) W' := by
  have e : ∀ j, ¬ 11 = j → upd done 11 j = done j := fun j hj => upd_ne (fun x => hj x.symm)
  refine ⟨fun k => (h.g d12).trans g, fun k => ?_, fun k => h.p10 ((e 10 (by decide)) ▸ k), fun k _ => ⟨g9, if_pos rfl, hg⟩, fun k => (by rw [e 12 (by decide), d12] at k; cases k), fun k => (by rw [e 13 (by decide), d13] at k; cases k)⟩
  obtain ⟨g3, h1, h2, h3⟩ := h.p3 ((e 3 (by decide)) ▸ k)
  exact ⟨g3, h1, h2, fun _ => (h3 d12).gr g⟩
theorem RN.s12 (h : RN W0 K tok Fin done u W) (d13 : done 13 = false) (hF : Fin v W') : RN W0 K tok Fin (upd done 12) (fun j => if j = 12 then v else u j) W' := by
  have e : ∀ j, ¬ 12 = j → upd done 12 j = done j := fun j hj => upd_ne (fun x => hj x.symm)
  have e12 : upd done 12 12 = true := upd_self
  refine ⟨fun k => (by rw [e12] at k; cases k), fun k => ?_, fun k => h.p10 ((e 10 (by decide)) ▸ k), fun k k2 => (by rw [e12] at k2; cases k2), fun k => hF, fun k => (by rw [e 13 (by decide), d13] at k; cases k)⟩
  obtain ⟨g3, h1, h2, h3⟩ := h.p3 ((e 3 (by decide)) ▸ k)
  exact ⟨g3, h1, h2, fun k2 => (by rw [e12] at k2; cases k2)⟩
theorem RN.s13 (h : RN W0 K tok Fin done u W) (hv : v = u 12) : RN W0 K tok Fin (upd done 13) (fun j => if j = 13 then v else u j) W := by
  have e : ∀ j, ¬ 13 = j → upd done 13 j = done j := fun j hj => upd_ne (fun x => hj x.symm)
  exact ⟨fun k => h.g ((e 12 (by decide)) ▸ k), fun k => by have := h.p3 ((e 3 (by decide)) ▸ k); rw [e 12 (by decide)]; exact this, fun k => h.p10 ((e 10 (by decide)) ▸ k), fun k k2 => h.p11 ((e 11 (by decide)) ▸ k) ((e 12 (by decide)) ▸ k2), fun k => h.p12 ((e 12 (by decide)) ▸ k), fun k => hv⟩
end
/-- what a state keeps in the middle of a tick -/
structure KOk (n : Nat) (nd : List (List Int)) (s : PS) : Prop where
  ok : SOk n s
  lo : ∀ i j, i < n → j < 5 → s i j = cv nd i j
section
variable {n : Nat} {nd l : List (List Int)} {s : PS} {hold : Int}
theorem KOk.up (h : KOk n nd s) {i j : Nat} {v : Int} (hj : 5 ≤ j) (hv : 6 ≤ j → j ≤ 15 → 0 ≤ v ∧ v ≤ 1000) : KOk n nd (up s i j v) := ⟨h.ok.up hj hv, fun a b ha hb => by rw [up_ne _ _ (.inr (by omega))]; exact h.lo a b ha hb⟩
theorem KOk.it {f : Nat → PS → PS} (h : KOk n nd s) (k : Nat) (hf : ∀ i z, i < k → KOk n nd z → KOk n nd (f i z)) : KOk n nd (itN f k s) := itN_keep (P := fun z => KOk n nd z) h k hf
theorem KOk.askR (h : KOk n nd s) (t : Int) (k : Nat) : KOk n nd (askR l t k s) := by
  unfold Go.Proofs.Ytoalamakhjbedaa.askR
  split
  · exact h.up (by decide) (by omega)
  · split
    · exact h.up (by decide) (by omega)
    · exact h
theorem KOk.refill (h : KOk n nd s) (t : Int) {i : Nat} (hi : i < n) : KOk n nd (refill1 t i s) := by
  unfold refill1
  split
  · refine h.up (by decide) (fun _ _ => ?_)
    have h1 := h.ok.b i hi
    have h2 := h.ok.t i hi 15 (by decide) (by decide)
    omega
  · exact h
theorem KOk.noise (h : KOk n nd s) (h1 : 1 ≤ hold) (h2 : hold ≤ 100) (t : Int) {i : Nat} (hi : i < n) : KOk n nd (nzR hold l t i s) := by
  unfold nzR
  split
  · rename_i e
    have h3 := h.ok.t i hi 15 (by decide) (by decide)
    exact (h.up (by decide) (fun _ _ => by omega)).up (by decide) (fun _ _ => by omega)
  · exact h
theorem KOk.dis1 (h : KOk n nd s) (h1 : 1 ≤ hold) (h2 : hold ≤ 100) (t : Int) {i : Nat} (hi : i < n) : KOk n nd (dis1 hold l t i s) := (h.refill t hi).noise h1 h2 t hi
theorem KOk.snd1 (h : KOk n nd s) (h1 : 1 ≤ hold) (h2 : hold ≤ 100) (t : Int) (a b g : Nat) : KOk n nd (sndR1 hold l t a b g s) := by
  unfold sndR1
  split
  · exact h.up (by omega) (fun _ _ => by omega)
  · exact h
theorem KOk.snd2 (h : KOk n nd s) (h1 : 1 ≤ hold) (h2 : hold ≤ 100) (t : Int) (g a b : Nat) : KOk n nd (sndR2 hold l t g a b s) := h.it g (fun q z _ hz => hz.snd1 h1 h2 t a b q)
theorem KOk.snd3 (h : KOk n nd s) (h1 : 1 ≤ hold) (h2 : hold ≤ 100) (t : Int) (g a : Nat) : KOk n nd (sndR3 hold l t g n a s) := h.it n (fun q z _ hz => hz.snd2 h1 h2 t g a q)
theorem KOk.aw0 (h : KOk n nd s) (i : Nat) : KOk n nd (aw0 i s) := h.up (by decide) (by omega)
theorem KOk.tmR (h : KOk n nd s) {i g : Nat} (hi : i < n) (hg : g < 8) : KOk n nd (tmR i g s) := by
  have h3 := h.ok.t i hi (6 + g) (by omega) (by omega)
  exact (h.up (by decide) (by omega)).up (by omega) (fun _ _ => by omega)
theorem KOk.pasR (h : KOk n nd s) {i g : Nat} (hi : i < n) (hg : g ≤ 8) : KOk n nd (pasR g i s) := by
  have h4 : KOk n nd (itN (Go.Proofs.Ytoalamakhjbedaa.tmR i) g (Go.Proofs.Ytoalamakhjbedaa.aw0 i s)) := (h.aw0 i).it g (fun q z hq hz => hz.tmR hi (by omega))
  have h3 := h4.ok.t i hi 14 (by decide) (by decide)
  exact h4.up (by decide) (fun _ _ => by omega)
theorem runR_kok {K : Nat} {tt : Int} (hc : CluOk K hold nd) (hnu : NuAll K nd tt l) (hn : nd.length = n) (t : Nat) : KOk n nd (runR hold K n l nd t).s ∧ runR hold K n l nd t = runFrom hold K n l (startS nd) t := by
  subst hn
  have h := runR_eq hc hnu t
  rw [Int.toNat_natCast] at h
  have h16 := hc.n16
  have h8 := hc.g8
  rw [h.1]
  exact ⟨⟨h.2.ok, fun i j hi hj => by rw [run_lo (by omega) (by omega) hi hj]; show (if j < 5 then cv nd i j else _) = _; rw [if_pos hj]⟩, rfl⟩
theorem askR_1 {t : Int} {k : Nat} (h0 : cv l k 0 = t) (h1 : cv l k 1 = 1) : askR l t k s = Go.Proofs.Ytoalamakhjbedaa.up s (cv l k 2).toNat 5 (orV (s (cv l k 2).toNat 5) (shlV 1 (cv l k 3))) := if_pos ⟨h0, h1⟩
theorem askR_2 {t : Int} {k : Nat} (h0 : cv l k 0 = t) (h1 : cv l k 1 = 2) : askR l t k s = Go.Proofs.Ytoalamakhjbedaa.up s (cv l k 2).toNat 5 (anotV (s (cv l k 2).toNat 5) (shlV 1 (cv l k 3))) := (if_neg (fun e => by have := e.2; omega)).trans (if_pos ⟨h0, h1⟩)
theorem askR_n {t : Int} {k : Nat} (h : cv l k 0 = t → ¬ cv l k 1 = 1 ∧ ¬ cv l k 1 = 2) : askR l t k s = s := (if_neg (fun e => (h e.1).1 e.2)).trans (if_neg (fun e => (h e.1).2 e.2))
theorem nz_pos {t : Int} {i : Nat} (h1 : hasB l t 3 i 0 = true) (h2 : s i 16 = 0) (h3 : 0 < s i 15) : nzR hold l t i s = Go.Proofs.Ytoalamakhjbedaa.up (Go.Proofs.Ytoalamakhjbedaa.up s i 15 (s i 15 - 1)) i 14 hold := if_pos ⟨h1, h2, h3⟩
theorem nz_neg {t : Int} {i : Nat} (h : ¬ (hasB l t 3 i 0 = true ∧ s i 16 = 0 ∧ 0 < s i 15)) : nzR hold l t i s = s := if_neg h
theorem snd_pos {t : Int} {a b g : Nat} (h1 : bitB (s a 5) g = true) (h2 : bitB (s b 0) g = true) (h3 : hasB l t 4 a b = false) : sndR1 hold l t a b g s = Go.Proofs.Ytoalamakhjbedaa.up s b (6 + g) hold := if_pos ⟨h1, h2, h3⟩
theorem snd_neg {t : Int} {a b g : Nat} (h : ¬ (bitB (s a 5) g = true ∧ bitB (s b 0) g = true ∧ hasB l t 4 a b = false)) : sndR1 hold l t a b g s = s := if_neg h
theorem dis1_5 {t : Int} {i a : Nat} : dis1 hold l t i s a 5 = s a 5 := by
  unfold dis1 nzR refill1
  split <;> split <;> simp only [up_ne _ _ (Or.inr (show (5 : Nat) ≠ 14 by decide)), up_ne _ _ (Or.inr (show (5 : Nat) ≠ 15 by decide))]
theorem dis_5 {t : Int} {k a : Nat} : itN (dis1 hold l t) k s a 5 = s a 5 := itN_keep (P := fun z : PS => z a 5 = s a 5) rfl k (fun i z _ hz => by rw [dis1_5]; exact hz)
theorem ifB (p : Prop) [Decidable p] : (if (decide p) = true then (1 : Int) else 0) = if p then 1 else 0 := by by_cases h : p <;> simp [h]
def tm1 (i g : Nat) (s : PS) : PS := Go.Proofs.Ytoalamakhjbedaa.up s i 16 (if s i 16 ≠ 0 ∨ 0 < s i (6 + g) then 1 else 0)
theorem tm1_t {i g : Nat} (h : ¬ s i 16 = 0) : Go.Proofs.Ytoalamakhjbedaa.up s i 16 (if true = true then 1 else 0) = tm1 i g s := by unfold Go.Proofs.Ytoalamakhjbedaa.tm1; rw [if_pos (rfl : true = true), if_pos (show s i 16 ≠ 0 ∨ 0 < s i (6 + g) from .inl h)]
theorem tm1_f {i g : Nat} (h : s i 16 = 0) : Go.Proofs.Ytoalamakhjbedaa.up s i 16 (if (decide (0 < s i (6 + g))) = true then 1 else 0) = tm1 i g s := by
  unfold tm1
  rw [ifB]
  by_cases e : 0 < s i (6 + g)
  · rw [if_pos e, if_pos (.inr e)]
  · rw [if_neg e, if_neg (by omega)]
theorem tm1_tm {i g : Nat} (hg : g < 8) : tm1 i g s i (6 + g) = s i (6 + g) := up_ne _ _ (.inr (by omega))
theorem KOk.tm1 (h : KOk n nd s) (i g : Nat) : KOk n nd (tm1 i g s) := h.up (by decide) (by omega)
theorem aw0_eq {i : Nat} : Go.Proofs.Ytoalamakhjbedaa.up s i 16 (if (decide (0 < s i 14)) = true then 1 else 0) = aw0 i s := by unfold Go.Proofs.Ytoalamakhjbedaa.aw0; rw [ifB]
theorem tmR_eq {i g : Nat} (hg : g < 8) : Go.Proofs.Ytoalamakhjbedaa.up (Go.Proofs.Ytoalamakhjbedaa.tm1 i g s) i (6 + g) (max 0 (Go.Proofs.Ytoalamakhjbedaa.tm1 i g s i (6 + g) - 1)) = tmR i g s := by rw [tm1_tm hg]; rfl
/-- a nudge that is right, as the cells say it -/
theorem nu_at {K m : Nat} {tt : Int} (hnu : NuAll K nd tt l) (hl : l.length = m) (hn : nd.length = n) {k : Nat} (hk : k < m) : 0 ≤ cv l k 2 ∧ cv l k 2 < n ∧ (cv l k 1 = 1 ∨ cv l k 1 = 2 → 0 ≤ cv l k 3 ∧ cv l k 3 < K) := by
  have hx := hnu (l[k]?.getD []) (by rw [List.getElem?_eq_getElem (by omega)]; exact List.getElem_mem _)
  have h1 := hx.n1
  rw [hn] at h1
  exact ⟨hx.n0, h1, fun e => ⟨(hx.ask e).1, (hx.ask e).2.1⟩⟩
theorem KOk.pasP {p : PS × Int} (h : KOk n nd p.1) {i g : Nat} (hi : i < n) (hg : g ≤ 8) : KOk n nd (pasP g i p).1 := KOk.pasR h hi hg
end
end
end Go.Proofs.Ytoalamakhjbedaa
