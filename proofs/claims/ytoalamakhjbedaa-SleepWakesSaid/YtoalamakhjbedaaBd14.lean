/- Several texts of this claim in one file. (1) Contracts: Members, Tolerates. (2) Contracts: Choose. (3) Contract: sameInts. (4) Contract: the look at the examples. -/
import Derived.Test.YtoalamakhjbedaaBd13
namespace Go.Proofs.Ytoalamakhjbedaa
section
open Go.RowKit

set_option maxRecDepth 100000 in
set_option maxHeartbeats 1000000 in
theorem members_any (na : Option Addr) (n nc : Nat) (gr hold k : Int) (nd : List (List Int)) (w : World) (hnd : StAt w 5 na n nd) :
  Calls Try.prog 36 #[.agg #[.int .i64 gr, .int .i64 hold, .slice na n nc], .int .i64 k] w fun e w' => e = .returned (.tuple #[.int .i64 (memR gr hold nd k), .int .i64 (memE gr hold nd k)]) ∧ Gr w w' := by
 have G := Gr.refl w
 have hlen := hnd.len
 have hlt := hnd.lt
 refine Y.calls 39 Try.func36 rfl rfl ?_
 intro ac F0
 have F : Fr ac 39 [(0, .agg #[.int .i64 gr, .int .i64 hold, .slice na n nc]), (1, .int .i64 k)] := F0.sub _
 clear F0
 refine Y.seq ?_
 refine Y.lit (by kernel_rfl) ?_
 refine Y.pval F (X.w0 rfl) rfl (X.box rfl (F.ev 0 (.agg #[.int .i64 gr, .int .i64 hold, .slice na n nc])) X.bx) ?_
 clear F ac
 intro ac F
 have g := Gr.alloc w (.cells #[.int .i64 gr, .int .i64 hold, .slice na n nc] 24)
 have hb := heap_alloc_new w (.cells #[.int .i64 gr, .int .i64 hold, .slice na n nc] 24)
 have hbl : w.heap.size < (w.alloc (.cells #[.int .i64 gr, .int .i64 hold, .slice na n nc] 24)).heap.size := by simp
 have hC2 : RCells (w.alloc (.cells #[.int .i64 gr, .int .i64 hold, .slice na n nc] 24)) [(⟨w.heap.size, 0, none⟩, .int .i64 gr), (⟨w.heap.size, 1, none⟩, .int .i64 hold), (⟨w.heap.size, 2, none⟩, .slice na n nc)] := (RCells.nil w).box (b := w.heap.size) #[.int .i64 gr, .int .i64 hold, .slice na n nc] 24 rfl
 generalize w.alloc (.cells #[.int .i64 gr, .int .i64 hold, .slice na n nc] 24) = w3 at *
 replace G := G.trans g
 have hC := hC2
 clear hC2
 replace hnd := hnd.gr g
 clear g hb hbl
 refine Y.pval F (X.w0 rfl) rfl (X.assign rfl (X.kc (.int .i64 0) rfl)) ?_
 clear F ac
 intro ac F
 refine Y.pval F (X.w0 rfl) rfl (X.assign rfl (X.kc (.int .i64 0) rfl)) ?_
 clear F ac
 intro ac F
 refine Y.nil ?_
 replace F : Fr ac 39 [(0, .agg #[.int .i64 gr, .int .i64 hold, .slice na n nc]), (1, .int .i64 k), (2, .pointer (some ⟨w.heap.size, 0, none⟩)), (4, .int .i64 0), (5, .int .i64 0)] := F.sub _
 refine X.thenN ?_
 refine Y.seq ?_
 refine Y.seq ?_
 refine Y.lit (by kernel_rfl) ?_
 refine Y.pval F (X.w0 rfl) rfl (X.load rfl (F.ev 2 (.pointer (some ⟨w.heap.size, 0, none⟩))) (X.ldN (Try.agg24 _) (Try.siz24 _) (Y.atz (⟨w.heap.size, 0, none⟩) (Y.AtFrom.cons (hC.at 0 rfl) (Y.AtFrom.cons (hC.at 1 rfl) (Y.AtFrom.cons (hC.at 2 rfl) (Y.AtFrom.nil _ _ _))))))) ?_
 clear F ac
 intro ac F
 refine Y.pcall F (X.w0 rfl) rfl (X.enter (F := 25) rfl (X.kc (.func (.func 25) #[] #[]) rfl) (X.a1 (F.ev 9 (.agg #[.int .i64 gr, .int .i64 hold, .slice na n nc]))) (enters_of Try.func25 (by kernel_rfl) rfl _)) (check_any na n nc gr hold nd w3 hnd) ?_
 clear F ac
 rintro e w4 ⟨rfl, g⟩
 refine ⟨_, rfl, ?_⟩
 intro ac F
 replace G := G.trans g
 replace hC := hC.gr g
 replace hnd := hnd.gr g
 clear g
 refine Y.pval F (X.w0 rfl) rfl (X.assign rfl (F.ev 10 (.int .i64 (cluE gr hold nd)))) ?_
 clear F ac
 intro ac F
 refine Y.nil ?_
 replace F : Fr ac 39 [(0, .agg #[.int .i64 gr, .int .i64 hold, .slice na n nc]), (1, .int .i64 k), (2, .pointer (some ⟨w.heap.size, 0, none⟩)), (4, .int .i64 0), (5, .int .i64 0), (6, .int .i64 (cluE gr hold nd))] := F.sub _
 refine X.thenN ?_
 refine Y.seq ?_
 refine Y.lit (by kernel_rfl) ?_
 refine Y.pval F (X.w0 rfl) rfl (X.move rfl (F.ev 6 (.int .i64 (cluE gr hold nd)))) ?_
 clear F ac
 intro ac F
 refine Y.pval F (X.w0 rfl) rfl (X.binop rfl (F.ev 11 (.int .i64 (cluE gr hold nd))) (X.kc (.int .i64 0) rfl) (X.neqI Try.underlying26 rfl)) ?_
 clear F ac
 intro ac F
 refine Y.nil ?_
 replace F : Fr ac 39 [(0, .agg #[.int .i64 gr, .int .i64 hold, .slice na n nc]), (1, .int .i64 k), (2, .pointer (some ⟨w.heap.size, 0, none⟩)), (4, .int .i64 0), (5, .int .i64 0), (6, .int .i64 (cluE gr hold nd)), (12, .bool ((cluE gr hold nd : Int) != 0))] := F.sub _
 refine X.thenN ?_
 cases h5 : ((cluE gr hold nd : Int) != 0) with
 | false =>
  try rw [h5] at F
  have h5p : (cluE gr hold nd : Int) = 0 := by simpa using h5
  have hE : cluE gr hold nd = 0 := by simpa using h5p
  have hc := cluE_ok hE
  have hg1 := hc.g1
  have hg8 := hc.g8
  have h16 : n ≤ 16 := by have := hc.n16; omega
  have hh1 := hc.h1
  have hh2 := hc.h100
  have hsh := shl_le8 (g := gr) (by omega) (by omega)
  have hshn := shl_le8 (g := (n : Int)) (by omega) (by omega)
  refine Y.condF (F.ev 12 (.bool false)) ?_
  refine Y.skip ?_
  refine X.thenN ?_
  refine Y.seq ?_
  refine Y.seq ?_
  refine Y.lit (by kernel_rfl) ?_
  refine Y.pval F (X.w0 rfl) rfl (X.move rfl (F.ev 1 (.int .i64 k))) ?_
  clear F ac
  intro ac F
  refine Y.pval F (X.w0 rfl) rfl (X.field rfl (F.ev 2 (.pointer (some ⟨w.heap.size, 0, none⟩))) (X.fld Try.underlying24 rfl (Try.siz3 _) rfl rfl)) ?_
  clear F ac
  intro ac F
  refine Y.pval F (X.w0 rfl) rfl (X.load rfl (F.ev 15 (.pointer (some ⟨w.heap.size, 0, none⟩))) (X.ld1 (Try.agg3 _) (hC.at 0 rfl))) ?_
  clear F ac
  intro ac F
  refine Y.pval F (X.w0 rfl) rfl (X.binop rfl (F.ev 16 (.int .i64 gr)) (X.kc (.int .i64 1) rfl) (X.subI Try.underlying3 rfl (by omega) (by omega))) ?_
  clear F ac
  intro ac F
  refine Y.pcall F (X.w0 rfl) rfl (X.enter (F := 54) rfl (X.kc (.func (.func 54) #[] #[]) rfl) (X.a3 (F.ev 14 (.int .i64 k)) (X.kc (.int .i64 0) rfl) (F.ev 17 (.int .i64 ((gr : Int) - 1)))) (enters_of Try.func54 (by kernel_rfl) rfl _)) (within_any k 0 ((gr : Int) - 1) w4) ?_
  clear F ac
  rintro e w' ⟨rfl, hw_⟩
  obtain rfl : w4 = w' := hw_.symm
  clear hw_
  refine ⟨_, rfl, ?_⟩
  intro ac F
  refine Y.pval F (X.w0 rfl) rfl (X.notB rfl (F.ev 18 (.bool (withinB k 0 ((gr : Int) - 1)))) rfl) ?_
  clear F ac
  intro ac F
  refine Y.nil ?_
  replace F : Fr ac 39 [(0, .agg #[.int .i64 gr, .int .i64 hold, .slice na n nc]), (1, .int .i64 k), (2, .pointer (some ⟨w.heap.size, 0, none⟩)), (4, .int .i64 0), (5, .int .i64 0), (6, .int .i64 (cluE gr hold nd)), (12, .bool false), (19, .bool (!(withinB k 0 ((gr : Int) - 1))))] := F.sub _
  refine X.thenN ?_
  cases h6 : withinB k 0 ((gr : Int) - 1) with
  | false =>
   try rw [h6] at F
   have hW := h6
   refine Y.condT (F.ev 19 (.bool true)) ?_
   refine Y.seq ?_
   refine Y.lit (by kernel_rfl) ?_
   refine Y.pval F (X.w0 rfl) rfl (X.assign rfl (X.kc (.int .i64 0) rfl)) ?_
   clear F ac
   intro ac F
   refine Y.pval F (X.w0 rfl) rfl (X.assign rfl (X.kc (.int .i64 1) rfl)) ?_
   clear F ac
   intro ac F
   refine Y.nil ?_
   replace F : Fr ac 39 [(0, .agg #[.int .i64 gr, .int .i64 hold, .slice na n nc]), (1, .int .i64 k), (2, .pointer (some ⟨w.heap.size, 0, none⟩)), (4, .int .i64 0), (5, .int .i64 1), (6, .int .i64 (cluE gr hold nd)), (12, .bool false), (19, .bool true)] := F.sub _
   refine X.thenN ?_
   refine Y.ret ?_
   refine X.thenR ?_
   have eE : memE gr hold nd k = 1 := by rw [memE, if_neg (fun h => h hE), hW]; rfl
   exact Y.ret0 (v := .tuple #[.int .i64 0, .int .i64 1]) F (Y.rs2 F rfl (by kernel_rfl) (by kernel_rfl)) ⟨by rw [memR, eE]; rfl, G⟩
  | true =>
   try rw [h6] at F
   have hW := h6
   have hW2 := withinB_ok hW
   refine Y.condF (F.ev 19 (.bool false)) ?_
   refine Y.skip ?_
   refine X.thenN ?_
   refine Y.seq ?_
   refine Y.seq ?_
   refine Y.lit (by kernel_rfl) ?_
   refine Y.pval F (X.w0 rfl) rfl (X.field rfl (F.ev 2 (.pointer (some ⟨w.heap.size, 0, none⟩))) (X.fld Try.underlying24 rfl (Try.siz22 _) rfl rfl)) ?_
   clear F ac
   intro ac F
   refine Y.pval F (X.w0 rfl) rfl (X.load rfl (F.ev 20 (.pointer (some ⟨w.heap.size, 2, none⟩))) (X.ld1 (Try.agg22 _) (hC.at 2 rfl))) ?_
   clear F ac
   intro ac F
   refine Y.pval F (X.w0 rfl) rfl (X.len1 Try.underlying22 rfl (F.ev 21 (.slice na n nc))) ?_
   clear F ac
   intro ac F
   refine Y.pval F (X.w0 rfl) rfl (X.move rfl (X.kc (.int .i64 0) rfl)) ?_
   clear F ac
   intro ac F
   refine Y.nil ?_
   replace F : Fr ac 39 [(0, .agg #[.int .i64 gr, .int .i64 hold, .slice na n nc]), (1, .int .i64 k), (2, .pointer (some ⟨w.heap.size, 0, none⟩)), (4, .int .i64 0), (5, .int .i64 0), (6, .int .i64 (cluE gr hold nd)), (12, .bool false), (19, .bool false), (21, .slice na n nc), (22, .int .i64 n), (23, .int .i64 0)] := F.sub _
   refine X.thenN ?_
   refine Y.block ?_
   have hndB := hnd
   have hCB := hC
   have GB := G
   refine Y.loop (fun me_ ac wr => ∃ (i : Nat), me_ = n - i ∧ Gr w4 wr ∧ i ≤ n ∧ Fr ac 39 [(0, .agg #[.int .i64 gr, .int .i64 hold, .slice na n nc]), (1, .int .i64 k), (2, .pointer (some ⟨w.heap.size, 0, none⟩)), (4, .int .i64 (memV nd k i)), (5, .int .i64 0), (6, .int .i64 (cluE gr hold nd)), (12, .bool false), (19, .bool false), (21, .slice na n nc), (22, .int .i64 n), (23, .int .i64 i)]) _ ⟨0, rfl, Gr.refl _, Nat.zero_le _, F.sub _⟩ ?_
   clear F
   intro me_ ac w7 hI
   obtain ⟨i, rfl, gr, hi, F⟩ := hI
   replace G := GB.trans gr
   replace hC := hCB.gr gr
   replace hnd := hndB.gr gr
   have GB_ := gr
   clear gr
   refine Y.seq ?_
   refine Y.lit (by kernel_rfl) ?_
   refine Y.pval F (X.w0 rfl) rfl (X.binop rfl (F.ev 23 (.int .i64 i)) (F.ev 22 (.int .i64 n)) (X.lssI Try.underlying3 rfl)) ?_
   clear F ac
   intro ac F
   refine Y.nil ?_
   replace F : Fr ac 39 [(0, .agg #[.int .i64 gr, .int .i64 hold, .slice na n nc]), (1, .int .i64 k), (2, .pointer (some ⟨w.heap.size, 0, none⟩)), (4, .int .i64 (memV nd k i)), (5, .int .i64 0), (6, .int .i64 (cluE gr hold nd)), (12, .bool false), (19, .bool false), (21, .slice na n nc), (22, .int .i64 n), (23, .int .i64 i), (24, .bool (decide ((i : Int) < n)))] := F.sub _
   refine X.thenN ?_
   refine Y.seq ?_
   cases h8 : decide ((i : Int) < n) with
   | false =>
    try rw [h8] at F
    have h8p : ¬ ((i : Int) < n) := of_decide_eq_false h8
    obtain rfl : n = i := by omega
    refine Y.condF (F.ev 24 (.bool false)) ?_
    refine Y.exit ?_
    refine X.thenX ?_
    refine X.thenX ?_
    refine X.blockX ?_
    refine X.thenN ?_
    refine Y.seq ?_
    refine Y.lit (by kernel_rfl) ?_
    refine Y.pval F (X.w0 rfl) rfl (X.move rfl (F.ev 4 (.int .i64 (memV nd k n)))) ?_
    clear F ac
    intro ac F
    refine Y.pval F (X.w0 rfl) rfl (X.assign rfl (F.ev 38 (.int .i64 (memV nd k n)))) ?_
    clear F ac
    intro ac F
    refine Y.pval F (X.w0 rfl) rfl (X.assign rfl (X.kc (.int .i64 0) rfl)) ?_
    clear F ac
    intro ac F
    refine Y.nil ?_
    replace F : Fr ac 39 [(0, .agg #[.int .i64 gr, .int .i64 hold, .slice na n nc]), (1, .int .i64 k), (2, .pointer (some ⟨w.heap.size, 0, none⟩)), (4, .int .i64 (memV nd k n)), (5, .int .i64 0), (6, .int .i64 (cluE gr hold nd)), (12, .bool false), (19, .bool false), (21, .slice na n nc), (22, .int .i64 n), (23, .int .i64 n), (24, .bool false)] := F.sub _
    refine X.thenN ?_
    refine Y.ret ?_
    have eE : memE gr hold nd k = 0 := by rw [memE, if_neg (fun h => h hE), hW]; rfl
    exact Y.ret0 (v := .tuple #[.int .i64 (memV nd k n), .int .i64 0]) F (Y.rs2 F rfl (by kernel_rfl) (by kernel_rfl)) ⟨by rw [memR, eE, if_pos rfl, hlen], G⟩
   | true =>
    try rw [h8] at F
    have h8p : ((i : Int) < n) := of_decide_eq_true h8
    have hgi := hc.gro i (by omega)
    have hi2 : i < n := by omega
    refine Y.condT (F.ev 24 (.bool true)) ?_
    refine Y.skip ?_
    refine X.thenN ?_
    refine Y.seq ?_
    refine Y.block ?_
    refine Y.seq ?_
    refine Y.lit (by kernel_rfl) ?_
    refine Y.pval F (X.w0 rfl) rfl (X.move rfl (F.ev 23 (.int .i64 i))) ?_
    clear F ac
    intro ac F
    obtain ⟨pd9, pe9, -, -, pc9⟩ := hnd.at (j := i) (by omega)
    subst pe9
    replace hC : RCells w7 [(⟨w.heap.size, 0, none⟩, .int .i64 gr), (⟨w.heap.size, 1, none⟩, .int .i64 hold), (⟨w.heap.size, 2, none⟩, .slice (some pd9) n nc), (pd9.add (i * 5), .int .i64 (cv nd i 0)), (⟨(pd9.add (i * 5)).block, (pd9.add (i * 5)).off + 1, none⟩, .int .i64 (cv nd i 1)), (⟨(pd9.add (i * 5)).block, (pd9.add (i * 5)).off + 2, none⟩, .int .i64 (cv nd i 2)), (⟨(pd9.add (i * 5)).block, (pd9.add (i * 5)).off + 3, none⟩, .int .i64 (cv nd i 3)), (⟨(pd9.add (i * 5)).block, (pd9.add (i * 5)).off + 4, none⟩, .int .i64 (cv nd i 4))] := hC.append ((RCells.cons (pc9 0 (by decide)) (RCells.cons (pc9 1 (by decide)) (RCells.cons (pc9 2 (by decide)) (RCells.cons (pc9 3 (by decide)) (RCells.cons (pc9 4 (by decide)) (RCells.nil _)))))))
    clear pc9
    refine Y.pval F (X.w0 rfl) rfl (X.index rfl (F.ev 21 (.slice (some pd9) n nc)) (F.ev 23 (.int .i64 i)) (X.idx (k := i) Try.underlying22 (Try.siz31 _) (by omega) (by omega) rfl)) ?_
    clear F ac
    intro ac F
    refine Y.pval F (X.w0 rfl) rfl (X.load rfl (F.ev 26 (.pointer (some (pd9.add (i * 5))))) (X.ldN (Try.agg31 _) (Try.siz31 _) (Y.atz (pd9.add (i * 5)) (Y.AtFrom.cons (hC.at 3 rfl) (Y.AtFrom.cons (hC.at 4 rfl) (Y.AtFrom.cons (hC.at 5 rfl) (Y.AtFrom.cons (hC.at 6 rfl) (Y.AtFrom.cons (hC.at 7 rfl) (Y.AtFrom.nil _ _ _))))))))) ?_
    clear F ac
    intro ac F
    refine Y.pval F (X.w0 rfl) rfl (Y.al rfl (Try.new31 _)) ?_
    clear F ac
    intro ac F
    refine Y.pval F (X.w0 rfl) rfl (X.assign rfl (F.ev 25 (.int .i64 i))) ?_
    clear F ac
    intro ac F
    refine Y.punit F (X.w0 rfl) rfl (X.store rfl (F.ev 8 (.pointer (some ⟨w7.heap.size, 0, none⟩))) (F.ev 27 (.agg #[.int .i64 (cv nd i 0), .int .i64 (cv nd i 1), .int .i64 (cv nd i 2), .int .i64 (cv nd i 3), .int .i64 (cv nd i 4)])) (Y.stNew [.int .i64 (cv nd i 0), .int .i64 (cv nd i 1), .int .i64 (cv nd i 2), .int .i64 (cv nd i 3), .int .i64 (cv nd i 4)] [.int .i64 0, .int .i64 0, .int .i64 0, .int .i64 0, .int .i64 0] (Try.siz31 _) rfl rfl)) ?_
    clear F ac
    intro ac F
    have g := Gr.alloc w7 (.cells #[.int .i64 (cv nd i 0), .int .i64 (cv nd i 1), .int .i64 (cv nd i 2), .int .i64 (cv nd i 3), .int .i64 (cv nd i 4)] 31)
    have hb := heap_alloc_new w7 (.cells #[.int .i64 (cv nd i 0), .int .i64 (cv nd i 1), .int .i64 (cv nd i 2), .int .i64 (cv nd i 3), .int .i64 (cv nd i 4)] 31)
    have hbl : w7.heap.size < (w7.alloc (.cells #[.int .i64 (cv nd i 0), .int .i64 (cv nd i 1), .int .i64 (cv nd i 2), .int .i64 (cv nd i 3), .int .i64 (cv nd i 4)] 31)).heap.size := by simp
    have hC2 : RCells (w7.alloc (.cells #[.int .i64 (cv nd i 0), .int .i64 (cv nd i 1), .int .i64 (cv nd i 2), .int .i64 (cv nd i 3), .int .i64 (cv nd i 4)] 31)) [(⟨w.heap.size, 0, none⟩, .int .i64 gr), (⟨w.heap.size, 1, none⟩, .int .i64 hold), (⟨w.heap.size, 2, none⟩, .slice (some pd9) n nc), (pd9.add (i * 5), .int .i64 (cv nd i 0)), (⟨(pd9.add (i * 5)).block, (pd9.add (i * 5)).off + 1, none⟩, .int .i64 (cv nd i 1)), (⟨(pd9.add (i * 5)).block, (pd9.add (i * 5)).off + 2, none⟩, .int .i64 (cv nd i 2)), (⟨(pd9.add (i * 5)).block, (pd9.add (i * 5)).off + 3, none⟩, .int .i64 (cv nd i 3)), (⟨(pd9.add (i * 5)).block, (pd9.add (i * 5)).off + 4, none⟩, .int .i64 (cv nd i 4)), (⟨w7.heap.size, 0, none⟩, .int .i64 (cv nd i 0)), (⟨w7.heap.size, 1, none⟩, .int .i64 (cv nd i 1)), (⟨w7.heap.size, 2, none⟩, .int .i64 (cv nd i 2)), (⟨w7.heap.size, 3, none⟩, .int .i64 (cv nd i 3)), (⟨w7.heap.size, 4, none⟩, .int .i64 (cv nd i 4))] := hC.box (b := w7.heap.size) #[.int .i64 (cv nd i 0), .int .i64 (cv nd i 1), .int .i64 (cv nd i 2), .int .i64 (cv nd i 3), .int .i64 (cv nd i 4)] 31 rfl
    generalize w7.alloc (.cells #[.int .i64 (cv nd i 0), .int .i64 (cv nd i 1), .int .i64 (cv nd i 2), .int .i64 (cv nd i 3), .int .i64 (cv nd i 4)] 31) = w10 at *
    replace G := G.trans g
    replace hC := hC2
    clear hC2
    replace GB_ := GB_.trans g
    replace hnd := hnd.gr g
    clear g hb hbl
    refine Y.nil ?_
    replace F : Fr ac 39 [(0, .agg #[.int .i64 gr, .int .i64 hold, .slice (some pd9) n nc]), (1, .int .i64 k), (2, .pointer (some ⟨w.heap.size, 0, none⟩)), (4, .int .i64 (memV nd k i)), (5, .int .i64 0), (6, .int .i64 (cluE gr hold nd)), (7, .int .i64 i), (8, .pointer (some ⟨w7.heap.size, 0, none⟩)), (12, .bool false), (19, .bool false), (21, .slice (some pd9) n nc), (22, .int .i64 n), (23, .int .i64 i), (24, .bool true)] := F.sub _
    refine X.thenN ?_
    refine Y.lit (by kernel_rfl) ?_
    refine Y.pval F (X.w0 rfl) rfl (X.move rfl (F.ev 4 (.int .i64 (memV nd k i)))) ?_
    clear F ac
    intro ac F
    refine Y.pval F (X.w0 rfl) rfl (X.field rfl (F.ev 8 (.pointer (some ⟨w7.heap.size, 0, none⟩))) (X.fld Try.underlying31 rfl (Try.siz3 _) rfl rfl)) ?_
    clear F ac
    intro ac F
    refine Y.pval F (X.w0 rfl) rfl (X.load rfl (F.ev 29 (.pointer (some ⟨w7.heap.size, 0, none⟩))) (X.ld1 (Try.agg3 _) (hC.at 8 rfl))) ?_
    clear F ac
    intro ac F
    refine Y.pval F (X.w0 rfl) rfl (X.move rfl (F.ev 1 (.int .i64 k))) ?_
    clear F ac
    intro ac F
    refine Y.pval F (X.w0 rfl) rfl (X.binop rfl (F.ev 30 (.int .i64 (cv nd i 0))) (F.ev 31 (.int .i64 k)) (X.shrI Try.underlying3 rfl (by omega))) ?_
    clear F ac
    intro ac F
    refine Y.pval F (X.w0 rfl) rfl (X.binop rfl (F.ev 32 (.int .i64 (shrV (cv nd i 0 : Int) (k : Int)))) (X.kc (.int .i64 1) rfl) (X.andI Try.underlying3 rfl)) ?_
    clear F ac
    intro ac F
    refine Y.pval F (X.w0 rfl) rfl (X.move rfl (F.ev 7 (.int .i64 i))) ?_
    clear F ac
    intro ac F
    refine Y.pval F (X.w0 rfl) rfl (X.binop rfl (F.ev 33 (.int .i64 (andV (shrV (cv nd i 0 : Int) (k : Int) : Int) 1))) (F.ev 34 (.int .i64 i)) (X.shlI Try.underlying3 rfl (by omega))) ?_
    clear F ac
    intro ac F
    refine Y.pval F (X.w0 rfl) rfl (X.binop rfl (F.ev 28 (.int .i64 (memV nd k i))) (F.ev 35 (.int .i64 (shlV (andV (shrV (cv nd i 0 : Int) (k : Int) : Int) 1 : Int) (i : Int)))) (X.orI Try.underlying3 rfl)) ?_
    clear F ac
    intro ac F
    refine Y.pval F (X.w0 rfl) rfl (X.assign rfl (F.ev 36 (.int .i64 (orV (memV nd k i : Int) (shlV (andV (shrV (cv nd i 0 : Int) (k : Int) : Int) 1 : Int) (i : Int) : Int))))) ?_
    clear F ac
    intro ac F
    refine Y.nil ?_
    replace F : Fr ac 39 [(0, .agg #[.int .i64 gr, .int .i64 hold, .slice (some pd9) n nc]), (1, .int .i64 k), (2, .pointer (some ⟨w.heap.size, 0, none⟩)), (4, .int .i64 (orV (memV nd k i : Int) (shlV (andV (shrV (cv nd i 0 : Int) (k : Int) : Int) 1 : Int) (i : Int) : Int))), (5, .int .i64 0), (6, .int .i64 (cluE gr hold nd)), (7, .int .i64 i), (8, .pointer (some ⟨w7.heap.size, 0, none⟩)), (12, .bool false), (19, .bool false), (21, .slice (some pd9) n nc), (22, .int .i64 n), (23, .int .i64 i), (24, .bool true)] := F.sub _
    refine X.blockN ?_
    refine X.thenN ?_
    refine Y.lit (by kernel_rfl) ?_
    refine Y.pval F (X.w0 rfl) rfl (X.binop rfl (F.ev 23 (.int .i64 i)) (X.kc (.int .i64 1) rfl) (X.addI Try.underlying3 rfl (by omega) (by omega))) ?_
    clear F ac
    intro ac F
    refine Y.pval F (X.w0 rfl) rfl (X.move rfl (F.ev 37 (.int .i64 ((i : Int) + 1)))) ?_
    clear F ac
    intro ac F
    refine Y.nil ?_
    replace F : Fr ac 39 [(0, .agg #[.int .i64 gr, .int .i64 hold, .slice (some pd9) n nc]), (1, .int .i64 k), (2, .pointer (some ⟨w.heap.size, 0, none⟩)), (4, .int .i64 (orV (memV nd k i : Int) (shlV (andV (shrV (cv nd i 0 : Int) (k : Int) : Int) 1 : Int) (i : Int) : Int))), (5, .int .i64 0), (6, .int .i64 (cluE gr hold nd)), (7, .int .i64 i), (8, .pointer (some ⟨w7.heap.size, 0, none⟩)), (12, .bool false), (19, .bool false), (21, .slice (some pd9) n nc), (22, .int .i64 n), (23, .int .i64 ((i : Int) + 1)), (24, .bool true)] := F.sub _
    refine X.thenN ?_
    refine ⟨_, ?_, i + 1, rfl, GB_, by omega, (by rw [← memV_step (by omega) hW2.1 hgi.1 (by omega)]; exact F.sub _)⟩
    omega
 | true =>
  try rw [h5] at F
  have h5p : ¬ (cluE gr hold nd : Int) = 0 := by simpa using h5
  have hE : ¬ cluE gr hold nd = 0 := by simpa using h5p
  refine Y.condT (F.ev 12 (.bool true)) ?_
  refine Y.seq ?_
  refine Y.lit (by kernel_rfl) ?_
  refine Y.pval F (X.w0 rfl) rfl (X.move rfl (F.ev 6 (.int .i64 (cluE gr hold nd)))) ?_
  clear F ac
  intro ac F
  refine Y.pval F (X.w0 rfl) rfl (X.assign rfl (X.kc (.int .i64 0) rfl)) ?_
  clear F ac
  intro ac F
  refine Y.pval F (X.w0 rfl) rfl (X.assign rfl (F.ev 13 (.int .i64 (cluE gr hold nd)))) ?_
  clear F ac
  intro ac F
  refine Y.nil ?_
  replace F : Fr ac 39 [(0, .agg #[.int .i64 gr, .int .i64 hold, .slice na n nc]), (1, .int .i64 k), (2, .pointer (some ⟨w.heap.size, 0, none⟩)), (4, .int .i64 0), (5, .int .i64 (cluE gr hold nd)), (6, .int .i64 (cluE gr hold nd)), (12, .bool true)] := F.sub _
  refine X.thenN ?_
  refine Y.ret ?_
  refine X.thenR ?_
  have eE : memE gr hold nd k = cluE gr hold nd := by rw [memE, if_pos hE]
  exact Y.ret0 (v := .tuple #[.int .i64 0, .int .i64 (cluE gr hold nd)]) F (Y.rs2 F rfl (by kernel_rfl) (by kernel_rfl)) ⟨by rw [memR, eE, if_neg hE], G⟩
end
section
open Go.RowKit

set_option maxRecDepth 100000 in
set_option maxHeartbeats 1000000 in
theorem current_any (na : Option Addr) (n nc : Nat) (gr hold need set : Int) (nd : List (List Int)) (w : World) (hnd : StAt w 5 na n nd) (hc : CluOk gr hold nd) :
  Calls Try.prog 65 #[.agg #[.int .i64 gr, .int .i64 hold, .slice na n nc], .int .i64 need, .int .i64 set] w fun e w' => e = .returned (.tuple #[.int .i64 (if allC nd need set nd.length then sumC nd set nd.length else 0), .bool (allC nd need set nd.length)]) ∧ Gr w w' := by
 have G := Gr.refl w
 have hlen := hnd.len
 have hlt := hnd.lt
 have h16 := hc.n16
 refine Y.calls 40 Try.func65 rfl rfl ?_
 intro ac F0
 have F : Fr ac 40 [(0, .agg #[.int .i64 gr, .int .i64 hold, .slice na n nc]), (1, .int .i64 need), (2, .int .i64 set)] := F0.sub _
 clear F0
 refine Y.seq ?_
 refine Y.lit (by kernel_rfl) ?_
 refine Y.pval F (X.w0 rfl) rfl (X.box rfl (F.ev 0 (.agg #[.int .i64 gr, .int .i64 hold, .slice na n nc])) X.bx) ?_
 clear F ac
 intro ac F
 have g := Gr.alloc w (.cells #[.int .i64 gr, .int .i64 hold, .slice na n nc] 24)
 have hb := heap_alloc_new w (.cells #[.int .i64 gr, .int .i64 hold, .slice na n nc] 24)
 have hbl : w.heap.size < (w.alloc (.cells #[.int .i64 gr, .int .i64 hold, .slice na n nc] 24)).heap.size := by simp
 have hC2 : RCells (w.alloc (.cells #[.int .i64 gr, .int .i64 hold, .slice na n nc] 24)) [(⟨w.heap.size, 0, none⟩, .int .i64 gr), (⟨w.heap.size, 1, none⟩, .int .i64 hold), (⟨w.heap.size, 2, none⟩, .slice na n nc)] := (RCells.nil w).box (b := w.heap.size) #[.int .i64 gr, .int .i64 hold, .slice na n nc] 24 rfl
 generalize w.alloc (.cells #[.int .i64 gr, .int .i64 hold, .slice na n nc] 24) = w3 at *
 replace G := G.trans g
 have hC := hC2
 clear hC2
 replace hnd := hnd.gr g
 clear g hb hbl
 refine Y.pval F (X.w0 rfl) rfl (X.assign rfl (X.kc (.int .i64 0) rfl)) ?_
 clear F ac
 intro ac F
 refine Y.pval F (X.w0 rfl) rfl (X.assign rfl (X.kc (.bool false) rfl)) ?_
 clear F ac
 intro ac F
 refine Y.nil ?_
 replace F : Fr ac 40 [(0, .agg #[.int .i64 gr, .int .i64 hold, .slice na n nc]), (1, .int .i64 need), (2, .int .i64 set), (3, .pointer (some ⟨w.heap.size, 0, none⟩)), (6, .int .i64 0), (7, .bool false)] := F.sub _
 refine X.thenN ?_
 refine Y.seq ?_
 refine Y.seq ?_
 refine Y.lit (by kernel_rfl) ?_
 refine Y.pval F (X.w0 rfl) rfl (X.field rfl (F.ev 3 (.pointer (some ⟨w.heap.size, 0, none⟩))) (X.fld Try.underlying24 rfl (Try.siz22 _) rfl rfl)) ?_
 clear F ac
 intro ac F
 refine Y.pval F (X.w0 rfl) rfl (X.load rfl (F.ev 10 (.pointer (some ⟨w.heap.size, 2, none⟩))) (X.ld1 (Try.agg22 _) (hC.at 2 rfl))) ?_
 clear F ac
 intro ac F
 refine Y.pval F (X.w0 rfl) rfl (X.len1 Try.underlying22 rfl (F.ev 11 (.slice na n nc))) ?_
 clear F ac
 intro ac F
 refine Y.pval F (X.w0 rfl) rfl (X.move rfl (X.kc (.int .i64 0) rfl)) ?_
 clear F ac
 intro ac F
 refine Y.nil ?_
 replace F : Fr ac 40 [(0, .agg #[.int .i64 gr, .int .i64 hold, .slice na n nc]), (1, .int .i64 need), (2, .int .i64 set), (3, .pointer (some ⟨w.heap.size, 0, none⟩)), (6, .int .i64 0), (7, .bool false), (11, .slice na n nc), (12, .int .i64 n), (13, .int .i64 0)] := F.sub _
 refine X.thenN ?_
 refine Y.block ?_
 have hndB := hnd
 have hCB := hC
 have GB := G
 refine Y.loop (fun me_ ac wr => ∃ (i : Nat), me_ = n - i ∧ Gr w3 wr ∧ i ≤ n ∧ allC nd need set i = true ∧ Fr ac 40 [(0, .agg #[.int .i64 gr, .int .i64 hold, .slice na n nc]), (1, .int .i64 need), (2, .int .i64 set), (3, .pointer (some ⟨w.heap.size, 0, none⟩)), (6, .int .i64 (sumC nd set i)), (11, .slice na n nc), (12, .int .i64 n), (13, .int .i64 i)]) _ ⟨0, rfl, Gr.refl _, Nat.zero_le _, rfl, F.sub _⟩ ?_
 clear F
 intro me_ ac w4 hI
 obtain ⟨i, rfl, gr, hi, hall, F⟩ := hI
 replace G := GB.trans gr
 replace hC := hCB.gr gr
 replace hnd := hndB.gr gr
 have GB_ := gr
 clear gr
 refine Y.seq ?_
 refine Y.lit (by kernel_rfl) ?_
 refine Y.pval F (X.w0 rfl) rfl (X.binop rfl (F.ev 13 (.int .i64 i)) (F.ev 12 (.int .i64 n)) (X.lssI Try.underlying3 rfl)) ?_
 clear F ac
 intro ac F
 refine Y.nil ?_
 replace F : Fr ac 40 [(0, .agg #[.int .i64 gr, .int .i64 hold, .slice na n nc]), (1, .int .i64 need), (2, .int .i64 set), (3, .pointer (some ⟨w.heap.size, 0, none⟩)), (6, .int .i64 (sumC nd set i)), (11, .slice na n nc), (12, .int .i64 n), (13, .int .i64 i), (14, .bool (decide ((i : Int) < n)))] := F.sub _
 refine X.thenN ?_
 refine Y.seq ?_
 cases h5 : decide ((i : Int) < n) with
 | false =>
  try rw [h5] at F
  have h5p : ¬ ((i : Int) < n) := of_decide_eq_false h5
  obtain rfl : n = i := by omega
  refine Y.condF (F.ev 14 (.bool false)) ?_
  refine Y.exit ?_
  refine X.thenX ?_
  refine X.thenX ?_
  refine X.blockX ?_
  refine X.thenN ?_
  refine Y.seq ?_
  refine Y.lit (by kernel_rfl) ?_
  refine Y.pval F (X.w0 rfl) rfl (X.move rfl (F.ev 6 (.int .i64 (sumC nd set n)))) ?_
  clear F ac
  intro ac F
  refine Y.pval F (X.w0 rfl) rfl (X.assign rfl (F.ev 39 (.int .i64 (sumC nd set n)))) ?_
  clear F ac
  intro ac F
  refine Y.pval F (X.w0 rfl) rfl (X.assign rfl (X.kc (.bool true) rfl)) ?_
  clear F ac
  intro ac F
  refine Y.nil ?_
  replace F : Fr ac 40 [(0, .agg #[.int .i64 gr, .int .i64 hold, .slice na n nc]), (1, .int .i64 need), (2, .int .i64 set), (3, .pointer (some ⟨w.heap.size, 0, none⟩)), (6, .int .i64 (sumC nd set n)), (7, .bool true), (11, .slice na n nc), (12, .int .i64 n), (13, .int .i64 n), (14, .bool false)] := F.sub _
  refine X.thenN ?_
  refine Y.ret ?_
  exact Y.ret0 (v := .tuple #[.int .i64 (sumC nd set n), .bool true]) F (Y.rs2 F rfl (by kernel_rfl) (by kernel_rfl)) ⟨by rw [hlen, hall]; rfl, G⟩
 | true =>
  try rw [h5] at F
  have h5p : ((i : Int) < n) := of_decide_eq_true h5
  have hi2 : i < n := by omega
  have hsb := sumC_bd hc set i (by omega)
  have ha := hc.awk i (by omega)
  have hb := hc.asl i (by omega)
  refine Y.condT (F.ev 14 (.bool true)) ?_
  refine Y.skip ?_
  refine X.thenN ?_
  refine Y.seq ?_
  refine Y.block ?_
  refine Y.seq ?_
  refine Y.lit (by kernel_rfl) ?_
  refine Y.pval F (X.w0 rfl) rfl (X.move rfl (F.ev 13 (.int .i64 i))) ?_
  clear F ac
  intro ac F
  obtain ⟨pd6, pe6, -, -, pc6⟩ := hnd.at (j := i) (by omega)
  subst pe6
  replace hC : RCells w4 [(⟨w.heap.size, 0, none⟩, .int .i64 gr), (⟨w.heap.size, 1, none⟩, .int .i64 hold), (⟨w.heap.size, 2, none⟩, .slice (some pd6) n nc), (pd6.add (i * 5), .int .i64 (cv nd i 0)), (⟨(pd6.add (i * 5)).block, (pd6.add (i * 5)).off + 1, none⟩, .int .i64 (cv nd i 1)), (⟨(pd6.add (i * 5)).block, (pd6.add (i * 5)).off + 2, none⟩, .int .i64 (cv nd i 2)), (⟨(pd6.add (i * 5)).block, (pd6.add (i * 5)).off + 3, none⟩, .int .i64 (cv nd i 3)), (⟨(pd6.add (i * 5)).block, (pd6.add (i * 5)).off + 4, none⟩, .int .i64 (cv nd i 4))] := hC.append ((RCells.cons (pc6 0 (by decide)) (RCells.cons (pc6 1 (by decide)) (RCells.cons (pc6 2 (by decide)) (RCells.cons (pc6 3 (by decide)) (RCells.cons (pc6 4 (by decide)) (RCells.nil _)))))))
  clear pc6
  refine Y.pval F (X.w0 rfl) rfl (X.index rfl (F.ev 11 (.slice (some pd6) n nc)) (F.ev 13 (.int .i64 i)) (X.idx (k := i) Try.underlying22 (Try.siz31 _) (by omega) (by omega) rfl)) ?_
  clear F ac
  intro ac F
  refine Y.pval F (X.w0 rfl) rfl (X.load rfl (F.ev 16 (.pointer (some (pd6.add (i * 5))))) (X.ldN (Try.agg31 _) (Try.siz31 _) (Y.atz (pd6.add (i * 5)) (Y.AtFrom.cons (hC.at 3 rfl) (Y.AtFrom.cons (hC.at 4 rfl) (Y.AtFrom.cons (hC.at 5 rfl) (Y.AtFrom.cons (hC.at 6 rfl) (Y.AtFrom.cons (hC.at 7 rfl) (Y.AtFrom.nil _ _ _))))))))) ?_
  clear F ac
  intro ac F
  refine Y.pval F (X.w0 rfl) rfl (Y.al rfl (Try.new31 _)) ?_
  clear F ac
  intro ac F
  refine Y.pval F (X.w0 rfl) rfl (X.assign rfl (F.ev 15 (.int .i64 i))) ?_
  clear F ac
  intro ac F
  refine Y.punit F (X.w0 rfl) rfl (X.store rfl (F.ev 9 (.pointer (some ⟨w4.heap.size, 0, none⟩))) (F.ev 17 (.agg #[.int .i64 (cv nd i 0), .int .i64 (cv nd i 1), .int .i64 (cv nd i 2), .int .i64 (cv nd i 3), .int .i64 (cv nd i 4)])) (Y.stNew [.int .i64 (cv nd i 0), .int .i64 (cv nd i 1), .int .i64 (cv nd i 2), .int .i64 (cv nd i 3), .int .i64 (cv nd i 4)] [.int .i64 0, .int .i64 0, .int .i64 0, .int .i64 0, .int .i64 0] (Try.siz31 _) rfl rfl)) ?_
  clear F ac
  intro ac F
  have g := Gr.alloc w4 (.cells #[.int .i64 (cv nd i 0), .int .i64 (cv nd i 1), .int .i64 (cv nd i 2), .int .i64 (cv nd i 3), .int .i64 (cv nd i 4)] 31)
  have hb := heap_alloc_new w4 (.cells #[.int .i64 (cv nd i 0), .int .i64 (cv nd i 1), .int .i64 (cv nd i 2), .int .i64 (cv nd i 3), .int .i64 (cv nd i 4)] 31)
  have hbl : w4.heap.size < (w4.alloc (.cells #[.int .i64 (cv nd i 0), .int .i64 (cv nd i 1), .int .i64 (cv nd i 2), .int .i64 (cv nd i 3), .int .i64 (cv nd i 4)] 31)).heap.size := by simp
  have hC2 : RCells (w4.alloc (.cells #[.int .i64 (cv nd i 0), .int .i64 (cv nd i 1), .int .i64 (cv nd i 2), .int .i64 (cv nd i 3), .int .i64 (cv nd i 4)] 31)) [(⟨w.heap.size, 0, none⟩, .int .i64 gr), (⟨w.heap.size, 1, none⟩, .int .i64 hold), (⟨w.heap.size, 2, none⟩, .slice (some pd6) n nc), (pd6.add (i * 5), .int .i64 (cv nd i 0)), (⟨(pd6.add (i * 5)).block, (pd6.add (i * 5)).off + 1, none⟩, .int .i64 (cv nd i 1)), (⟨(pd6.add (i * 5)).block, (pd6.add (i * 5)).off + 2, none⟩, .int .i64 (cv nd i 2)), (⟨(pd6.add (i * 5)).block, (pd6.add (i * 5)).off + 3, none⟩, .int .i64 (cv nd i 3)), (⟨(pd6.add (i * 5)).block, (pd6.add (i * 5)).off + 4, none⟩, .int .i64 (cv nd i 4)), (⟨w4.heap.size, 0, none⟩, .int .i64 (cv nd i 0)), (⟨w4.heap.size, 1, none⟩, .int .i64 (cv nd i 1)), (⟨w4.heap.size, 2, none⟩, .int .i64 (cv nd i 2)), (⟨w4.heap.size, 3, none⟩, .int .i64 (cv nd i 3)), (⟨w4.heap.size, 4, none⟩, .int .i64 (cv nd i 4))] := hC.box (b := w4.heap.size) #[.int .i64 (cv nd i 0), .int .i64 (cv nd i 1), .int .i64 (cv nd i 2), .int .i64 (cv nd i 3), .int .i64 (cv nd i 4)] 31 rfl
  generalize w4.alloc (.cells #[.int .i64 (cv nd i 0), .int .i64 (cv nd i 1), .int .i64 (cv nd i 2), .int .i64 (cv nd i 3), .int .i64 (cv nd i 4)] 31) = w7 at *
  replace G := G.trans g
  replace hC := hC2
  clear hC2
  replace GB_ := GB_.trans g
  replace hnd := hnd.gr g
  clear g hb hbl
  refine Y.nil ?_
  replace F : Fr ac 40 [(0, .agg #[.int .i64 gr, .int .i64 hold, .slice (some pd6) n nc]), (1, .int .i64 need), (2, .int .i64 set), (3, .pointer (some ⟨w.heap.size, 0, none⟩)), (6, .int .i64 (sumC nd set i)), (8, .int .i64 i), (9, .pointer (some ⟨w4.heap.size, 0, none⟩)), (11, .slice (some pd6) n nc), (12, .int .i64 n), (13, .int .i64 i), (14, .bool true)] := F.sub _
  refine X.thenN ?_
  refine Y.block ?_
  refine Y.seq ?_
  refine Y.lit (by kernel_rfl) ?_
  refine Y.pval F (X.w0 rfl) rfl (X.field rfl (F.ev 9 (.pointer (some ⟨w4.heap.size, 0, none⟩))) (X.fld Try.underlying31 rfl (Try.siz3 _) rfl rfl)) ?_
  clear F ac
  intro ac F
  refine Y.pval F (X.w0 rfl) rfl (X.load rfl (F.ev 23 (.pointer (some ⟨w4.heap.size, 0, none⟩))) (X.ld1 (Try.agg3 _) (hC.at 8 rfl))) ?_
  clear F ac
  intro ac F
  refine Y.pval F (X.w0 rfl) rfl (X.move rfl (F.ev 2 (.int .i64 set))) ?_
  clear F ac
  intro ac F
  refine Y.pval F (X.w0 rfl) rfl (X.binop rfl (F.ev 24 (.int .i64 (cv nd i 0))) (F.ev 25 (.int .i64 set)) (X.andI Try.underlying3 rfl)) ?_
  clear F ac
  intro ac F
  refine Y.pval F (X.w0 rfl) rfl (X.binop rfl (F.ev 26 (.int .i64 (andV (cv nd i 0 : Int) (set : Int)))) (X.kc (.int .i64 0) rfl) (X.neqI Try.underlying3 rfl)) ?_
  clear F ac
  intro ac F
  refine Y.pval F (X.w0 rfl) rfl (X.assign rfl (F.ev 27 (.bool ((andV (cv nd i 0 : Int) (set : Int) : Int) != 0)))) ?_
  clear F ac
  intro ac F
  refine Y.nil ?_
  replace F : Fr ac 40 [(0, .agg #[.int .i64 gr, .int .i64 hold, .slice (some pd6) n nc]), (1, .int .i64 need), (2, .int .i64 set), (3, .pointer (some ⟨w.heap.size, 0, none⟩)), (6, .int .i64 (sumC nd set i)), (8, .int .i64 i), (9, .pointer (some ⟨w4.heap.size, 0, none⟩)), (11, .slice (some pd6) n nc), (12, .int .i64 n), (13, .int .i64 i), (14, .bool true), (22, .bool ((andV (cv nd i 0 : Int) (set : Int) : Int) != 0))] := F.sub _
  refine X.thenN ?_
  cases h8 : ((andV (cv nd i 0 : Int) (set : Int) : Int) != 0) with
  | false =>
   try rw [h8] at F
   have h8p : (andV (cv nd i 0 : Int) (set : Int) : Int) = 0 := by simpa using h8
   refine Y.condF (F.ev 22 (.bool false)) ?_
   refine Y.seq ?_
   refine Y.lit (by kernel_rfl) ?_
   refine Y.pval F (X.w0 rfl) rfl (X.move rfl (F.ev 1 (.int .i64 need))) ?_
   clear F ac
   intro ac F
   refine Y.pval F (X.w0 rfl) rfl (X.move rfl (F.ev 8 (.int .i64 i))) ?_
   clear F ac
   intro ac F
   refine Y.pval F (X.w0 rfl) rfl (X.binop rfl (F.ev 33 (.int .i64 need)) (F.ev 34 (.int .i64 i)) (X.shrI Try.underlying3 rfl (by omega))) ?_
   clear F ac
   intro ac F
   refine Y.pval F (X.w0 rfl) rfl (X.binop rfl (F.ev 35 (.int .i64 (shrV (need : Int) (i : Int)))) (X.kc (.int .i64 1) rfl) (X.andI Try.underlying3 rfl)) ?_
   clear F ac
   intro ac F
   refine Y.pval F (X.w0 rfl) rfl (X.binop rfl (F.ev 36 (.int .i64 (andV (shrV (need : Int) (i : Int) : Int) 1))) (X.kc (.int .i64 1) rfl) (X.eqlI Try.underlying3 rfl)) ?_
   clear F ac
   intro ac F
   refine Y.pval F (X.w0 rfl) rfl (X.assign rfl (F.ev 37 (.bool ((andV (shrV (need : Int) (i : Int) : Int) 1 : Int) == 1)))) ?_
   clear F ac
   intro ac F
   refine Y.nil ?_
   replace F : Fr ac 40 [(0, .agg #[.int .i64 gr, .int .i64 hold, .slice (some pd6) n nc]), (1, .int .i64 need), (2, .int .i64 set), (3, .pointer (some ⟨w.heap.size, 0, none⟩)), (6, .int .i64 (sumC nd set i)), (8, .int .i64 i), (9, .pointer (some ⟨w4.heap.size, 0, none⟩)), (11, .slice (some pd6) n nc), (12, .int .i64 n), (13, .int .i64 i), (14, .bool true), (22, .bool false), (32, .bool ((andV (shrV (need : Int) (i : Int) : Int) 1 : Int) == 1))] := F.sub _
   refine X.thenN ?_
   cases h9 : ((andV (shrV (need : Int) (i : Int) : Int) 1 : Int) == 1) with
   | false =>
    try rw [h9] at F
    have h9p : ¬ (andV (shrV (need : Int) (i : Int) : Int) 1 : Int) = 1 := by simpa using h9
    refine Y.condF (F.ev 32 (.bool false)) ?_
    refine Y.lit (by kernel_rfl) ?_
    refine Y.pval F (X.w0 rfl) rfl (X.move rfl (F.ev 6 (.int .i64 (sumC nd set i)))) ?_
    clear F ac
    intro ac F
    refine Y.pval F (X.w0 rfl) rfl (X.field rfl (F.ev 9 (.pointer (some ⟨w4.heap.size, 0, none⟩))) (X.fld Try.underlying31 rfl (Try.siz3 _) rfl rfl)) ?_
    clear F ac
    intro ac F
    refine Y.pval F (X.w0 rfl) rfl (X.load rfl (F.ev 19 (.pointer (some ⟨w4.heap.size, 2, none⟩))) (X.ld1 (Try.agg3 _) (hC.at 10 rfl))) ?_
    clear F ac
    intro ac F
    refine Y.pval F (X.w0 rfl) rfl (X.binop rfl (F.ev 18 (.int .i64 (sumC nd set i))) (F.ev 20 (.int .i64 (cv nd i 2))) (X.addI Try.underlying3 rfl (by omega) (by omega))) ?_
    clear F ac
    intro ac F
    refine Y.pval F (X.w0 rfl) rfl (X.assign rfl (F.ev 21 (.int .i64 ((sumC nd set i : Int) + (cv nd i 2))))) ?_
    clear F ac
    intro ac F
    refine Y.nil ?_
    replace F : Fr ac 40 [(0, .agg #[.int .i64 gr, .int .i64 hold, .slice (some pd6) n nc]), (1, .int .i64 need), (2, .int .i64 set), (3, .pointer (some ⟨w.heap.size, 0, none⟩)), (6, .int .i64 ((sumC nd set i : Int) + (cv nd i 2))), (8, .int .i64 i), (9, .pointer (some ⟨w4.heap.size, 0, none⟩)), (11, .slice (some pd6) n nc), (12, .int .i64 n), (13, .int .i64 i), (14, .bool true), (22, .bool false), (32, .bool false)] := F.sub _
    refine X.blockN ?_
    refine X.blockN ?_
    refine X.thenN ?_
    refine Y.lit (by kernel_rfl) ?_
    refine Y.pval F (X.w0 rfl) rfl (X.binop rfl (F.ev 13 (.int .i64 i)) (X.kc (.int .i64 1) rfl) (X.addI Try.underlying3 rfl (by omega) (by omega))) ?_
    clear F ac
    intro ac F
    refine Y.pval F (X.w0 rfl) rfl (X.move rfl (F.ev 38 (.int .i64 ((i : Int) + 1)))) ?_
    clear F ac
    intro ac F
    refine Y.nil ?_
    replace F : Fr ac 40 [(0, .agg #[.int .i64 gr, .int .i64 hold, .slice (some pd6) n nc]), (1, .int .i64 need), (2, .int .i64 set), (3, .pointer (some ⟨w.heap.size, 0, none⟩)), (6, .int .i64 ((sumC nd set i : Int) + (cv nd i 2))), (8, .int .i64 i), (9, .pointer (some ⟨w4.heap.size, 0, none⟩)), (11, .slice (some pd6) n nc), (12, .int .i64 n), (13, .int .i64 ((i : Int) + 1)), (14, .bool true), (22, .bool false), (32, .bool false)] := F.sub _
    refine X.thenN ?_
    refine ⟨_, ?_, i + 1, rfl, GB_, by omega, by simp only [allC, hall, Bool.true_and]; simp only [bitB]; simp [h9p], (by rw [show sumC nd set (i + 1) = sumC nd set i + cv nd i 2 from by simp only [sumC]; rw [if_pos h8p]]; exact F.sub _)⟩
    omega
   | true =>
    try rw [h9] at F
    have h9p : (andV (shrV (need : Int) (i : Int) : Int) 1 : Int) = 1 := by simpa using h9
    refine Y.condT (F.ev 32 (.bool true)) ?_
    refine Y.seq ?_
    refine Y.lit (by kernel_rfl) ?_
    refine Y.pval F (X.w0 rfl) rfl (X.assign rfl (X.kc (.int .i64 0) rfl)) ?_
    clear F ac
    intro ac F
    refine Y.pval F (X.w0 rfl) rfl (X.assign rfl (X.kc (.bool false) rfl)) ?_
    clear F ac
    intro ac F
    refine Y.nil ?_
    replace F : Fr ac 40 [(0, .agg #[.int .i64 gr, .int .i64 hold, .slice (some pd6) n nc]), (1, .int .i64 need), (2, .int .i64 set), (3, .pointer (some ⟨w.heap.size, 0, none⟩)), (6, .int .i64 0), (7, .bool false), (8, .int .i64 i), (9, .pointer (some ⟨w4.heap.size, 0, none⟩)), (11, .slice (some pd6) n nc), (12, .int .i64 n), (13, .int .i64 i), (14, .bool true), (22, .bool false), (32, .bool true)] := F.sub _
    refine X.thenN ?_
    refine Y.ret ?_
    refine X.blockR ?_
    refine X.blockR ?_
    refine X.thenR ?_
    refine X.thenR ?_
    refine X.blockR ?_
    refine X.thenR ?_
    exact Y.ret0 (v := .tuple #[.int .i64 0, .bool false]) F (Y.rs2 F rfl (by kernel_rfl) (by kernel_rfl)) ⟨by rw [hlen, allC_false (i := i) (by omega) h8p (by unfold bitB; simpa using h9p)]; rfl, G⟩
  | true =>
   try rw [h8] at F
   have h8p : ¬ (andV (cv nd i 0 : Int) (set : Int) : Int) = 0 := by simpa using h8
   refine Y.condT (F.ev 22 (.bool true)) ?_
   refine Y.lit (by kernel_rfl) ?_
   refine Y.pval F (X.w0 rfl) rfl (X.move rfl (F.ev 6 (.int .i64 (sumC nd set i)))) ?_
   clear F ac
   intro ac F
   refine Y.pval F (X.w0 rfl) rfl (X.field rfl (F.ev 9 (.pointer (some ⟨w4.heap.size, 0, none⟩))) (X.fld Try.underlying31 rfl (Try.siz3 _) rfl rfl)) ?_
   clear F ac
   intro ac F
   refine Y.pval F (X.w0 rfl) rfl (X.load rfl (F.ev 29 (.pointer (some ⟨w4.heap.size, 1, none⟩))) (X.ld1 (Try.agg3 _) (hC.at 9 rfl))) ?_
   clear F ac
   intro ac F
   refine Y.pval F (X.w0 rfl) rfl (X.binop rfl (F.ev 28 (.int .i64 (sumC nd set i))) (F.ev 30 (.int .i64 (cv nd i 1))) (X.addI Try.underlying3 rfl (by omega) (by omega))) ?_
   clear F ac
   intro ac F
   refine Y.pval F (X.w0 rfl) rfl (X.assign rfl (F.ev 31 (.int .i64 ((sumC nd set i : Int) + (cv nd i 1))))) ?_
   clear F ac
   intro ac F
   refine Y.nil ?_
   replace F : Fr ac 40 [(0, .agg #[.int .i64 gr, .int .i64 hold, .slice (some pd6) n nc]), (1, .int .i64 need), (2, .int .i64 set), (3, .pointer (some ⟨w.heap.size, 0, none⟩)), (6, .int .i64 ((sumC nd set i : Int) + (cv nd i 1))), (8, .int .i64 i), (9, .pointer (some ⟨w4.heap.size, 0, none⟩)), (11, .slice (some pd6) n nc), (12, .int .i64 n), (13, .int .i64 i), (14, .bool true), (22, .bool true)] := F.sub _
   refine X.blockN ?_
   refine X.blockN ?_
   refine X.thenN ?_
   refine Y.lit (by kernel_rfl) ?_
   refine Y.pval F (X.w0 rfl) rfl (X.binop rfl (F.ev 13 (.int .i64 i)) (X.kc (.int .i64 1) rfl) (X.addI Try.underlying3 rfl (by omega) (by omega))) ?_
   clear F ac
   intro ac F
   refine Y.pval F (X.w0 rfl) rfl (X.move rfl (F.ev 38 (.int .i64 ((i : Int) + 1)))) ?_
   clear F ac
   intro ac F
   refine Y.nil ?_
   replace F : Fr ac 40 [(0, .agg #[.int .i64 gr, .int .i64 hold, .slice (some pd6) n nc]), (1, .int .i64 need), (2, .int .i64 set), (3, .pointer (some ⟨w.heap.size, 0, none⟩)), (6, .int .i64 ((sumC nd set i : Int) + (cv nd i 1))), (8, .int .i64 i), (9, .pointer (some ⟨w4.heap.size, 0, none⟩)), (11, .slice (some pd6) n nc), (12, .int .i64 n), (13, .int .i64 ((i : Int) + 1)), (14, .bool true), (22, .bool true)] := F.sub _
   refine X.thenN ?_
   refine ⟨_, ?_, i + 1, rfl, GB_, by omega, by simp only [allC, hall, Bool.true_and]; simp [h8p], (by rw [show sumC nd set (i + 1) = sumC nd set i + cv nd i 1 from by simp only [sumC]; rw [if_neg h8p]]; exact F.sub _)⟩
   omega
set_option maxRecDepth 100000 in
set_option maxHeartbeats 1000000 in
theorem choose_any (na : Option Addr) (n nc : Nat) (gr hold need : Int) (nd : List (List Int)) (w : World) (hnd : StAt w 5 na n nd) :
  Calls Try.prog 35 #[.agg #[.int .i64 gr, .int .i64 hold, .slice na n nc], .int .i64 need] w fun e w' => e = .returned (.tuple #[.int .i64 (chG gr hold nd need), .int .i64 (chL gr hold nd need), .int .i64 (chE gr hold nd need)]) ∧ Gr w w' := by
 have G := Gr.refl w
 have hlen := hnd.len
 have hlt := hnd.lt
 refine Y.calls 55 Try.func35 rfl rfl ?_
 intro ac F0
 have F : Fr ac 55 [(0, .agg #[.int .i64 gr, .int .i64 hold, .slice na n nc]), (1, .int .i64 need)] := F0.sub _
 clear F0
 refine Y.seq ?_
 refine Y.lit (by kernel_rfl) ?_
 refine Y.pval F (X.w0 rfl) rfl (X.box rfl (F.ev 0 (.agg #[.int .i64 gr, .int .i64 hold, .slice na n nc])) X.bx) ?_
 clear F ac
 intro ac F
 have g := Gr.alloc w (.cells #[.int .i64 gr, .int .i64 hold, .slice na n nc] 24)
 have hb := heap_alloc_new w (.cells #[.int .i64 gr, .int .i64 hold, .slice na n nc] 24)
 have hbl : w.heap.size < (w.alloc (.cells #[.int .i64 gr, .int .i64 hold, .slice na n nc] 24)).heap.size := by simp
 have hC2 : RCells (w.alloc (.cells #[.int .i64 gr, .int .i64 hold, .slice na n nc] 24)) [(⟨w.heap.size, 0, none⟩, .int .i64 gr), (⟨w.heap.size, 1, none⟩, .int .i64 hold), (⟨w.heap.size, 2, none⟩, .slice na n nc)] := (RCells.nil w).box (b := w.heap.size) #[.int .i64 gr, .int .i64 hold, .slice na n nc] 24 rfl
 generalize w.alloc (.cells #[.int .i64 gr, .int .i64 hold, .slice na n nc] 24) = w3 at *
 replace G := G.trans g
 have hC := hC2
 clear hC2
 replace hnd := hnd.gr g
 clear g hb hbl
 refine Y.pval F (X.w0 rfl) rfl (X.assign rfl (X.kc (.int .i64 0) rfl)) ?_
 clear F ac
 intro ac F
 refine Y.pval F (X.w0 rfl) rfl (X.assign rfl (X.kc (.int .i64 0) rfl)) ?_
 clear F ac
 intro ac F
 refine Y.pval F (X.w0 rfl) rfl (X.assign rfl (X.kc (.int .i64 0) rfl)) ?_
 clear F ac
 intro ac F
 refine Y.nil ?_
 replace F : Fr ac 55 [(0, .agg #[.int .i64 gr, .int .i64 hold, .slice na n nc]), (1, .int .i64 need), (2, .pointer (some ⟨w.heap.size, 0, none⟩)), (4, .int .i64 0), (5, .int .i64 0), (6, .int .i64 0)] := F.sub _
 refine X.thenN ?_
 refine Y.seq ?_
 refine Y.seq ?_
 refine Y.lit (by kernel_rfl) ?_
 refine Y.pval F (X.w0 rfl) rfl (X.load rfl (F.ev 2 (.pointer (some ⟨w.heap.size, 0, none⟩))) (X.ldN (Try.agg24 _) (Try.siz24 _) (Y.atz (⟨w.heap.size, 0, none⟩) (Y.AtFrom.cons (hC.at 0 rfl) (Y.AtFrom.cons (hC.at 1 rfl) (Y.AtFrom.cons (hC.at 2 rfl) (Y.AtFrom.nil _ _ _))))))) ?_
 clear F ac
 intro ac F
 refine Y.pcall F (X.w0 rfl) rfl (X.enter (F := 25) rfl (X.kc (.func (.func 25) #[] #[]) rfl) (X.a1 (F.ev 12 (.agg #[.int .i64 gr, .int .i64 hold, .slice na n nc]))) (enters_of Try.func25 (by kernel_rfl) rfl _)) (check_any na n nc gr hold nd w3 hnd) ?_
 clear F ac
 rintro e w4 ⟨rfl, g⟩
 refine ⟨_, rfl, ?_⟩
 intro ac F
 replace G := G.trans g
 replace hC := hC.gr g
 replace hnd := hnd.gr g
 clear g
 refine Y.pval F (X.w0 rfl) rfl (X.assign rfl (F.ev 13 (.int .i64 (cluE gr hold nd)))) ?_
 clear F ac
 intro ac F
 refine Y.nil ?_
 replace F : Fr ac 55 [(0, .agg #[.int .i64 gr, .int .i64 hold, .slice na n nc]), (1, .int .i64 need), (2, .pointer (some ⟨w.heap.size, 0, none⟩)), (4, .int .i64 0), (5, .int .i64 0), (6, .int .i64 0), (7, .int .i64 (cluE gr hold nd))] := F.sub _
 refine X.thenN ?_
 refine Y.seq ?_
 refine Y.lit (by kernel_rfl) ?_
 refine Y.pval F (X.w0 rfl) rfl (X.move rfl (F.ev 7 (.int .i64 (cluE gr hold nd)))) ?_
 clear F ac
 intro ac F
 refine Y.pval F (X.w0 rfl) rfl (X.binop rfl (F.ev 14 (.int .i64 (cluE gr hold nd))) (X.kc (.int .i64 0) rfl) (X.neqI Try.underlying26 rfl)) ?_
 clear F ac
 intro ac F
 refine Y.nil ?_
 replace F : Fr ac 55 [(0, .agg #[.int .i64 gr, .int .i64 hold, .slice na n nc]), (1, .int .i64 need), (2, .pointer (some ⟨w.heap.size, 0, none⟩)), (4, .int .i64 0), (5, .int .i64 0), (6, .int .i64 0), (7, .int .i64 (cluE gr hold nd)), (15, .bool ((cluE gr hold nd : Int) != 0))] := F.sub _
 refine X.thenN ?_
 cases h5 : ((cluE gr hold nd : Int) != 0) with
 | false =>
  try rw [h5] at F
  have h5p : (cluE gr hold nd : Int) = 0 := by simpa using h5
  have hE : cluE gr hold nd = 0 := by simpa using h5p
  have hc := cluE_ok hE
  have hg1 := hc.g1
  have hg8 := hc.g8
  have h16 : n ≤ 16 := by have := hc.n16; omega
  have hh1 := hc.h1
  have hh2 := hc.h100
  have hsh := shl_le8 (g := gr) (by omega) (by omega)
  have hshn := shl_le8 (g := (n : Int)) (by omega) (by omega)
  refine Y.condF (F.ev 15 (.bool false)) ?_
  refine Y.skip ?_
  refine X.thenN ?_
  refine Y.seq ?_
  refine Y.seq ?_
  refine Y.lit (by kernel_rfl) ?_
  refine Y.pval F (X.w0 rfl) rfl (X.move rfl (F.ev 1 (.int .i64 need))) ?_
  clear F ac
  intro ac F
  refine Y.pval F (X.w0 rfl) rfl (X.field rfl (F.ev 2 (.pointer (some ⟨w.heap.size, 0, none⟩))) (X.fld Try.underlying24 rfl (Try.siz22 _) rfl rfl)) ?_
  clear F ac
  intro ac F
  refine Y.pval F (X.w0 rfl) rfl (X.load rfl (F.ev 18 (.pointer (some ⟨w.heap.size, 2, none⟩))) (X.ld1 (Try.agg22 _) (hC.at 2 rfl))) ?_
  clear F ac
  intro ac F
  refine Y.pval F (X.w0 rfl) rfl (X.len1 Try.underlying22 rfl (F.ev 19 (.slice na n nc))) ?_
  clear F ac
  intro ac F
  refine Y.pval F (X.w0 rfl) rfl (X.binop rfl (X.kc (.int .i64 1) rfl) (F.ev 20 (.int .i64 n)) (X.shlI Try.underlying3 rfl (by omega))) ?_
  clear F ac
  intro ac F
  refine Y.pval F (X.w0 rfl) rfl (X.binop rfl (F.ev 21 (.int .i64 (shlV 1 (n : Int)))) (X.kc (.int .i64 1) rfl) (X.subI Try.underlying3 rfl (by omega) (by omega))) ?_
  clear F ac
  intro ac F
  refine Y.pcall F (X.w0 rfl) rfl (X.enter (F := 54) rfl (X.kc (.func (.func 54) #[] #[]) rfl) (X.a3 (F.ev 17 (.int .i64 need)) (X.kc (.int .i64 0) rfl) (F.ev 22 (.int .i64 ((shlV 1 (n : Int) : Int) - 1)))) (enters_of Try.func54 (by kernel_rfl) rfl _)) (within_any need 0 ((shlV 1 (n : Int) : Int) - 1) w4) ?_
  clear F ac
  rintro e w' ⟨rfl, hw_⟩
  obtain rfl : w4 = w' := hw_.symm
  clear hw_
  refine ⟨_, rfl, ?_⟩
  intro ac F
  refine Y.pval F (X.w0 rfl) rfl (X.notB rfl (F.ev 23 (.bool (withinB need 0 ((shlV 1 (n : Int) : Int) - 1)))) rfl) ?_
  clear F ac
  intro ac F
  refine Y.nil ?_
  replace F : Fr ac 55 [(0, .agg #[.int .i64 gr, .int .i64 hold, .slice na n nc]), (1, .int .i64 need), (2, .pointer (some ⟨w.heap.size, 0, none⟩)), (4, .int .i64 0), (5, .int .i64 0), (6, .int .i64 0), (7, .int .i64 (cluE gr hold nd)), (15, .bool false), (24, .bool (!(withinB need 0 ((shlV 1 (n : Int) : Int) - 1))))] := F.sub _
  refine X.thenN ?_
  cases h6 : withinB need 0 ((shlV 1 (n : Int) : Int) - 1) with
  | false =>
   try rw [h6] at F
   have hW := h6
   refine Y.condT (F.ev 24 (.bool true)) ?_
   refine Y.seq ?_
   refine Y.lit (by kernel_rfl) ?_
   refine Y.pval F (X.w0 rfl) rfl (X.assign rfl (X.kc (.int .i64 0) rfl)) ?_
   clear F ac
   intro ac F
   refine Y.pval F (X.w0 rfl) rfl (X.assign rfl (X.kc (.int .i64 0) rfl)) ?_
   clear F ac
   intro ac F
   refine Y.pval F (X.w0 rfl) rfl (X.assign rfl (X.kc (.int .i64 1) rfl)) ?_
   clear F ac
   intro ac F
   refine Y.nil ?_
   replace F : Fr ac 55 [(0, .agg #[.int .i64 gr, .int .i64 hold, .slice na n nc]), (1, .int .i64 need), (2, .pointer (some ⟨w.heap.size, 0, none⟩)), (4, .int .i64 0), (5, .int .i64 0), (6, .int .i64 1), (7, .int .i64 (cluE gr hold nd)), (15, .bool false), (24, .bool true)] := F.sub _
   refine X.thenN ?_
   refine Y.ret ?_
   refine X.thenR ?_
   have eE : chE gr hold nd need = 1 := by rw [chE, if_neg (fun h => h hE), hlen, hW]; rfl
   exact Y.ret0 (v := .tuple #[.int .i64 0, .int .i64 0, .int .i64 1]) F (Y.rs3 F rfl (by kernel_rfl) (by kernel_rfl) (by kernel_rfl)) ⟨by rw [chG, chL, eE]; rfl, G⟩
  | true =>
   try rw [h6] at F
   have hW := h6
   have hW2 := withinB_ok hW
   refine Y.condF (F.ev 24 (.bool false)) ?_
   refine Y.skip ?_
   refine X.thenN ?_
   refine Y.seq ?_
   refine Y.lit (by kernel_rfl) ?_
   refine Y.pval F (X.w0 rfl) rfl (X.assign rfl (X.kc (.bool false) rfl)) ?_
   clear F ac
   intro ac F
   refine Y.nil ?_
   replace F : Fr ac 55 [(0, .agg #[.int .i64 gr, .int .i64 hold, .slice na n nc]), (1, .int .i64 need), (2, .pointer (some ⟨w.heap.size, 0, none⟩)), (4, .int .i64 0), (5, .int .i64 0), (6, .int .i64 0), (7, .int .i64 (cluE gr hold nd)), (8, .bool false), (15, .bool false), (24, .bool false)] := F.sub _
   refine X.thenN ?_
   refine Y.seq ?_
   refine Y.seq ?_
   refine Y.lit (by kernel_rfl) ?_
   refine Y.pval F (X.w0 rfl) rfl (X.field rfl (F.ev 2 (.pointer (some ⟨w.heap.size, 0, none⟩))) (X.fld Try.underlying24 rfl (Try.siz3 _) rfl rfl)) ?_
   clear F ac
   intro ac F
   refine Y.pval F (X.w0 rfl) rfl (X.load rfl (F.ev 25 (.pointer (some ⟨w.heap.size, 0, none⟩))) (X.ld1 (Try.agg3 _) (hC.at 0 rfl))) ?_
   clear F ac
   intro ac F
   refine Y.pval F (X.w0 rfl) rfl (X.binop rfl (X.kc (.int .i64 1) rfl) (F.ev 26 (.int .i64 gr)) (X.shlI Try.underlying3 rfl (by omega))) ?_
   clear F ac
   intro ac F
   refine Y.pval F (X.w0 rfl) rfl (X.move rfl (X.kc (.int .i64 0) rfl)) ?_
   clear F ac
   intro ac F
   refine Y.nil ?_
   replace F : Fr ac 55 [(0, .agg #[.int .i64 gr, .int .i64 hold, .slice na n nc]), (1, .int .i64 need), (2, .pointer (some ⟨w.heap.size, 0, none⟩)), (4, .int .i64 0), (5, .int .i64 0), (6, .int .i64 0), (7, .int .i64 (cluE gr hold nd)), (8, .bool false), (15, .bool false), (24, .bool false), (27, .int .i64 (shlV 1 (gr : Int))), (28, .int .i64 0)] := F.sub _
   refine X.thenN ?_
   refine Y.block ?_
   have hndB := hnd
   have hCB := hC
   have GB := G
   refine Y.loop (fun me_ ac wr => ∃ (s : Nat), me_ = (shlV 1 gr).toNat - s ∧ Gr w4 wr ∧ (s : Int) ≤ shlV 1 gr ∧ Fr ac 55 [(0, .agg #[.int .i64 gr, .int .i64 hold, .slice na n nc]), (1, .int .i64 need), (2, .pointer (some ⟨w.heap.size, 0, none⟩)), (4, .int .i64 ((chS nd need s).g)), (5, .int .i64 ((chS nd need s).l)), (6, .int .i64 0), (7, .int .i64 (cluE gr hold nd)), (8, .bool ((chS nd need s).f)), (15, .bool false), (24, .bool false), (27, .int .i64 (shlV 1 (gr : Int))), (28, .int .i64 s)]) _ ⟨0, rfl, Gr.refl _, by omega, F.sub _⟩ ?_
   clear F
   intro me_ ac w7 hI
   obtain ⟨s, rfl, gr, hs, F⟩ := hI
   replace G := GB.trans gr
   replace hC := hCB.gr gr
   replace hnd := hndB.gr gr
   have GB_ := gr
   clear gr
   refine Y.seq ?_
   refine Y.lit (by kernel_rfl) ?_
   refine Y.pval F (X.w0 rfl) rfl (X.binop rfl (F.ev 28 (.int .i64 s)) (F.ev 27 (.int .i64 (shlV 1 (gr : Int)))) (X.lssI Try.underlying3 rfl)) ?_
   clear F ac
   intro ac F
   refine Y.nil ?_
   replace F : Fr ac 55 [(0, .agg #[.int .i64 gr, .int .i64 hold, .slice na n nc]), (1, .int .i64 need), (2, .pointer (some ⟨w.heap.size, 0, none⟩)), (4, .int .i64 ((chS nd need s).g)), (5, .int .i64 ((chS nd need s).l)), (6, .int .i64 0), (7, .int .i64 (cluE gr hold nd)), (8, .bool ((chS nd need s).f)), (15, .bool false), (24, .bool false), (27, .int .i64 (shlV 1 (gr : Int))), (28, .int .i64 s), (29, .bool (decide ((s : Int) < (shlV 1 (gr : Int)))))] := F.sub _
   refine X.thenN ?_
   refine Y.seq ?_
   cases h8 : decide ((s : Int) < (shlV 1 (gr : Int))) with
   | false =>
    try rw [h8] at F
    have h8p : ¬ ((s : Int) < (shlV 1 (gr : Int))) := of_decide_eq_false h8
    obtain rfl : (shlV 1 gr).toNat = s := by omega
    refine Y.condF (F.ev 29 (.bool false)) ?_
    refine Y.exit ?_
    refine X.thenX ?_
    refine X.thenX ?_
    refine X.blockX ?_
    refine X.thenN ?_
    refine Y.seq ?_
    refine Y.seq ?_
    refine Y.lit (by kernel_rfl) ?_
    refine Y.pval F (X.w0 rfl) rfl (X.move rfl (F.ev 8 (.bool ((chS nd need (shlV 1 gr).toNat).f)))) ?_
    clear F ac
    intro ac F
    refine Y.pval F (X.w0 rfl) rfl (X.notB rfl (F.ev 51 (.bool ((chS nd need (shlV 1 gr).toNat).f))) rfl) ?_
    clear F ac
    intro ac F
    refine Y.nil ?_
    replace F : Fr ac 55 [(0, .agg #[.int .i64 gr, .int .i64 hold, .slice na n nc]), (1, .int .i64 need), (2, .pointer (some ⟨w.heap.size, 0, none⟩)), (4, .int .i64 ((chS nd need (shlV 1 gr).toNat).g)), (5, .int .i64 ((chS nd need (shlV 1 gr).toNat).l)), (6, .int .i64 0), (7, .int .i64 (cluE gr hold nd)), (8, .bool ((chS nd need (shlV 1 gr).toNat).f)), (15, .bool false), (24, .bool false), (27, .int .i64 (shlV 1 (gr : Int))), (28, .int .i64 ((shlV 1 gr).toNat)), (29, .bool false), (52, .bool (!((chS nd need (shlV 1 gr).toNat).f)))] := F.sub _
    refine X.thenN ?_
    cases h9 : (chS nd need (shlV 1 gr).toNat).f with
    | false =>
     try rw [h9] at F
     refine Y.condT (F.ev 52 (.bool true)) ?_
     refine Y.seq ?_
     refine Y.lit (by kernel_rfl) ?_
     refine Y.pval F (X.w0 rfl) rfl (X.assign rfl (X.kc (.int .i64 0) rfl)) ?_
     clear F ac
     intro ac F
     refine Y.pval F (X.w0 rfl) rfl (X.assign rfl (X.kc (.int .i64 0) rfl)) ?_
     clear F ac
     intro ac F
     refine Y.pval F (X.w0 rfl) rfl (X.assign rfl (X.kc (.int .i64 3) rfl)) ?_
     clear F ac
     intro ac F
     refine Y.nil ?_
     replace F : Fr ac 55 [(0, .agg #[.int .i64 gr, .int .i64 hold, .slice na n nc]), (1, .int .i64 need), (2, .pointer (some ⟨w.heap.size, 0, none⟩)), (4, .int .i64 0), (5, .int .i64 0), (6, .int .i64 3), (7, .int .i64 (cluE gr hold nd)), (8, .bool false), (15, .bool false), (24, .bool false), (27, .int .i64 (shlV 1 (gr : Int))), (28, .int .i64 ((shlV 1 gr).toNat)), (29, .bool false), (52, .bool true)] := F.sub _
     refine X.thenN ?_
     refine Y.ret ?_
     refine X.thenR ?_
     have eE : chE gr hold nd need = 3 := by rw [chE, if_neg (fun h => h hE), hlen, hW, h9]; rfl
     exact Y.ret0 (v := .tuple #[.int .i64 0, .int .i64 0, .int .i64 3]) F (Y.rs3 F rfl (by kernel_rfl) (by kernel_rfl) (by kernel_rfl)) ⟨by rw [chG, chL, eE]; rfl, G⟩
    | true =>
     try rw [h9] at F
     refine Y.condF (F.ev 52 (.bool false)) ?_
     refine Y.skip ?_
     refine X.thenN ?_
     refine Y.seq ?_
     refine Y.lit (by kernel_rfl) ?_
     refine Y.pval F (X.w0 rfl) rfl (X.move rfl (F.ev 4 (.int .i64 ((chS nd need (shlV 1 gr).toNat).g)))) ?_
     clear F ac
     intro ac F
     refine Y.pval F (X.w0 rfl) rfl (X.move rfl (F.ev 5 (.int .i64 ((chS nd need (shlV 1 gr).toNat).l)))) ?_
     clear F ac
     intro ac F
     refine Y.pval F (X.w0 rfl) rfl (X.assign rfl (F.ev 53 (.int .i64 ((chS nd need (shlV 1 gr).toNat).g)))) ?_
     clear F ac
     intro ac F
     refine Y.pval F (X.w0 rfl) rfl (X.assign rfl (F.ev 54 (.int .i64 ((chS nd need (shlV 1 gr).toNat).l)))) ?_
     clear F ac
     intro ac F
     refine Y.pval F (X.w0 rfl) rfl (X.assign rfl (X.kc (.int .i64 0) rfl)) ?_
     clear F ac
     intro ac F
     refine Y.nil ?_
     replace F : Fr ac 55 [(0, .agg #[.int .i64 gr, .int .i64 hold, .slice na n nc]), (1, .int .i64 need), (2, .pointer (some ⟨w.heap.size, 0, none⟩)), (4, .int .i64 ((chS nd need (shlV 1 gr).toNat).g)), (5, .int .i64 ((chS nd need (shlV 1 gr).toNat).l)), (6, .int .i64 0), (7, .int .i64 (cluE gr hold nd)), (8, .bool true), (15, .bool false), (24, .bool false), (27, .int .i64 (shlV 1 (gr : Int))), (28, .int .i64 ((shlV 1 gr).toNat)), (29, .bool false), (52, .bool false)] := F.sub _
     refine X.thenN ?_
     refine Y.ret ?_
     have eE : chE gr hold nd need = 0 := by rw [chE, if_neg (fun h => h hE), hlen, hW, h9]; rfl
     exact Y.ret0 (v := .tuple #[.int .i64 ((chS nd need (shlV 1 gr).toNat).g), .int .i64 ((chS nd need (shlV 1 gr).toNat).l), .int .i64 0]) F (Y.rs3 F rfl (by kernel_rfl) (by kernel_rfl) (by kernel_rfl)) ⟨by rw [chG, chL, eE, if_pos rfl, if_pos rfl], G⟩
   | true =>
    try rw [h8] at F
    have h8p : ((s : Int) < (shlV 1 (gr : Int))) := of_decide_eq_true h8
    refine Y.condT (F.ev 29 (.bool true)) ?_
    refine Y.skip ?_
    refine X.thenN ?_
    refine Y.seq ?_
    refine Y.block ?_
    refine Y.seq ?_
    refine Y.lit (by kernel_rfl) ?_
    refine Y.pval F (X.w0 rfl) rfl (X.move rfl (F.ev 28 (.int .i64 s))) ?_
    clear F ac
    intro ac F
    refine Y.pval F (X.w0 rfl) rfl (X.assign rfl (F.ev 30 (.int .i64 s))) ?_
    clear F ac
    intro ac F
    refine Y.nil ?_
    replace F : Fr ac 55 [(0, .agg #[.int .i64 gr, .int .i64 hold, .slice na n nc]), (1, .int .i64 need), (2, .pointer (some ⟨w.heap.size, 0, none⟩)), (4, .int .i64 ((chS nd need s).g)), (5, .int .i64 ((chS nd need s).l)), (6, .int .i64 0), (7, .int .i64 (cluE gr hold nd)), (8, .bool ((chS nd need s).f)), (9, .int .i64 s), (15, .bool false), (24, .bool false), (27, .int .i64 (shlV 1 (gr : Int))), (28, .int .i64 s), (29, .bool true)] := F.sub _
    refine X.thenN ?_
    refine Y.seq ?_
    refine Y.lit (by kernel_rfl) ?_
    refine Y.pval F (X.w0 rfl) rfl (X.load rfl (F.ev 2 (.pointer (some ⟨w.heap.size, 0, none⟩))) (X.ldN (Try.agg24 _) (Try.siz24 _) (Y.atz (⟨w.heap.size, 0, none⟩) (Y.AtFrom.cons (hC.at 0 rfl) (Y.AtFrom.cons (hC.at 1 rfl) (Y.AtFrom.cons (hC.at 2 rfl) (Y.AtFrom.nil _ _ _))))))) ?_
    clear F ac
    intro ac F
    refine Y.pval F (X.w0 rfl) rfl (X.move rfl (F.ev 1 (.int .i64 need))) ?_
    clear F ac
    intro ac F
    refine Y.pval F (X.w0 rfl) rfl (X.move rfl (F.ev 9 (.int .i64 s))) ?_
    clear F ac
    intro ac F
    cases hac : allC nd need s nd.length with
    | false =>
     refine Y.pcall F (X.w0 rfl) rfl (X.enter (F := 65) rfl (X.kc (.func (.func 65) #[] #[]) rfl) (X.a3 (F.ev 32 (.agg #[.int .i64 gr, .int .i64 hold, .slice na n nc])) (F.ev 33 (.int .i64 need)) (F.ev 34 (.int .i64 s))) (enters_of Try.func65 (by kernel_rfl) rfl _)) (by have h := current_any na n nc gr hold need s nd w7 hnd hc; rw [hac, if_neg (by decide)] at h; exact h) ?_
     clear F ac
     rintro e w11 ⟨rfl, g⟩
     refine ⟨_, rfl, ?_⟩
     intro ac F
     replace G := G.trans g
     replace hC := hC.gr g
     replace GB_ := GB_.trans g
     replace hnd := hnd.gr g
     clear g
     refine Y.pval F (X.w0 rfl) rfl (X.move rfl (F.ev 35 (.tuple #[.int .i64 0, .bool false]))) ?_
     clear F ac
     intro ac F
     refine Y.pval F (X.w0 rfl) rfl (X.extract rfl (F.ev 31 (.tuple #[.int .i64 0, .bool false])) rfl) ?_
     clear F ac
     intro ac F
     refine Y.pval F (X.w0 rfl) rfl (X.extract rfl (F.ev 31 (.tuple #[.int .i64 0, .bool false])) rfl) ?_
     clear F ac
     intro ac F
     refine Y.pval F (X.w0 rfl) rfl (X.assign rfl (F.ev 36 (.int .i64 0))) ?_
     clear F ac
     intro ac F
     refine Y.pval F (X.w0 rfl) rfl (X.assign rfl (F.ev 37 (.bool false))) ?_
     clear F ac
     intro ac F
     refine Y.nil ?_
     replace F : Fr ac 55 [(0, .agg #[.int .i64 gr, .int .i64 hold, .slice na n nc]), (1, .int .i64 need), (2, .pointer (some ⟨w.heap.size, 0, none⟩)), (4, .int .i64 ((chS nd need s).g)), (5, .int .i64 ((chS nd need s).l)), (6, .int .i64 0), (7, .int .i64 (cluE gr hold nd)), (8, .bool ((chS nd need s).f)), (9, .int .i64 s), (10, .int .i64 0), (11, .bool false), (15, .bool false), (24, .bool false), (27, .int .i64 (shlV 1 (gr : Int))), (28, .int .i64 s), (29, .bool true)] := F.sub _
     refine X.thenN ?_
     refine Y.seq ?_
     refine Y.lit (by kernel_rfl) ?_
     refine Y.pval F (X.w0 rfl) rfl (X.move rfl (F.ev 11 (.bool false))) ?_
     clear F ac
     intro ac F
     refine Y.pval F (X.w0 rfl) rfl (X.move rfl (F.ev 38 (.bool false))) ?_
     clear F ac
     intro ac F
     refine Y.pskip F (X.w2 rfl (F.yl (j := 1) (d := 39) (b := false) rfl (by kernel_rfl)) rfl) rfl ?_
     clear F ac
     intro ac F
     refine Y.pskip F (X.w2 rfl (F.yl (j := 1) (d := 39) (b := false) rfl (by kernel_rfl)) rfl) rfl ?_
     clear F ac
     intro ac F
     refine Y.pskip F (X.w2 rfl (F.yl (j := 1) (d := 39) (b := false) rfl (by kernel_rfl)) rfl) rfl ?_
     clear F ac
     intro ac F
     refine Y.pskip F (Y.w3 rfl (F.yn (j := 4) (d := 42) rfl (by kernel_rfl))) rfl ?_
     clear F ac
     intro ac F
     refine Y.pskip F (Y.w3 rfl (F.yn (j := 4) (d := 42) rfl (by kernel_rfl))) rfl ?_
     clear F ac
     intro ac F
     refine Y.pskip F (Y.w3 rfl (F.yn (j := 4) (d := 42) rfl (by kernel_rfl))) rfl ?_
     clear F ac
     intro ac F
     refine Y.pskip F (X.w2 rfl (F.yl (j := 1) (d := 39) (b := false) rfl (by kernel_rfl)) rfl) rfl ?_
     clear F ac
     intro ac F
     refine Y.pval F (X.w0 rfl) rfl (X.pickF rfl (F.ev 39 (.bool false)) (X.kc (.bool false) rfl)) ?_
     clear F ac
     intro ac F
     refine Y.nil ?_
     replace F : Fr ac 55 [(0, .agg #[.int .i64 gr, .int .i64 hold, .slice na n nc]), (1, .int .i64 need), (2, .pointer (some ⟨w.heap.size, 0, none⟩)), (4, .int .i64 ((chS nd need s).g)), (5, .int .i64 ((chS nd need s).l)), (6, .int .i64 0), (7, .int .i64 (cluE gr hold nd)), (8, .bool ((chS nd need s).f)), (9, .int .i64 s), (10, .int .i64 0), (11, .bool false), (15, .bool false), (24, .bool false), (27, .int .i64 (shlV 1 (gr : Int))), (28, .int .i64 s), (29, .bool true), (47, .bool false)] := F.sub _
     refine X.thenN ?_
     refine Y.condF (F.ev 47 (.bool false)) ?_
     refine Y.skip ?_
     refine X.blockN ?_
     refine X.thenN ?_
     refine Y.lit (by kernel_rfl) ?_
     refine Y.pval F (X.w0 rfl) rfl (X.binop rfl (F.ev 28 (.int .i64 s)) (X.kc (.int .i64 1) rfl) (X.addI Try.underlying3 rfl (by omega) (by omega))) ?_
     clear F ac
     intro ac F
     refine Y.pval F (X.w0 rfl) rfl (X.move rfl (F.ev 50 (.int .i64 ((s : Int) + 1)))) ?_
     clear F ac
     intro ac F
     refine Y.nil ?_
     replace F : Fr ac 55 [(0, .agg #[.int .i64 gr, .int .i64 hold, .slice na n nc]), (1, .int .i64 need), (2, .pointer (some ⟨w.heap.size, 0, none⟩)), (4, .int .i64 ((chS nd need s).g)), (5, .int .i64 ((chS nd need s).l)), (6, .int .i64 0), (7, .int .i64 (cluE gr hold nd)), (8, .bool ((chS nd need s).f)), (9, .int .i64 s), (10, .int .i64 0), (11, .bool false), (15, .bool false), (24, .bool false), (27, .int .i64 (shlV 1 (gr : Int))), (28, .int .i64 ((s : Int) + 1)), (29, .bool true), (47, .bool false)] := F.sub _
     refine X.thenN ?_
     refine ⟨_, ?_, s + 1, rfl, GB_, by omega, (by rw [show chS nd need (s + 1) = chS nd need s from by simp only [chS]; exact if_neg (by simp [hac])]; exact F.sub _)⟩
     omega
    | true =>
     refine Y.pcall F (X.w0 rfl) rfl (X.enter (F := 65) rfl (X.kc (.func (.func 65) #[] #[]) rfl) (X.a3 (F.ev 32 (.agg #[.int .i64 gr, .int .i64 hold, .slice na n nc])) (F.ev 33 (.int .i64 need)) (F.ev 34 (.int .i64 s))) (enters_of Try.func65 (by kernel_rfl) rfl _)) (by have h := current_any na n nc gr hold need s nd w7 hnd hc; rw [hac, if_pos rfl] at h; exact h) ?_
     clear F ac
     rintro e w12 ⟨rfl, g⟩
     refine ⟨_, rfl, ?_⟩
     intro ac F
     replace G := G.trans g
     replace hC := hC.gr g
     replace GB_ := GB_.trans g
     replace hnd := hnd.gr g
     clear g
     refine Y.pval F (X.w0 rfl) rfl (X.move rfl (F.ev 35 (.tuple #[.int .i64 (sumC nd s nd.length), .bool true]))) ?_
     clear F ac
     intro ac F
     refine Y.pval F (X.w0 rfl) rfl (X.extract rfl (F.ev 31 (.tuple #[.int .i64 (sumC nd s nd.length), .bool true])) rfl) ?_
     clear F ac
     intro ac F
     refine Y.pval F (X.w0 rfl) rfl (X.extract rfl (F.ev 31 (.tuple #[.int .i64 (sumC nd s nd.length), .bool true])) rfl) ?_
     clear F ac
     intro ac F
     refine Y.pval F (X.w0 rfl) rfl (X.assign rfl (F.ev 36 (.int .i64 (sumC nd s nd.length)))) ?_
     clear F ac
     intro ac F
     refine Y.pval F (X.w0 rfl) rfl (X.assign rfl (F.ev 37 (.bool true))) ?_
     clear F ac
     intro ac F
     refine Y.nil ?_
     replace F : Fr ac 55 [(0, .agg #[.int .i64 gr, .int .i64 hold, .slice na n nc]), (1, .int .i64 need), (2, .pointer (some ⟨w.heap.size, 0, none⟩)), (4, .int .i64 ((chS nd need s).g)), (5, .int .i64 ((chS nd need s).l)), (6, .int .i64 0), (7, .int .i64 (cluE gr hold nd)), (8, .bool ((chS nd need s).f)), (9, .int .i64 s), (10, .int .i64 (sumC nd s nd.length)), (11, .bool true), (15, .bool false), (24, .bool false), (27, .int .i64 (shlV 1 (gr : Int))), (28, .int .i64 s), (29, .bool true)] := F.sub _
     refine X.thenN ?_
     refine Y.seq ?_
     refine Y.lit (by kernel_rfl) ?_
     refine Y.pval F (X.w0 rfl) rfl (X.move rfl (F.ev 11 (.bool true))) ?_
     clear F ac
     intro ac F
     refine Y.pval F (X.w0 rfl) rfl (X.move rfl (F.ev 38 (.bool true))) ?_
     clear F ac
     intro ac F
     refine Y.pval F (X.w1 rfl (F.yl (j := 1) (d := 39) (b := true) rfl (by kernel_rfl))) rfl (X.move rfl (F.ev 8 (.bool ((chS nd need s).f)))) ?_
     clear F ac
     intro ac F
     refine Y.pval F (X.w1 rfl (F.yl (j := 1) (d := 39) (b := true) rfl (by kernel_rfl))) rfl (X.notB rfl (F.ev 40 (.bool ((chS nd need s).f))) rfl) ?_
     clear F ac
     intro ac F
     refine Y.pval F (X.w1 rfl (F.yl (j := 1) (d := 39) (b := true) rfl (by kernel_rfl))) rfl (X.move rfl (F.ev 41 (.bool (!((chS nd need s).f))))) ?_
     clear F ac
     intro ac F
     cases h13 : (chS nd need s).f with
     | false =>
      try rw [h13] at F
      refine Y.pskip F (X.w2 rfl (F.yl (j := 4) (d := 42) (b := true) rfl (by kernel_rfl)) rfl) rfl ?_
      clear F ac
      intro ac F
      refine Y.pskip F (X.w2 rfl (F.yl (j := 4) (d := 42) (b := true) rfl (by kernel_rfl)) rfl) rfl ?_
      clear F ac
      intro ac F
      refine Y.pskip F (X.w2 rfl (F.yl (j := 4) (d := 42) (b := true) rfl (by kernel_rfl)) rfl) rfl ?_
      clear F ac
      intro ac F
      refine Y.pval F (X.w1 rfl (F.yl (j := 1) (d := 39) (b := true) rfl (by kernel_rfl))) rfl (X.pickT rfl (F.ev 42 (.bool true)) (X.kc (.bool true) rfl)) ?_
      clear F ac
      intro ac F
      refine Y.pval F (X.w0 rfl) rfl (X.pickT rfl (F.ev 39 (.bool true)) (F.ev 46 (.bool true))) ?_
      clear F ac
      intro ac F
      refine Y.nil ?_
      replace F : Fr ac 55 [(0, .agg #[.int .i64 gr, .int .i64 hold, .slice na n nc]), (1, .int .i64 need), (2, .pointer (some ⟨w.heap.size, 0, none⟩)), (4, .int .i64 ((chS nd need s).g)), (5, .int .i64 ((chS nd need s).l)), (6, .int .i64 0), (7, .int .i64 (cluE gr hold nd)), (8, .bool false), (9, .int .i64 s), (10, .int .i64 (sumC nd s nd.length)), (11, .bool true), (15, .bool false), (24, .bool false), (27, .int .i64 (shlV 1 (gr : Int))), (28, .int .i64 s), (29, .bool true), (47, .bool true)] := F.sub _
      refine X.thenN ?_
      refine Y.condT (F.ev 47 (.bool true)) ?_
      refine Y.lit (by kernel_rfl) ?_
      refine Y.pval F (X.w0 rfl) rfl (X.move rfl (F.ev 9 (.int .i64 s))) ?_
      clear F ac
      intro ac F
      refine Y.pval F (X.w0 rfl) rfl (X.move rfl (F.ev 10 (.int .i64 (sumC nd s nd.length)))) ?_
      clear F ac
      intro ac F
      refine Y.pval F (X.w0 rfl) rfl (X.assign rfl (F.ev 48 (.int .i64 s))) ?_
      clear F ac
      intro ac F
      refine Y.pval F (X.w0 rfl) rfl (X.assign rfl (F.ev 49 (.int .i64 (sumC nd s nd.length)))) ?_
      clear F ac
      intro ac F
      refine Y.pval F (X.w0 rfl) rfl (X.assign rfl (X.kc (.bool true) rfl)) ?_
      clear F ac
      intro ac F
      refine Y.nil ?_
      replace F : Fr ac 55 [(0, .agg #[.int .i64 gr, .int .i64 hold, .slice na n nc]), (1, .int .i64 need), (2, .pointer (some ⟨w.heap.size, 0, none⟩)), (4, .int .i64 s), (5, .int .i64 (sumC nd s nd.length)), (6, .int .i64 0), (7, .int .i64 (cluE gr hold nd)), (8, .bool true), (9, .int .i64 s), (10, .int .i64 (sumC nd s nd.length)), (11, .bool true), (15, .bool false), (24, .bool false), (27, .int .i64 (shlV 1 (gr : Int))), (28, .int .i64 s), (29, .bool true), (47, .bool true)] := F.sub _
      refine X.blockN ?_
      refine X.thenN ?_
      refine Y.lit (by kernel_rfl) ?_
      refine Y.pval F (X.w0 rfl) rfl (X.binop rfl (F.ev 28 (.int .i64 s)) (X.kc (.int .i64 1) rfl) (X.addI Try.underlying3 rfl (by omega) (by omega))) ?_
      clear F ac
      intro ac F
      refine Y.pval F (X.w0 rfl) rfl (X.move rfl (F.ev 50 (.int .i64 ((s : Int) + 1)))) ?_
      clear F ac
      intro ac F
      refine Y.nil ?_
      replace F : Fr ac 55 [(0, .agg #[.int .i64 gr, .int .i64 hold, .slice na n nc]), (1, .int .i64 need), (2, .pointer (some ⟨w.heap.size, 0, none⟩)), (4, .int .i64 s), (5, .int .i64 (sumC nd s nd.length)), (6, .int .i64 0), (7, .int .i64 (cluE gr hold nd)), (8, .bool true), (9, .int .i64 s), (10, .int .i64 (sumC nd s nd.length)), (11, .bool true), (15, .bool false), (24, .bool false), (27, .int .i64 (shlV 1 (gr : Int))), (28, .int .i64 ((s : Int) + 1)), (29, .bool true), (47, .bool true)] := F.sub _
      refine X.thenN ?_
      refine ⟨_, ?_, s + 1, rfl, GB_, by omega, (by rw [show chS nd need (s + 1) = ⟨true, s, sumC nd s nd.length⟩ from by simp only [chS]; exact if_pos (by simp [hac, h13])]; exact F.sub _)⟩
      omega
     | true =>
      try rw [h13] at F
      refine Y.pval F (X.w1 rfl (F.yl (j := 4) (d := 42) (b := false) rfl (by kernel_rfl))) rfl (X.move rfl (F.ev 10 (.int .i64 (sumC nd s nd.length)))) ?_
      clear F ac
      intro ac F
      refine Y.pval F (X.w1 rfl (F.yl (j := 4) (d := 42) (b := false) rfl (by kernel_rfl))) rfl (X.move rfl (F.ev 5 (.int .i64 ((chS nd need s).l)))) ?_
      clear F ac
      intro ac F
      refine Y.pval F (X.w1 rfl (F.yl (j := 4) (d := 42) (b := false) rfl (by kernel_rfl))) rfl (X.binop rfl (F.ev 43 (.int .i64 (sumC nd s nd.length))) (F.ev 44 (.int .i64 ((chS nd need s).l))) (X.lssI Try.underlying3 rfl)) ?_
      clear F ac
      intro ac F
      refine Y.pval F (X.w1 rfl (F.yl (j := 1) (d := 39) (b := true) rfl (by kernel_rfl))) rfl (X.pickF rfl (F.ev 42 (.bool false)) (F.ev 45 (.bool (decide ((sumC nd s nd.length : Int) < ((chS nd need s).l)))))) ?_
      clear F ac
      intro ac F
      refine Y.pval F (X.w0 rfl) rfl (X.pickT rfl (F.ev 39 (.bool true)) (F.ev 46 (.bool (decide ((sumC nd s nd.length : Int) < ((chS nd need s).l)))))) ?_
      clear F ac
      intro ac F
      refine Y.nil ?_
      replace F : Fr ac 55 [(0, .agg #[.int .i64 gr, .int .i64 hold, .slice na n nc]), (1, .int .i64 need), (2, .pointer (some ⟨w.heap.size, 0, none⟩)), (4, .int .i64 ((chS nd need s).g)), (5, .int .i64 ((chS nd need s).l)), (6, .int .i64 0), (7, .int .i64 (cluE gr hold nd)), (8, .bool true), (9, .int .i64 s), (10, .int .i64 (sumC nd s nd.length)), (11, .bool true), (15, .bool false), (24, .bool false), (27, .int .i64 (shlV 1 (gr : Int))), (28, .int .i64 s), (29, .bool true), (47, .bool (decide ((sumC nd s nd.length : Int) < ((chS nd need s).l))))] := F.sub _
      refine X.thenN ?_
      cases h14 : decide ((sumC nd s nd.length : Int) < ((chS nd need s).l)) with
      | false =>
       try rw [h14] at F
       have h14p : ¬ ((sumC nd s nd.length : Int) < ((chS nd need s).l)) := of_decide_eq_false h14
       refine Y.condF (F.ev 47 (.bool false)) ?_
       refine Y.skip ?_
       refine X.blockN ?_
       refine X.thenN ?_
       refine Y.lit (by kernel_rfl) ?_
       refine Y.pval F (X.w0 rfl) rfl (X.binop rfl (F.ev 28 (.int .i64 s)) (X.kc (.int .i64 1) rfl) (X.addI Try.underlying3 rfl (by omega) (by omega))) ?_
       clear F ac
       intro ac F
       refine Y.pval F (X.w0 rfl) rfl (X.move rfl (F.ev 50 (.int .i64 ((s : Int) + 1)))) ?_
       clear F ac
       intro ac F
       refine Y.nil ?_
       replace F : Fr ac 55 [(0, .agg #[.int .i64 gr, .int .i64 hold, .slice na n nc]), (1, .int .i64 need), (2, .pointer (some ⟨w.heap.size, 0, none⟩)), (4, .int .i64 ((chS nd need s).g)), (5, .int .i64 ((chS nd need s).l)), (6, .int .i64 0), (7, .int .i64 (cluE gr hold nd)), (8, .bool true), (9, .int .i64 s), (10, .int .i64 (sumC nd s nd.length)), (11, .bool true), (15, .bool false), (24, .bool false), (27, .int .i64 (shlV 1 (gr : Int))), (28, .int .i64 ((s : Int) + 1)), (29, .bool true), (47, .bool false)] := F.sub _
       refine X.thenN ?_
       refine ⟨_, ?_, s + 1, rfl, GB_, by omega, (by rw [show chS nd need (s + 1) = chS nd need s from by simp only [chS]; exact if_neg (by simp [hac, h13, h14p])]; rw [h13]; exact F.sub _)⟩
       omega
      | true =>
       try rw [h14] at F
       have h14p : ((sumC nd s nd.length : Int) < ((chS nd need s).l)) := of_decide_eq_true h14
       refine Y.condT (F.ev 47 (.bool true)) ?_
       refine Y.lit (by kernel_rfl) ?_
       refine Y.pval F (X.w0 rfl) rfl (X.move rfl (F.ev 9 (.int .i64 s))) ?_
       clear F ac
       intro ac F
       refine Y.pval F (X.w0 rfl) rfl (X.move rfl (F.ev 10 (.int .i64 (sumC nd s nd.length)))) ?_
       clear F ac
       intro ac F
       refine Y.pval F (X.w0 rfl) rfl (X.assign rfl (F.ev 48 (.int .i64 s))) ?_
       clear F ac
       intro ac F
       refine Y.pval F (X.w0 rfl) rfl (X.assign rfl (F.ev 49 (.int .i64 (sumC nd s nd.length)))) ?_
       clear F ac
       intro ac F
       refine Y.pval F (X.w0 rfl) rfl (X.assign rfl (X.kc (.bool true) rfl)) ?_
       clear F ac
       intro ac F
       refine Y.nil ?_
       replace F : Fr ac 55 [(0, .agg #[.int .i64 gr, .int .i64 hold, .slice na n nc]), (1, .int .i64 need), (2, .pointer (some ⟨w.heap.size, 0, none⟩)), (4, .int .i64 s), (5, .int .i64 (sumC nd s nd.length)), (6, .int .i64 0), (7, .int .i64 (cluE gr hold nd)), (8, .bool true), (9, .int .i64 s), (10, .int .i64 (sumC nd s nd.length)), (11, .bool true), (15, .bool false), (24, .bool false), (27, .int .i64 (shlV 1 (gr : Int))), (28, .int .i64 s), (29, .bool true), (47, .bool true)] := F.sub _
       refine X.blockN ?_
       refine X.thenN ?_
       refine Y.lit (by kernel_rfl) ?_
       refine Y.pval F (X.w0 rfl) rfl (X.binop rfl (F.ev 28 (.int .i64 s)) (X.kc (.int .i64 1) rfl) (X.addI Try.underlying3 rfl (by omega) (by omega))) ?_
       clear F ac
       intro ac F
       refine Y.pval F (X.w0 rfl) rfl (X.move rfl (F.ev 50 (.int .i64 ((s : Int) + 1)))) ?_
       clear F ac
       intro ac F
       refine Y.nil ?_
       replace F : Fr ac 55 [(0, .agg #[.int .i64 gr, .int .i64 hold, .slice na n nc]), (1, .int .i64 need), (2, .pointer (some ⟨w.heap.size, 0, none⟩)), (4, .int .i64 s), (5, .int .i64 (sumC nd s nd.length)), (6, .int .i64 0), (7, .int .i64 (cluE gr hold nd)), (8, .bool true), (9, .int .i64 s), (10, .int .i64 (sumC nd s nd.length)), (11, .bool true), (15, .bool false), (24, .bool false), (27, .int .i64 (shlV 1 (gr : Int))), (28, .int .i64 ((s : Int) + 1)), (29, .bool true), (47, .bool true)] := F.sub _
       refine X.thenN ?_
       refine ⟨_, ?_, s + 1, rfl, GB_, by omega, (by rw [show chS nd need (s + 1) = ⟨true, s, sumC nd s nd.length⟩ from by simp only [chS]; exact if_pos (by simp [hac, h13, h14p])]; exact F.sub _)⟩
       omega
 | true =>
  try rw [h5] at F
  have h5p : ¬ (cluE gr hold nd : Int) = 0 := by simpa using h5
  have hE : ¬ cluE gr hold nd = 0 := by simpa using h5p
  refine Y.condT (F.ev 15 (.bool true)) ?_
  refine Y.seq ?_
  refine Y.lit (by kernel_rfl) ?_
  refine Y.pval F (X.w0 rfl) rfl (X.move rfl (F.ev 7 (.int .i64 (cluE gr hold nd)))) ?_
  clear F ac
  intro ac F
  refine Y.pval F (X.w0 rfl) rfl (X.assign rfl (X.kc (.int .i64 0) rfl)) ?_
  clear F ac
  intro ac F
  refine Y.pval F (X.w0 rfl) rfl (X.assign rfl (X.kc (.int .i64 0) rfl)) ?_
  clear F ac
  intro ac F
  refine Y.pval F (X.w0 rfl) rfl (X.assign rfl (F.ev 16 (.int .i64 (cluE gr hold nd)))) ?_
  clear F ac
  intro ac F
  refine Y.nil ?_
  replace F : Fr ac 55 [(0, .agg #[.int .i64 gr, .int .i64 hold, .slice na n nc]), (1, .int .i64 need), (2, .pointer (some ⟨w.heap.size, 0, none⟩)), (4, .int .i64 0), (5, .int .i64 0), (6, .int .i64 (cluE gr hold nd)), (7, .int .i64 (cluE gr hold nd)), (15, .bool true)] := F.sub _
  refine X.thenN ?_
  refine Y.ret ?_
  refine X.thenR ?_
  have eE : chE gr hold nd need = cluE gr hold nd := by rw [chE, if_pos hE]
  exact Y.ret0 (v := .tuple #[.int .i64 0, .int .i64 0, .int .i64 (cluE gr hold nd)]) F (Y.rs3 F rfl (by kernel_rfl) (by kernel_rfl) (by kernel_rfl)) ⟨by rw [chG, chL, eE, if_neg hE, if_neg hE], G⟩
end
section
open Go.RowKit

set_option maxRecDepth 100000 in
set_option maxHeartbeats 400000 in
theorem same_any (a b : Option Addr) (n c m d : Nat) (xs ys : List Int) (w : World) (hx : Ints w a n xs) (hy : Ints w b m ys) :
  Calls Try.prog 27 #[.slice a n c, .slice b m d] w fun e w' => e = .returned (.bool (decide (xs = ys))) ∧ Gr w w' := by
 have G := Gr.refl w
 have hxl := hx.len
 have hyl := hy.len
 have hlt := hx.lt
 have hlt2 := hy.lt
 refine Y.calls 26 Try.func27 rfl rfl ?_
 intro ac F0
 have F : Fr ac 26 [(0, .slice a n c), (1, .slice b m d)] := F0.sub _
 clear F0
 refine Y.seq ?_
 refine Y.lit (by kernel_rfl) ?_
 refine Y.pval F (X.w0 rfl) rfl (X.assign rfl (X.kc (.bool false) rfl)) ?_
 clear F ac
 intro ac F
 refine Y.nil ?_
 replace F : Fr ac 26 [(0, .slice a n c), (1, .slice b m d), (4, .bool false)] := F.sub _
 refine X.thenN ?_
 refine Y.seq ?_
 refine Y.seq ?_
 refine Y.lit (by kernel_rfl) ?_
 refine Y.pval F (X.w0 rfl) rfl (X.move rfl (F.ev 0 (.slice a n c))) ?_
 clear F ac
 intro ac F
 refine Y.pval F (X.w0 rfl) rfl (X.len1 Try.underlying34 rfl (F.ev 6 (.slice a n c))) ?_
 clear F ac
 intro ac F
 refine Y.pval F (X.w0 rfl) rfl (X.move rfl (F.ev 1 (.slice b m d))) ?_
 clear F ac
 intro ac F
 refine Y.pval F (X.w0 rfl) rfl (X.len1 Try.underlying34 rfl (F.ev 8 (.slice b m d))) ?_
 clear F ac
 intro ac F
 refine Y.pval F (X.w0 rfl) rfl (X.binop rfl (F.ev 7 (.int .i64 n)) (F.ev 9 (.int .i64 m)) (X.neqI Try.underlying3 rfl)) ?_
 clear F ac
 intro ac F
 refine Y.nil ?_
 replace F : Fr ac 26 [(0, .slice a n c), (1, .slice b m d), (4, .bool false), (10, .bool ((n : Int) != m))] := F.sub _
 refine X.thenN ?_
 cases h3 : ((n : Int) != m) with
 | false =>
  try rw [h3] at F
  have h3p : (n : Int) = m := by simpa using h3
  have hnm : m = n := by omega
  have hl2 : xs.length = ys.length := by omega
  refine Y.condF (F.ev 10 (.bool false)) ?_
  refine Y.skip ?_
  refine X.thenN ?_
  refine Y.seq ?_
  refine Y.seq ?_
  refine Y.lit (by kernel_rfl) ?_
  refine Y.pval F (X.w0 rfl) rfl (X.assign rfl (X.kc (.int .i64 0) rfl)) ?_
  clear F ac
  intro ac F
  refine Y.nil ?_
  replace F : Fr ac 26 [(0, .slice a n c), (1, .slice b m d), (4, .bool false), (5, .int .i64 0), (10, .bool false)] := F.sub _
  refine X.thenN ?_
  refine Y.block ?_
  have hxB := hx
  have hyB := hy
  have GB := G
  refine Y.loop (fun me_ ac wr => ∃ (i : Nat), me_ = n - i ∧ Gr w wr ∧ i ≤ n ∧ (∀ j, j < i → xs[j]?.getD 0 = ys[j]?.getD 0) ∧ Fr ac 26 [(0, .slice a n c), (1, .slice b m d), (5, .int .i64 i), (10, .bool false)]) _ ⟨0, rfl, Gr.refl _, Nat.zero_le _, fun j h => by omega, F.sub _⟩ ?_
  clear F
  intro me_ ac w4 hI
  obtain ⟨i, rfl, gr, hi, hsame, F⟩ := hI
  replace G := GB.trans gr
  replace hx := hxB.gr gr
  replace hy := hyB.gr gr
  have GB_ := gr
  clear gr
  refine Y.seq ?_
  refine Y.seq ?_
  refine Y.lit (by kernel_rfl) ?_
  refine Y.pval F (X.w0 rfl) rfl (X.move rfl (F.ev 5 (.int .i64 i))) ?_
  clear F ac
  intro ac F
  refine Y.pval F (X.w0 rfl) rfl (X.move rfl (F.ev 0 (.slice a n c))) ?_
  clear F ac
  intro ac F
  refine Y.pval F (X.w0 rfl) rfl (X.len1 Try.underlying34 rfl (F.ev 12 (.slice a n c))) ?_
  clear F ac
  intro ac F
  refine Y.pval F (X.w0 rfl) rfl (X.binop rfl (F.ev 11 (.int .i64 i)) (F.ev 13 (.int .i64 n)) (X.lssI Try.underlying3 rfl)) ?_
  clear F ac
  intro ac F
  refine Y.nil ?_
  replace F : Fr ac 26 [(0, .slice a n c), (1, .slice b m d), (5, .int .i64 i), (10, .bool false), (14, .bool (decide ((i : Int) < n)))] := F.sub _
  refine X.thenN ?_
  cases h5 : decide ((i : Int) < n) with
  | false =>
   try rw [h5] at F
   have h5p : ¬ ((i : Int) < n) := of_decide_eq_false h5
   have hin : i = n := by omega
   refine Y.condF (F.ev 14 (.bool false)) ?_
   refine Y.exit ?_
   refine X.thenX ?_
   refine X.thenX ?_
   refine X.blockX ?_
   refine X.thenN ?_
   refine Y.seq ?_
   refine Y.lit (by kernel_rfl) ?_
   refine Y.pval F (X.w0 rfl) rfl (X.assign rfl (X.kc (.bool true) rfl)) ?_
   clear F ac
   intro ac F
   refine Y.nil ?_
   replace F : Fr ac 26 [(0, .slice a n c), (1, .slice b m d), (4, .bool true), (5, .int .i64 i), (10, .bool false), (14, .bool false)] := F.sub _
   refine X.thenN ?_
   refine Y.ret ?_
   exact Y.ret0 (v := .bool true) F (Y.rs1 F rfl (by kernel_rfl)) ⟨by rw [same_yes hl2 (fun j hj => hsame j (by omega))], G⟩
  | true =>
   try rw [h5] at F
   have h5p : ((i : Int) < n) := of_decide_eq_true h5
   refine Y.condT (F.ev 14 (.bool true)) ?_
   refine Y.skip ?_
   refine X.thenN ?_
   refine Y.seq ?_
   refine Y.block ?_
   refine Y.seq ?_
   obtain ⟨pd6, pe6, -, pc6⟩ := hx.at (j := i) (by omega)
   subst pe6
   have hC : RCells w4 [(pd6.add i, .int .i64 (xs[i]?.getD 0))] := (RCells.cons pc6 (RCells.nil _))
   clear pc6
   obtain ⟨pd7, pe7, -, pc7⟩ := hy.at (j := i) (by omega)
   subst pe7
   replace hC : RCells w4 [(pd6.add i, .int .i64 (xs[i]?.getD 0)), (pd7.add i, .int .i64 (ys[i]?.getD 0))] := hC.append ((RCells.cons pc7 (RCells.nil _)))
   clear pc7
   refine Y.region F [some (.slice (some pd6) n c), some (.int .i64 i), some (.pointer (some (pd6.add i))), some (.int .i64 (xs[i]?.getD 0)), some (.slice (some pd7) m d), some (.int .i64 i), some (.pointer (some (pd7.add i))), some (.int .i64 (ys[i]?.getD 0)), some (.bool ((xs[i]?.getD 0 : Int) != (ys[i]?.getD 0)))] [] rfl ⟨by kernel_rfl, of_decide_eq_true (by kernel_rfl), by kernel_rfl, by kernel_rfl, by kernel_rfl⟩ ⟨?_, ?_, ?_, ?_, ?_, ?_, ?_, ?_, ?_, trivial⟩ ?_
   ·intro ac done u W Sx hR
    exact X.val (X.w0 rfl) rfl (X.move rfl (Sx.ev 0 (.slice (some pd6) n c))) (hR.step (Gr.refl _) rfl)
   ·intro ac done u W Sx hR
    exact X.val (X.w0 rfl) rfl (X.move rfl (Sx.ev 5 (.int .i64 i))) (hR.step (Gr.refl _) rfl)
   ·intro ac done u W Sx hR
    exact X.val (X.w0 rfl) rfl (X.index rfl (Sx.ev 17 (.slice (some pd6) n c)) (Sx.ev 18 (.int .i64 i)) (X.idx (k := i) Try.underlying34 (Try.siz3 _) (by omega) (by omega) (by rw [Nat.mul_one]))) (hR.step (Gr.refl _) rfl)
   ·intro ac done u W Sx hR
    have g : Gr w4 W := hR.1
    exact X.val (X.w0 rfl) rfl (X.load rfl (Sx.ev 19 (.pointer (some (pd6.add i)))) (X.ld1 (Try.agg3 _) ((hC.gr g).at 0 rfl))) (hR.step (Gr.refl _) rfl)
   ·intro ac done u W Sx hR
    exact X.val (X.w0 rfl) rfl (X.move rfl (Sx.ev 1 (.slice (some pd7) m d))) (hR.step (Gr.refl _) rfl)
   ·intro ac done u W Sx hR
    exact X.val (X.w0 rfl) rfl (X.move rfl (Sx.ev 5 (.int .i64 i))) (hR.step (Gr.refl _) rfl)
   ·intro ac done u W Sx hR
    exact X.val (X.w0 rfl) rfl (X.index rfl (Sx.ev 21 (.slice (some pd7) m d)) (Sx.ev 22 (.int .i64 i)) (X.idx (k := i) Try.underlying34 (Try.siz3 _) (by omega) (by omega) (by rw [Nat.mul_one]))) (hR.step (Gr.refl _) rfl)
   ·intro ac done u W Sx hR
    have g : Gr w4 W := hR.1
    exact X.val (X.w0 rfl) rfl (X.load rfl (Sx.ev 23 (.pointer (some (pd7.add i)))) (X.ld1 (Try.agg3 _) ((hC.gr g).at 1 rfl))) (hR.step (Gr.refl _) rfl)
   ·intro ac done u W Sx hR
    exact X.val (X.w0 rfl) rfl (X.binop rfl (Sx.ev 20 (.int .i64 (xs[i]?.getD 0))) (Sx.ev 24 (.int .i64 (ys[i]?.getD 0))) (X.neqI Try.underlying3 rfl)) (hR.step (Gr.refl _) rfl)
   intro ac u w8 hs hd hl ho hR
   have g : Gr w4 w8 := hR.1
   replace F : Fr ac 26 [(0, .slice (some pd6) n c), (1, .slice (some pd7) m d), (5, .int .i64 i), (10, .bool false), (14, .bool true), (25, .bool ((xs[i]?.getD 0 : Int) != (ys[i]?.getD 0)))] := X.fr hs hd hl _ (by kernel_rfl)
   clear hs hd hl ho hR
   replace G := G.trans g
   replace hC := hC.gr g
   replace GB_ := GB_.trans g
   replace hx := hx.gr g
   replace hy := hy.gr g
   clear g
   refine X.thenN ?_
   cases h9 : ((xs[i]?.getD 0 : Int) != (ys[i]?.getD 0)) with
   | false =>
    try rw [h9] at F
    have h9p : (xs[i]?.getD 0 : Int) = (ys[i]?.getD 0) := by simpa using h9
    refine Y.condF (F.ev 25 (.bool false)) ?_
    refine Y.skip ?_
    refine X.blockN ?_
    refine X.thenN ?_
    refine Y.lit (by kernel_rfl) ?_
    refine Y.pval F (X.w0 rfl) rfl (X.move rfl (F.ev 5 (.int .i64 i))) ?_
    clear F ac
    intro ac F
    refine Y.pval F (X.w0 rfl) rfl (X.binop rfl (F.ev 15 (.int .i64 i)) (X.kc (.int .i64 1) rfl) (X.addI Try.underlying3 rfl (by omega) (by omega))) ?_
    clear F ac
    intro ac F
    refine Y.pval F (X.w0 rfl) rfl (X.assign rfl (F.ev 16 (.int .i64 ((i : Int) + 1)))) ?_
    clear F ac
    intro ac F
    refine Y.nil ?_
    replace F : Fr ac 26 [(0, .slice (some pd6) n c), (1, .slice (some pd7) m d), (5, .int .i64 ((i : Int) + 1)), (10, .bool false), (14, .bool true), (25, .bool false)] := F.sub _
    refine X.thenN ?_
    refine ⟨_, ?_, i + 1, rfl, GB_, by omega, fun j hj => if e : j = i then by rw [e]; exact h9p else hsame j (by omega), F.sub _⟩
    omega
   | true =>
    try rw [h9] at F
    have h9p : ¬ (xs[i]?.getD 0 : Int) = (ys[i]?.getD 0) := by simpa using h9
    refine Y.condT (F.ev 25 (.bool true)) ?_
    refine Y.seq ?_
    refine Y.lit (by kernel_rfl) ?_
    refine Y.pval F (X.w0 rfl) rfl (X.assign rfl (X.kc (.bool false) rfl)) ?_
    clear F ac
    intro ac F
    refine Y.nil ?_
    replace F : Fr ac 26 [(0, .slice (some pd6) n c), (1, .slice (some pd7) m d), (4, .bool false), (5, .int .i64 i), (10, .bool false), (14, .bool true), (25, .bool true)] := F.sub _
    refine X.thenN ?_
    refine Y.ret ?_
    refine X.blockR ?_
    refine X.thenR ?_
    refine X.thenR ?_
    refine X.blockR ?_
    refine X.thenR ?_
    exact Y.ret0 (v := .bool false) F (Y.rs1 F rfl (by kernel_rfl)) ⟨by rw [same_no (by omega) hl2 h9p], G⟩
 | true =>
  try rw [h3] at F
  have h3p : ¬ (n : Int) = m := by simpa using h3
  refine Y.condT (F.ev 10 (.bool true)) ?_
  refine Y.seq ?_
  refine Y.lit (by kernel_rfl) ?_
  refine Y.pval F (X.w0 rfl) rfl (X.assign rfl (X.kc (.bool false) rfl)) ?_
  clear F ac
  intro ac F
  refine Y.nil ?_
  replace F : Fr ac 26 [(0, .slice a n c), (1, .slice b m d), (4, .bool false), (10, .bool true)] := F.sub _
  refine X.thenN ?_
  refine Y.ret ?_
  refine X.thenR ?_
  exact Y.ret0 (v := .bool false) F (Y.rs1 F rfl (by kernel_rfl)) ⟨by rw [show decide (xs = ys) = false by simp only [decide_eq_false_iff_not]; intro e; subst e; omega], G⟩
end
section
open Go.RowKit

theorem st_only {S : Nat → Prop} {w w' : World} {k : Nat} {a : Option Addr} {n : Nat} {L : List (List Int)} (h : StAt w k a n L) (g : Only S w w') (hn : ∀ ad, a = some ad → ¬ S ad.block) : StAt w' k a n L :=
  ⟨h.1, h.2.1, fun j hj => by
    obtain ⟨ad, e, hb, hl, hc⟩ := h.2.2 j hj
    exact ⟨ad, e, Nat.lt_of_lt_of_le hb g.size, hl, fun r hr => g.cell (hc r hr) (by rw [add_block, add_block]; exact hn ad e)⟩⟩
set_option maxRecDepth 100000 in
set_option maxHeartbeats 400000 in
theorem example_any (w : World) :
  Calls Try.prog 43 #[] w fun e w' => ∃ a, e = .returned (.agg #[.int .i64 2, .int .i64 3, .slice a 3 3]) ∧ StAt w' 5 a 3 exN ∧ Gr w w' := by
 have G := Gr.refl w
 refine Y.calls 6 Try.func43 rfl rfl ?_
 intro ac F0
 have F : Fr ac 6 [] := F0.sub _
 clear F0
 refine Y.seq ?_
 refine Y.lit (by kernel_rfl) ?_
 refine Y.pval F (X.w0 rfl) rfl (Y.al rfl (Try.new24 _)) ?_
 clear F ac
 intro ac F
 have g := Gr.alloc w (.cells #[.int .i64 0, .int .i64 0, .slice none 0 0] 24)
 have hb := heap_alloc_new w (.cells #[.int .i64 0, .int .i64 0, .slice none 0 0] 24)
 have hbl : w.heap.size < (w.alloc (.cells #[.int .i64 0, .int .i64 0, .slice none 0 0] 24)).heap.size := by simp
 generalize w.alloc (.cells #[.int .i64 0, .int .i64 0, .slice none 0 0] 24) = w3 at *
 replace G := G.trans g
 have hV := ownP_box (vs := [.int .i64 0, .int .i64 0, .slice none 0 0]) hb
 clear g hb hbl
 have hVl : w.heap.size < w3.heap.size := hV.lt
 refine Y.nil ?_
 replace F : Fr ac 6 [(0, .pointer (some ⟨w.heap.size, 0, none⟩))] := F.sub _
 refine X.thenN ?_
 refine Y.seq ?_
 refine Y.lit (by kernel_rfl) ?_
 refine Y.pval F (X.w0 rfl) rfl (Y.bd rfl rfl (Try.exb1 _)) ?_
 clear F ac
 intro ac F
 refine Y.pval F (X.w0 rfl) rfl (Y.bd rfl rfl (Try.exb2 _)) ?_
 clear F ac
 intro ac F
 refine Y.pval F (X.w0 rfl) rfl (Y.bd rfl rfl (Try.exb3 _)) ?_
 clear F ac
 intro ac F
 refine Y.pval F (X.w0 rfl) rfl (X.bs rfl (Y.b3 (F.ev 1 (.agg #[.int .i64 1, .int .i64 10, .int .i64 1, .int .i64 1, .int .i64 5])) (F.ev 2 (.agg #[.int .i64 3, .int .i64 20, .int .i64 2, .int .i64 2, .int .i64 10])) (F.ev 3 (.agg #[.int .i64 2, .int .i64 30, .int .i64 0, .int .i64 0, .int .i64 1]))) (Try.exs _)) ?_
 clear F ac
 intro ac F
 have g := Gr.alloc w3 (.cells #[.int .i64 1, .int .i64 10, .int .i64 1, .int .i64 1, .int .i64 5, .int .i64 3, .int .i64 20, .int .i64 2, .int .i64 2, .int .i64 10, .int .i64 2, .int .i64 30, .int .i64 0, .int .i64 0, .int .i64 1] 31)
 have hb := heap_alloc_new w3 (.cells #[.int .i64 1, .int .i64 10, .int .i64 1, .int .i64 1, .int .i64 5, .int .i64 3, .int .i64 20, .int .i64 2, .int .i64 2, .int .i64 10, .int .i64 2, .int .i64 30, .int .i64 0, .int .i64 0, .int .i64 1] 31)
 have hbl : w3.heap.size < (w3.alloc (.cells #[.int .i64 1, .int .i64 10, .int .i64 1, .int .i64 1, .int .i64 5, .int .i64 3, .int .i64 20, .int .i64 2, .int .i64 2, .int .i64 10, .int .i64 2, .int .i64 30, .int .i64 0, .int .i64 0, .int .i64 1] 31)).heap.size := by simp
 generalize w3.alloc (.cells #[.int .i64 1, .int .i64 10, .int .i64 1, .int .i64 1, .int .i64 5, .int .i64 3, .int .i64 20, .int .i64 2, .int .i64 2, .int .i64 10, .int .i64 2, .int .i64 30, .int .i64 0, .int .i64 0, .int .i64 1] 31) = w4 at *
 replace G := G.trans g
 replace hV := hV.gr g
 have hexN := exN_at hb
 clear g hb hbl
 refine Y.pval F (X.w0 rfl) rfl (Y.bd rfl (Y.b3 (X.kc (.int .i64 2) rfl) (X.kc (.int .i64 3) rfl) (F.ev 4 (.slice (some ⟨w3.heap.size, 0, none⟩) 3 3))) (Try.exc _ _ _ _ _ _)) ?_
 clear F ac
 intro ac F
 obtain ⟨w5, hrun, hS2, hon⟩ := hV.stL (P := Try.prog) (t := 24) [.int .i64 2, .int .i64 3, .slice (some ⟨w3.heap.size, 0, none⟩) 3 3] rfl (fun W => Try.siz24 W) rfl
 refine Y.punit F (X.w0 rfl) rfl (X.store rfl (F.ev 0 (.pointer (some ⟨w.heap.size, 0, none⟩))) (F.ev 5 (.agg #[.int .i64 2, .int .i64 3, .slice (some ⟨w3.heap.size, 0, none⟩) 3 3])) hrun) ?_
 clear F ac hrun
 intro ac F
 have hexN : StAt w5 5 (some ⟨w3.heap.size, 0, none⟩) 3 exN := st_only hexN hon (fun ad e h => by cases e; exact absurd h (by show ¬ w3.heap.size = w.heap.size; have := hVl; omega))
 replace G := Y.Only.up G hon (Nat.le_refl _)
 replace hV := hS2
 refine Y.nil ?_
 replace F : Fr ac 6 [(0, .pointer (some ⟨w.heap.size, 0, none⟩))] := F.sub _
 refine X.thenN ?_
 refine Y.ret ?_
 exact Y.ret0 (v := .agg #[.int .i64 2, .int .i64 3, .slice (some ⟨w3.heap.size, 0, none⟩) 3 3]) F (Y.rc13 F rfl (Try.agg24 _) (Try.siz24 _) (by kernel_rfl) hV) ⟨_, rfl, hexN, G⟩
set_option maxRecDepth 100000 in
set_option maxHeartbeats 1000000 in
theorem works_any (w : World) :
  Calls Try.prog 16 #[] w fun e w' => e = .returned (.bool true) ∧ Gr w w' := by
 have G := Gr.refl w
 refine Y.calls 40 Try.func16 rfl rfl ?_
 intro ac F0
 have F : Fr ac 40 [] := F0.sub _
 clear F0
 refine Y.seq ?_
 refine Y.lit (by kernel_rfl) ?_
 refine Y.pval F (X.w0 rfl) rfl (X.assign rfl (X.kc (.bool false) rfl)) ?_
 clear F ac
 intro ac F
 refine Y.nil ?_
 replace F : Fr ac 40 [(0, .bool false)] := F.sub _
 refine X.thenN ?_
 refine Y.seq ?_
 refine Y.lit (by kernel_rfl) ?_
 refine Y.pcall F (X.w0 rfl) rfl (X.enter (F := 43) rfl (X.kc (.func (.func 43) #[] #[]) rfl) rfl (enters_of Try.func43 (by kernel_rfl) rfl _)) (example_any w) ?_
 clear F ac
 rintro e w4 ⟨ea3, rfl, hN3, g⟩
 refine ⟨_, rfl, ?_⟩
 intro ac F
 replace G := G.trans g
 clear g
 refine Y.pval F (X.w0 rfl) rfl (Y.bd rfl rfl (Try.exn1 _)) ?_
 clear F ac
 intro ac F
 refine Y.pval F (X.w0 rfl) rfl (Y.bd rfl rfl (Try.exn2 _)) ?_
 clear F ac
 intro ac F
 refine Y.pval F (X.w0 rfl) rfl (X.bs rfl (X.b2 (F.ev 8 (.agg #[.int .i64 1, .int .i64 1, .int .i64 1, .int .i64 0])) (F.ev 9 (.agg #[.int .i64 2, .int .i64 2, .int .i64 1, .int .i64 0]))) (Try.exm _)) ?_
 clear F ac
 intro ac F
 have g := Gr.alloc w4 (.cells #[.int .i64 1, .int .i64 1, .int .i64 1, .int .i64 0, .int .i64 2, .int .i64 2, .int .i64 1, .int .i64 0] 33)
 have hb := heap_alloc_new w4 (.cells #[.int .i64 1, .int .i64 1, .int .i64 1, .int .i64 0, .int .i64 2, .int .i64 2, .int .i64 1, .int .i64 0] 33)
 have hbl : w4.heap.size < (w4.alloc (.cells #[.int .i64 1, .int .i64 1, .int .i64 1, .int .i64 0, .int .i64 2, .int .i64 2, .int .i64 1, .int .i64 0] 33)).heap.size := by simp
 generalize w4.alloc (.cells #[.int .i64 1, .int .i64 1, .int .i64 1, .int .i64 0, .int .i64 2, .int .i64 2, .int .i64 1, .int .i64 0] 33) = w5 at *
 replace G := G.trans g
 replace hN3 := hN3.gr g
 have hexL := exL_at hb
 clear g hb hbl
 refine Y.pcall F (X.w0 rfl) rfl (X.enter (F := 18) rfl (X.kc (.func (.func 18) #[] #[]) rfl) (X.a3 (F.ev 7 (.agg #[.int .i64 2, .int .i64 3, .slice ea3 3 3])) (X.kc (.int .i64 6) rfl) (F.ev 10 (.slice (some ⟨w4.heap.size, 0, none⟩) 2 2))) (enters_of Try.func18 (by kernel_rfl) rfl _)) (play_any ea3 (some ⟨w4.heap.size, 0, none⟩) 3 3 2 2 2 3 6 exN exL w5 hN3 hexL) ?_
 clear F ac
 rintro e w7 ⟨ra, rn, rc, za, zn, zc, rfl, hIr, hIe, g⟩
 rw [ex_pr] at hIr
 rw [ex_en] at hIe
 obtain rfl : 6 = rn := hIr.len
 obtain rfl : 3 = zn := hIe.len
 refine ⟨_, rfl, ?_⟩
 rw [ex_e]
 intro ac F
 replace G := G.trans g
 replace hN3 := hN3.gr g
 replace hexL := hexL.gr g
 clear g
 refine Y.pval F (X.w0 rfl) rfl (X.move rfl (F.ev 11 (.tuple #[.slice ra 6 rc, .slice za 3 zc, .int .i64 0]))) ?_
 clear F ac
 intro ac F
 refine Y.pval F (X.w0 rfl) rfl (X.extract rfl (F.ev 6 (.tuple #[.slice ra 6 rc, .slice za 3 zc, .int .i64 0])) rfl) ?_
 clear F ac
 intro ac F
 refine Y.pval F (X.w0 rfl) rfl (X.extract rfl (F.ev 6 (.tuple #[.slice ra 6 rc, .slice za 3 zc, .int .i64 0])) rfl) ?_
 clear F ac
 intro ac F
 refine Y.pval F (X.w0 rfl) rfl (X.extract rfl (F.ev 6 (.tuple #[.slice ra 6 rc, .slice za 3 zc, .int .i64 0])) rfl) ?_
 clear F ac
 intro ac F
 refine Y.pval F (X.w0 rfl) rfl (X.assign rfl (F.ev 12 (.slice ra 6 rc))) ?_
 clear F ac
 intro ac F
 refine Y.pval F (X.w0 rfl) rfl (X.assign rfl (F.ev 13 (.slice za 3 zc))) ?_
 clear F ac
 intro ac F
 refine Y.pval F (X.w0 rfl) rfl (X.assign rfl (F.ev 14 (.int .i64 0))) ?_
 clear F ac
 intro ac F
 refine Y.nil ?_
 replace F : Fr ac 40 [(0, .bool false), (1, .slice ra 6 rc), (2, .slice za 3 zc), (3, .int .i64 0)] := F.sub _
 refine X.thenN ?_
 refine Y.seq ?_
 refine Y.lit (by kernel_rfl) ?_
 refine Y.pcall F (X.w0 rfl) rfl (X.enter (F := 43) rfl (X.kc (.func (.func 43) #[] #[]) rfl) rfl (enters_of Try.func43 (by kernel_rfl) rfl _)) (example_any w7) ?_
 clear F ac
 rintro e w9 ⟨ea8, rfl, hN8, g⟩
 refine ⟨_, rfl, ?_⟩
 intro ac F
 replace G := G.trans g
 replace hN3 := hN3.gr g
 replace hexL := hexL.gr g
 replace hIr := hIr.gr g
 replace hIe := hIe.gr g
 clear g
 refine Y.pcall F (X.w0 rfl) rfl (X.enter (F := 21) rfl (X.kc (.func (.func 21) #[] #[]) rfl) (X.a2 (F.ev 16 (.agg #[.int .i64 2, .int .i64 3, .slice ea8 3 3])) (X.kc (.int .i64 8) rfl)) (enters_of Try.func21 (by kernel_rfl) rfl _)) (by have h := parked_any ea8 3 3 2 3 8 exN w9 hN8; rw [ex_p, ex_t] at h; exact h) ?_
 clear F ac
 rintro e w11 ⟨rfl, g⟩
 refine ⟨_, rfl, ?_⟩
 intro ac F
 replace G := G.trans g
 replace hN3 := hN3.gr g
 replace hexL := hexL.gr g
 replace hIr := hIr.gr g
 replace hIe := hIe.gr g
 replace hN8 := hN8.gr g
 clear g
 refine Y.pval F (X.w0 rfl) rfl (X.move rfl (F.ev 17 (.tuple #[.int .i64 186, .int .i64 0]))) ?_
 clear F ac
 intro ac F
 refine Y.pval F (X.w0 rfl) rfl (X.extract rfl (F.ev 15 (.tuple #[.int .i64 186, .int .i64 0])) rfl) ?_
 clear F ac
 intro ac F
 refine Y.pval F (X.w0 rfl) rfl (X.extract rfl (F.ev 15 (.tuple #[.int .i64 186, .int .i64 0])) rfl) ?_
 clear F ac
 intro ac F
 refine Y.pval F (X.w0 rfl) rfl (X.assign rfl (F.ev 18 (.int .i64 186))) ?_
 clear F ac
 intro ac F
 refine Y.pval F (X.w0 rfl) rfl (X.assign rfl (F.ev 19 (.int .i64 0))) ?_
 clear F ac
 intro ac F
 refine Y.nil ?_
 replace F : Fr ac 40 [(0, .bool false), (1, .slice ra 6 rc), (2, .slice za 3 zc), (3, .int .i64 0), (4, .int .i64 186), (5, .int .i64 0)] := F.sub _
 refine X.thenN ?_
 refine Y.seq ?_
 refine Y.lit (by kernel_rfl) ?_
 refine Y.pval F (X.w0 rfl) rfl (X.move rfl (F.ev 3 (.int .i64 0))) ?_
 clear F ac
 intro ac F
 refine Y.pval F (X.w0 rfl) rfl (X.binop rfl (F.ev 20 (.int .i64 0)) (X.kc (.int .i64 0) rfl) (X.eqlI Try.underlying26 (show ((0 : Int) == 0) = true by simp))) ?_
 clear F ac
 intro ac F
 refine Y.pval F (X.w0 rfl) rfl (X.move rfl (F.ev 21 (.bool true))) ?_
 clear F ac
 intro ac F
 refine Y.pval F (X.w1 rfl (F.yl (j := 2) (d := 22) (b := true) rfl (by kernel_rfl))) rfl (X.move rfl (F.ev 5 (.int .i64 0))) ?_
 clear F ac
 intro ac F
 refine Y.pval F (X.w1 rfl (F.yl (j := 2) (d := 22) (b := true) rfl (by kernel_rfl))) rfl (X.binop rfl (F.ev 23 (.int .i64 0)) (X.kc (.int .i64 0) rfl) (X.eqlI Try.underlying26 (show ((0 : Int) == 0) = true by simp))) ?_
 clear F ac
 intro ac F
 refine Y.pval F (X.w0 rfl) rfl (X.pickT rfl (F.ev 22 (.bool true)) (F.ev 24 (.bool true))) ?_
 clear F ac
 intro ac F
 refine Y.pval F (X.w0 rfl) rfl (X.move rfl (F.ev 25 (.bool true))) ?_
 clear F ac
 intro ac F
 refine Y.pval F (X.w1 rfl (F.yl (j := 6) (d := 26) (b := true) rfl (by kernel_rfl))) rfl (X.move rfl (F.ev 1 (.slice ra 6 rc))) ?_
 clear F ac
 intro ac F
 refine Y.pval F (X.w1 rfl (F.yl (j := 6) (d := 26) (b := true) rfl (by kernel_rfl))) rfl (X.bs rfl rfl (Try.exr _)) ?_
 clear F ac
 intro ac F
 have g := Gr.alloc w11 (.cells #[.int .i64 0, .int .i64 3, .int .i64 3, .int .i64 3, .int .i64 0, .int .i64 0] 3)
 have hb := heap_alloc_new w11 (.cells #[.int .i64 0, .int .i64 3, .int .i64 3, .int .i64 3, .int .i64 0, .int .i64 0] 3)
 have hbl : w11.heap.size < (w11.alloc (.cells #[.int .i64 0, .int .i64 3, .int .i64 3, .int .i64 3, .int .i64 0, .int .i64 0] 3)).heap.size := by simp
 generalize w11.alloc (.cells #[.int .i64 0, .int .i64 3, .int .i64 3, .int .i64 3, .int .i64 0, .int .i64 0] 3) = w12 at *
 replace G := G.trans g
 replace hN3 := hN3.gr g
 replace hexL := hexL.gr g
 replace hIr := hIr.gr g
 replace hIe := hIe.gr g
 replace hN8 := hN8.gr g
 have hxr := exr_at hb
 clear g hb hbl
 refine Y.pcall F (X.w1 rfl (F.yl (j := 6) (d := 26) (b := true) rfl (by kernel_rfl))) rfl (X.enter (F := 27) rfl (X.kc (.func (.func 27) #[] #[]) rfl) (X.a2 (F.ev 27 (.slice ra 6 rc)) (F.ev 28 (.slice (some ⟨w11.heap.size, 0, none⟩) 6 6))) (enters_of Try.func27 (by kernel_rfl) rfl _)) (by have hq := same_any ra (some ⟨w11.heap.size, 0, none⟩) 6 rc 6 6 ([0, 3, 3, 3, 0, 0]) ([0, 3, 3, 3, 0, 0]) w12 hIr hxr; rw [decide_eq_true rfl] at hq; exact hq) ?_
 clear F ac
 rintro e w14 ⟨rfl, g⟩
 refine ⟨_, rfl, ?_⟩
 intro ac F
 replace G := G.trans g
 replace hN3 := hN3.gr g
 replace hexL := hexL.gr g
 replace hIr := hIr.gr g
 replace hIe := hIe.gr g
 replace hN8 := hN8.gr g
 replace hxr := hxr.gr g
 clear g
 refine Y.pval F (X.w0 rfl) rfl (X.pickT rfl (F.ev 26 (.bool true)) (F.ev 29 (.bool true))) ?_
 clear F ac
 intro ac F
 refine Y.pval F (X.w0 rfl) rfl (X.move rfl (F.ev 30 (.bool true))) ?_
 clear F ac
 intro ac F
 refine Y.pval F (X.w1 rfl (F.yl (j := 11) (d := 31) (b := true) rfl (by kernel_rfl))) rfl (X.move rfl (F.ev 2 (.slice za 3 zc))) ?_
 clear F ac
 intro ac F
 refine Y.pval F (X.w1 rfl (F.yl (j := 11) (d := 31) (b := true) rfl (by kernel_rfl))) rfl (X.bs rfl rfl (Try.exq _)) ?_
 clear F ac
 intro ac F
 have g := Gr.alloc w14 (.cells #[.int .i64 33, .int .i64 66, .int .i64 0] 3)
 have hb := heap_alloc_new w14 (.cells #[.int .i64 33, .int .i64 66, .int .i64 0] 3)
 have hbl : w14.heap.size < (w14.alloc (.cells #[.int .i64 33, .int .i64 66, .int .i64 0] 3)).heap.size := by simp
 generalize w14.alloc (.cells #[.int .i64 33, .int .i64 66, .int .i64 0] 3) = w15 at *
 replace G := G.trans g
 replace hN3 := hN3.gr g
 replace hexL := hexL.gr g
 replace hIr := hIr.gr g
 replace hIe := hIe.gr g
 replace hN8 := hN8.gr g
 replace hxr := hxr.gr g
 have hxq := exq_at hb
 clear g hb hbl
 refine Y.pcall F (X.w1 rfl (F.yl (j := 11) (d := 31) (b := true) rfl (by kernel_rfl))) rfl (X.enter (F := 27) rfl (X.kc (.func (.func 27) #[] #[]) rfl) (X.a2 (F.ev 32 (.slice za 3 zc)) (F.ev 33 (.slice (some ⟨w14.heap.size, 0, none⟩) 3 3))) (enters_of Try.func27 (by kernel_rfl) rfl _)) (by have hq := same_any za (some ⟨w14.heap.size, 0, none⟩) 3 zc 3 3 ([33, 66, 0]) ([33, 66, 0]) w15 hIe hxq; rw [decide_eq_true rfl] at hq; exact hq) ?_
 clear F ac
 rintro e w17 ⟨rfl, g⟩
 refine ⟨_, rfl, ?_⟩
 intro ac F
 replace G := G.trans g
 replace hN3 := hN3.gr g
 replace hexL := hexL.gr g
 replace hIr := hIr.gr g
 replace hIe := hIe.gr g
 replace hN8 := hN8.gr g
 replace hxr := hxr.gr g
 replace hxq := hxq.gr g
 clear g
 refine Y.pval F (X.w0 rfl) rfl (X.pickT rfl (F.ev 31 (.bool true)) (F.ev 34 (.bool true))) ?_
 clear F ac
 intro ac F
 refine Y.pval F (X.w0 rfl) rfl (X.move rfl (F.ev 35 (.bool true))) ?_
 clear F ac
 intro ac F
 refine Y.pval F (X.w1 rfl (F.yl (j := 16) (d := 36) (b := true) rfl (by kernel_rfl))) rfl (X.move rfl (F.ev 4 (.int .i64 186))) ?_
 clear F ac
 intro ac F
 refine Y.pval F (X.w1 rfl (F.yl (j := 16) (d := 36) (b := true) rfl (by kernel_rfl))) rfl (X.binop rfl (F.ev 37 (.int .i64 186)) (X.kc (.int .i64 186) rfl) (X.eqlI Try.underlying3 (show ((186 : Int) == 186) = true by simp))) ?_
 clear F ac
 intro ac F
 refine Y.pval F (X.w0 rfl) rfl (X.pickT rfl (F.ev 36 (.bool true)) (F.ev 38 (.bool true))) ?_
 clear F ac
 intro ac F
 refine Y.pval F (X.w0 rfl) rfl (X.assign rfl (F.ev 39 (.bool true))) ?_
 clear F ac
 intro ac F
 refine Y.nil ?_
 replace F : Fr ac 40 [(0, .bool true), (1, .slice ra 6 rc), (2, .slice za 3 zc), (3, .int .i64 0), (4, .int .i64 186), (5, .int .i64 0)] := F.sub _
 refine X.thenN ?_
 refine Y.ret ?_
 exact Y.ret0 (v := .bool true) F (Y.rs1 F rfl (by kernel_rfl)) ⟨rfl, G⟩
end
end Go.Proofs.Ytoalamakhjbedaa
