/- Several texts of this claim in one file. (1) Contract: the greatest number of awake ticks, by a table. (2) Contract: the reference's energy. (3) Contracts: the reference's sum and Parked. (4) Whoever has more tokens, or gets them sooner, or stays awake longer, can be kept awake in no fewer ticks. Nothing of the program is proved here. (5) A cluster with a node turned; a copy of a slice of structures. Nothing of the program is walked here. -/
import Derived.Test.YtoalamakhjbedaaBd14
import Derived.Test.YtoalamakhjbedaaBd8
import Derived.Test.YtoalamakhjbedaaBd3
namespace Go.Proofs.Ytoalamakhjbedaa
section
open Go.RowKit

/-- a row in the making -/
def rowF (p : Nd) (y x : Nat) : Nat → Int := fun k => if k < x then mvV p y k else 0
theorem row_zero (p : Nd) (y : Nat) {N : Nat} : ∀ k, k < N → EV (fun _ => 0) k = EV (rowF p y 0) k := fun k _ => by simp [EV, rowF]
theorem row_up {p : Nd} {y x N : Nat} {v : Int} (h : v = mvV p y x) : ∀ k, k < N → EV (fun z_ => if z_ = x then v else rowF p y x z_) k = EV (rowF p y (x + 1)) k := fun k _ => by
  subst h
  show Value.int .i64 (if k = x then mvV p y x else if k < x then mvV p y k else 0) = Value.int .i64 (if k < x + 1 then mvV p y k else 0)
  by_cases e : k = x
  · subst e; rw [if_pos rfl, if_pos (by omega)]
  · rw [if_neg e]
    by_cases e2 : k < x
    · rw [if_pos e2, if_pos (by omega)]
    · rw [if_neg e2, if_neg (by omega)]
theorem row_done {p : Nd} {y x N : Nat} (h : x = N ∨ p.T ≤ y) : ∀ k, k < N → EV (rowF p y x) k = EV (fun k => mvV p y k) k := fun k hk => by
  show Value.int .i64 (if k < x then mvV p y k else 0) = Value.int .i64 (mvV p y k)
  by_cases e : k < x
  · rw [if_pos e]
  · rw [if_neg e]
    rcases h with h | h
    · omega
    · rw [mv_done _ h]

set_option maxRecDepth 100000 in
set_option maxHeartbeats 1000000 in
theorem most_any (gq aw za : Int) (pn qn sn tn : Nat) (w : World) (hpn : pn ≤ 20) (hqn : 1 ≤ qn) (hqn2 : qn ≤ 1000) (hsn : 1 ≤ sn) (hsn2 : sn ≤ 100) (htn : tn ≤ 1000) :
  Calls Try.prog 76 #[.agg #[.int .i64 gq, .int .i64 aw, .int .i64 za, .int .i64 pn, .int .i64 qn], .int .i64 sn, .int .i64 tn] w fun e w' => e = .returned (.int .i64 (mvV (onP pn qn sn tn) 0 pn)) ∧ Gr w w' := by
 have G := Gr.refl w
 have hpk := onP_ok hpn hqn hqn2 hsn hsn2 htn
 refine Y.calls 102 Try.func76 rfl rfl ?_
 intro ac F0
 have F : Fr ac 102 [(0, .agg #[.int .i64 gq, .int .i64 aw, .int .i64 za, .int .i64 pn, .int .i64 qn]), (1, .int .i64 sn), (2, .int .i64 tn)] := F0.sub _
 clear F0
 refine Y.seq ?_
 refine Y.lit (by kernel_rfl) ?_
 refine Y.pval F (X.w0 rfl) rfl (X.box rfl (F.ev 0 (.agg #[.int .i64 gq, .int .i64 aw, .int .i64 za, .int .i64 pn, .int .i64 qn])) X.bx) ?_
 clear F ac
 intro ac F
 have g := Gr.alloc w (.cells #[.int .i64 gq, .int .i64 aw, .int .i64 za, .int .i64 pn, .int .i64 qn] 31)
 have hb := heap_alloc_new w (.cells #[.int .i64 gq, .int .i64 aw, .int .i64 za, .int .i64 pn, .int .i64 qn] 31)
 have hbl : w.heap.size < (w.alloc (.cells #[.int .i64 gq, .int .i64 aw, .int .i64 za, .int .i64 pn, .int .i64 qn] 31)).heap.size := by simp
 have hC2 : RCells (w.alloc (.cells #[.int .i64 gq, .int .i64 aw, .int .i64 za, .int .i64 pn, .int .i64 qn] 31)) [(⟨w.heap.size, 0, none⟩, .int .i64 gq), (⟨w.heap.size, 1, none⟩, .int .i64 aw), (⟨w.heap.size, 2, none⟩, .int .i64 za), (⟨w.heap.size, 3, none⟩, .int .i64 pn), (⟨w.heap.size, 4, none⟩, .int .i64 qn)] := (RCells.nil w).box (b := w.heap.size) #[.int .i64 gq, .int .i64 aw, .int .i64 za, .int .i64 pn, .int .i64 qn] 31 rfl
 generalize w.alloc (.cells #[.int .i64 gq, .int .i64 aw, .int .i64 za, .int .i64 pn, .int .i64 qn] 31) = w3 at *
 replace G := G.trans g
 have hC := hC2
 clear hC2
 clear g hb hbl
 have hsb : w.heap.size < w3.heap.size := lt_cell (hC.at 0 rfl)
 refine Y.pval F (X.w0 rfl) rfl (X.assign rfl (X.kc (.int .i64 0) rfl)) ?_
 clear F ac
 intro ac F
 refine Y.nil ?_
 replace F : Fr ac 102 [(0, .agg #[.int .i64 gq, .int .i64 aw, .int .i64 za, .int .i64 pn, .int .i64 qn]), (1, .int .i64 sn), (2, .int .i64 tn), (3, .pointer (some ⟨w.heap.size, 0, none⟩)), (6, .int .i64 0)] := F.sub _
 refine X.thenN ?_
 refine Y.seq ?_
 refine Y.lit (by kernel_rfl) ?_
 refine Y.pval F (X.w0 rfl) rfl (X.move rfl (F.ev 2 (.int .i64 tn))) ?_
 clear F ac
 intro ac F
 refine Y.pval F (X.w0 rfl) rfl (X.binop rfl (F.ev 13 (.int .i64 tn)) (X.kc (.int .i64 1) rfl) (X.addI Try.underlying3 rfl (by omega) (by omega))) ?_
 clear F ac
 intro ac F
 obtain ⟨w4, hmk, hTo, g⟩ := make138 w3 (N := tn + 1) (x := (tn : Int) + 1) (by omega) (by omega)
 have htb : w.heap.size ≤ w3.heap.size := G.size
 refine Y.pval F (X.w0 rfl) rfl (Y.mk rfl (F.ev 14 (.int .i64 ((tn : Int) + 1))) (F.ev 14 (.int .i64 ((tn : Int) + 1))) hmk) ?_
 clear F ac hmk
 intro ac F
 replace G := G.trans g
 replace hC := hC.gr g
 clear g
 have hT : TbH w4 w3.heap.size tn (pn + 1) (onP pn qn sn tn) (tn + 1) (w4.heap.size) w.heap.size := TbH.new hTo htb hTo.lt
 clear hTo
 obtain ⟨tb, htbe⟩ : ∃ tb, w3.heap.size = tb := ⟨_, rfl⟩
 rw [htbe] at F hT htb
 have hsb2 : ¬ w.heap.size = tb := by omega
 refine Y.pval F (X.w0 rfl) rfl (X.assign rfl (F.ev 15 (.slice (some ⟨tb, 0, none⟩) (tn + 1) (tn + 1)))) ?_
 clear F ac
 intro ac F
 refine Y.nil ?_
 replace F : Fr ac 102 [(0, .agg #[.int .i64 gq, .int .i64 aw, .int .i64 za, .int .i64 pn, .int .i64 qn]), (1, .int .i64 sn), (2, .int .i64 tn), (3, .pointer (some ⟨w.heap.size, 0, none⟩)), (6, .int .i64 0), (7, .slice (some ⟨tb, 0, none⟩) (tn + 1) (tn + 1))] := F.sub _
 refine X.thenN ?_
 refine Y.seq ?_
 refine Y.seq ?_
 refine Y.lit (by kernel_rfl) ?_
 refine Y.pval F (X.w0 rfl) rfl (X.move rfl (F.ev 2 (.int .i64 tn))) ?_
 clear F ac
 intro ac F
 refine Y.pval F (X.w0 rfl) rfl (X.assign rfl (F.ev 16 (.int .i64 tn))) ?_
 clear F ac
 intro ac F
 refine Y.nil ?_
 replace F : Fr ac 102 [(0, .agg #[.int .i64 gq, .int .i64 aw, .int .i64 za, .int .i64 pn, .int .i64 qn]), (1, .int .i64 sn), (2, .int .i64 tn), (3, .pointer (some ⟨w.heap.size, 0, none⟩)), (6, .int .i64 0), (7, .slice (some ⟨tb, 0, none⟩) (tn + 1) (tn + 1)), (8, .int .i64 tn)] := F.sub _
 refine X.thenN ?_
 refine Y.block ?_
 refine Y.loop (fun me_ ac wr => ∃ (z : Nat), me_ = z + 1 ∧ z ≤ tn + 1 ∧ Gr w wr ∧ RCells wr [(⟨w.heap.size, 0, none⟩, .int .i64 gq), (⟨w.heap.size, 1, none⟩, .int .i64 aw), (⟨w.heap.size, 2, none⟩, .int .i64 za), (⟨w.heap.size, 3, none⟩, .int .i64 pn), (⟨w.heap.size, 4, none⟩, .int .i64 qn)] ∧ TbH wr tb tn (pn + 1) (onP pn qn sn tn) z (wr.heap.size) w.heap.size ∧ Fr ac 102 [(0, .agg #[.int .i64 gq, .int .i64 aw, .int .i64 za, .int .i64 pn, .int .i64 qn]), (1, .int .i64 sn), (2, .int .i64 tn), (3, .pointer (some ⟨w.heap.size, 0, none⟩)), (6, .int .i64 0), (7, .slice (some ⟨tb, 0, none⟩) (tn + 1) (tn + 1)), (8, .int .i64 ((z : Int) - 1))]) _ ⟨tn + 1, rfl, Nat.le_refl _, G, hC, hT, (by rw [show ((tn + 1 : Nat) : Int) - 1 = (tn : Int) by omega]; exact F.sub _)⟩ ?_
 clear F hC hT G ac
 intro me_ ac w5 hI
 obtain ⟨z, rfl, hz, G, hC, hT, F⟩ := hI
 refine Y.seq ?_
 refine Y.seq ?_
 refine Y.lit (by kernel_rfl) ?_
 refine Y.pval F (X.w0 rfl) rfl (X.move rfl (F.ev 8 (.int .i64 ((z : Int) - 1)))) ?_
 clear F ac
 intro ac F
 refine Y.pval F (X.w0 rfl) rfl (X.binop rfl (F.ev 17 (.int .i64 ((z : Int) - 1))) (X.kc (.int .i64 0) rfl) (X.geqI Try.underlying3 rfl)) ?_
 clear F ac
 intro ac F
 refine Y.nil ?_
 replace F : Fr ac 102 [(0, .agg #[.int .i64 gq, .int .i64 aw, .int .i64 za, .int .i64 pn, .int .i64 qn]), (1, .int .i64 sn), (2, .int .i64 tn), (3, .pointer (some ⟨w.heap.size, 0, none⟩)), (6, .int .i64 0), (7, .slice (some ⟨tb, 0, none⟩) (tn + 1) (tn + 1)), (8, .int .i64 ((z : Int) - 1)), (18, .bool (decide ((0 : Int) ≤ ((z : Int) - 1))))] := F.sub _
 refine X.thenN ?_
 cases h6 : decide ((0 : Int) ≤ ((z : Int) - 1)) with
 | false =>
  try rw [h6] at F
  have h6p : ¬ ((0 : Int) ≤ ((z : Int) - 1)) := of_decide_eq_false h6
  obtain rfl : z = 0 := by omega
  refine Y.condF (F.ev 18 (.bool false)) ?_
  refine Y.exit ?_
  refine X.thenX ?_
  refine X.thenX ?_
  refine X.blockX ?_
  refine X.thenN ?_
  refine Y.seq ?_
  obtain ⟨rb7, hr7, hrl7, hrr7⟩ := hT.row (t := 0) (by omega) (by omega)
  replace hC : RCells w5 [(⟨w.heap.size, 0, none⟩, .int .i64 gq), (⟨w.heap.size, 1, none⟩, .int .i64 aw), (⟨w.heap.size, 2, none⟩, .int .i64 za), (⟨w.heap.size, 3, none⟩, .int .i64 pn), (⟨w.heap.size, 4, none⟩, .int .i64 qn), (⟨tb, 0, none⟩, .slice (some ⟨rb7, 0, none⟩) (pn + 1) (pn + 1))] := hC.append ((RCells.cons hr7 (RCells.nil _)))
  replace hC : RCells w5 [(⟨w.heap.size, 0, none⟩, .int .i64 gq), (⟨w.heap.size, 1, none⟩, .int .i64 aw), (⟨w.heap.size, 2, none⟩, .int .i64 za), (⟨w.heap.size, 3, none⟩, .int .i64 pn), (⟨w.heap.size, 4, none⟩, .int .i64 qn), (⟨tb, 0, none⟩, .slice (some ⟨rb7, 0, none⟩) (pn + 1) (pn + 1)), (⟨rb7, pn, none⟩, .int .i64 (mvV (onP pn qn sn tn) 0 pn))] := hC.append ((RCells.cons (hrr7.cell (k := pn) (by omega)) (RCells.nil _)))
  refine Y.region F [some (.slice (some ⟨tb, 0, none⟩) (tn + 1) (tn + 1)), some (.pointer (some ⟨tb, 0, none⟩)), some (.slice (some ⟨rb7, 0, none⟩) (pn + 1) (pn + 1)), some (.pointer (some ⟨w.heap.size, 3, none⟩)), some (.int .i64 pn), some (.pointer (some ⟨rb7, pn, none⟩)), some (.int .i64 (mvV (onP pn qn sn tn) 0 pn)), some (.int .i64 (mvV (onP pn qn sn tn) 0 pn))] [] rfl ⟨by kernel_rfl, of_decide_eq_true (by kernel_rfl), by kernel_rfl, by kernel_rfl, by kernel_rfl⟩ ⟨?_, ?_, ?_, ?_, ?_, ?_, ?_, ?_, trivial⟩ ?_
  ·intro ac done u W Sx hR
   exact X.val (X.w0 rfl) rfl (X.move rfl (Sx.ev 7 (.slice (some ⟨tb, 0, none⟩) (tn + 1) (tn + 1)))) (hR.step (Gr.refl _) rfl)
  ·intro ac done u W Sx hR
   exact X.val (X.w0 rfl) rfl (X.index rfl (Sx.ev 95 (.slice (some ⟨tb, 0, none⟩) (tn + 1) (tn + 1))) (X.kc (.int .i64 0) rfl) (X.idx (k := 0) Try.underlying138 (Try.siz34 _) (by omega) (by omega) (addr_own _ _))) (hR.step (Gr.refl _) rfl)
  ·intro ac done u W Sx hR
   have g : Gr w5 W := hR.1
   exact X.val (X.w0 rfl) rfl (X.load rfl (Sx.ev 96 (.pointer (some ⟨tb, 0, none⟩))) (X.ld1 (Try.agg34 _) ((hC.gr g).at 5 rfl))) (hR.step (Gr.refl _) rfl)
  ·intro ac done u W Sx hR
   exact X.val (X.w0 rfl) rfl (X.field rfl (Sx.ev 3 (.pointer (some ⟨w.heap.size, 0, none⟩))) (X.fld Try.underlying31 rfl (Try.siz3 _) rfl rfl)) (hR.step (Gr.refl _) rfl)
  ·intro ac done u W Sx hR
   have g : Gr w5 W := hR.1
   exact X.val (X.w0 rfl) rfl (X.load rfl (Sx.ev 98 (.pointer (some ⟨w.heap.size, 3, none⟩))) (X.ld1 (Try.agg3 _) ((hC.gr g).at 3 rfl))) (hR.step (Gr.refl _) rfl)
  ·intro ac done u W Sx hR
   exact X.val (X.w0 rfl) rfl (X.index rfl (Sx.ev 97 (.slice (some ⟨rb7, 0, none⟩) (pn + 1) (pn + 1))) (Sx.ev 99 (.int .i64 pn)) (X.idx (k := pn) Try.underlying34 (Try.siz3 _) (by omega) (by omega) (addr_own _ _))) (hR.step (Gr.refl _) rfl)
  ·intro ac done u W Sx hR
   have g : Gr w5 W := hR.1
   exact X.val (X.w0 rfl) rfl (X.load rfl (Sx.ev 100 (.pointer (some ⟨rb7, pn, none⟩))) (X.ld1 (Try.agg3 _) ((hC.gr g).at 6 rfl))) (hR.step (Gr.refl _) rfl)
  ·intro ac done u W Sx hR
   exact X.val (X.w0 rfl) rfl (X.assign rfl (Sx.ev 101 (.int .i64 (mvV (onP pn qn sn tn) 0 pn)))) (hR.step (Gr.refl _) rfl)
  intro ac u w8 hs hd hl ho hR
  have g : Gr w5 w8 := hR.1
  replace F : Fr ac 102 [(0, .agg #[.int .i64 gq, .int .i64 aw, .int .i64 za, .int .i64 pn, .int .i64 qn]), (1, .int .i64 sn), (2, .int .i64 tn), (3, .pointer (some ⟨w.heap.size, 0, none⟩)), (6, .int .i64 (mvV (onP pn qn sn tn) 0 pn)), (7, .slice (some ⟨tb, 0, none⟩) (tn + 1) (tn + 1)), (8, .int .i64 ((0 : Int) - 1)), (18, .bool false)] := X.fr hs hd hl _ (by kernel_rfl)
  clear hs hd hl ho hR
  replace G := G.trans g
  replace hC := hC.gr g
  replace hT := hT.gr g
  replace hrr7 := hrr7.gr g
  clear g
  refine X.thenN ?_
  refine Y.ret ?_
  exact Y.ret0 (v := .int .i64 (mvV (onP pn qn sn tn) 0 pn)) F (Y.rs1 F rfl (by kernel_rfl)) ⟨rfl, G⟩
 | true =>
  try rw [h6] at F
  have h6p : ((0 : Int) ≤ ((z : Int) - 1)) := of_decide_eq_true h6
  obtain ⟨y, rfl⟩ : ∃ y, z = y + 1 := ⟨z - 1, by omega⟩
  rw [show ((y + 1 : Nat) : Int) - 1 = (y : Int) by omega] at F
  refine Y.condT (F.ev 18 (.bool true)) ?_
  refine Y.skip ?_
  refine X.thenN ?_
  refine Y.seq ?_
  refine Y.block ?_
  refine Y.seq ?_
  refine Y.lit (by kernel_rfl) ?_
  refine Y.pval F (X.w0 rfl) rfl (X.move rfl (F.ev 7 (.slice (some ⟨tb, 0, none⟩) (tn + 1) (tn + 1)))) ?_
  clear F ac
  intro ac F
  refine Y.pval F (X.w0 rfl) rfl (X.move rfl (F.ev 8 (.int .i64 y))) ?_
  clear F ac
  intro ac F
  refine Y.pval F (X.w0 rfl) rfl (X.field rfl (F.ev 3 (.pointer (some ⟨w.heap.size, 0, none⟩))) (X.fld Try.underlying31 rfl (Try.siz3 _) rfl rfl)) ?_
  clear F ac
  intro ac F
  refine Y.pval F (X.w0 rfl) rfl (X.load rfl (F.ev 23 (.pointer (some ⟨w.heap.size, 3, none⟩))) (X.ld1 (Try.agg3 _) (hC.at 3 rfl))) ?_
  clear F ac
  intro ac F
  refine Y.pval F (X.w0 rfl) rfl (X.binop rfl (F.ev 24 (.int .i64 pn)) (X.kc (.int .i64 1) rfl) (X.addI Try.underlying3 rfl (by omega) (by omega))) ?_
  clear F ac
  intro ac F
  obtain ⟨w9, hmk, hR, g⟩ := make34 w5 (N := pn + 1) (x := (pn : Int) + 1) (by omega) (by omega)
  have hrb : w.heap.size ≤ w5.heap.size := G.size
  have hTl := hT.lt
  have hsl : w.heap.size < w5.heap.size := lt_cell (hC.at 0 rfl)
  refine Y.pval F (X.w0 rfl) rfl (Y.mk rfl (F.ev 25 (.int .i64 ((pn : Int) + 1))) (F.ev 25 (.int .i64 ((pn : Int) + 1))) hmk) ?_
  clear F ac hmk
  intro ac F
  replace G := G.trans g
  replace hC := hC.gr g
  replace hT := hT.gr g
  clear g
  obtain ⟨rb, hrbe⟩ : ∃ rb, w5.heap.size = rb := ⟨_, rfl⟩
  rw [hrbe] at F hT hR hrb hTl hsl
  clear hrbe
  refine Y.pval F (X.w0 rfl) rfl (X.index rfl (F.ev 21 (.slice (some ⟨tb, 0, none⟩) (tn + 1) (tn + 1))) (F.ev 22 (.int .i64 y)) (X.idx (k := y) Try.underlying138 (Try.siz34 _) (by omega) (by omega) (addr_own _ _))) ?_
  clear F ac
  intro ac F
  refine Y.punit F (X.w0 rfl) rfl (X.store rfl (F.ev 27 (.pointer (some ⟨tb, y, none⟩))) (F.ev 26 (.slice (some ⟨rb, 0, none⟩) (pn + 1) (pn + 1))) (hT.st (by omega) rfl rfl)) ?_
  clear F ac
  intro ac F
  have hon := Y.set_only w9 tb y (.slice (some ⟨rb, 0, none⟩) (pn + 1) (pn + 1))
  obtain ⟨hT2, hR2, hyc⟩ := hT.lay (z := y) (rb := rb) (by omega) hR
  replace hyc := hyc (by omega)
  generalize w9.setCell ⟨tb, y, none⟩ (.slice (some ⟨rb, 0, none⟩) (pn + 1) (pn + 1)) = w10 at *
  clear hT hR
  have hT := hT2
  have hR := hR2
  clear hT2 hR2
  replace G := Y.Only.up G hon (by omega)
  replace hC : RCells w10 [(⟨w.heap.size, 0, none⟩, .int .i64 gq), (⟨w.heap.size, 1, none⟩, .int .i64 aw), (⟨w.heap.size, 2, none⟩, .int .i64 za), (⟨w.heap.size, 3, none⟩, .int .i64 pn), (⟨w.heap.size, 4, none⟩, .int .i64 qn)] := (RCells.cons (hon.cell (hC.at 0 rfl) (by show ¬ w.heap.size = tb; omega)) (RCells.cons (hon.cell (hC.at 1 rfl) (by show ¬ w.heap.size = tb; omega)) (RCells.cons (hon.cell (hC.at 2 rfl) (by show ¬ w.heap.size = tb; omega)) (RCells.cons (hon.cell (hC.at 3 rfl) (by show ¬ w.heap.size = tb; omega)) (RCells.cons (hon.cell (hC.at 4 rfl) (by show ¬ w.heap.size = tb; omega)) (RCells.nil _))))))
  replace hC : RCells w10 [(⟨w.heap.size, 0, none⟩, .int .i64 gq), (⟨w.heap.size, 1, none⟩, .int .i64 aw), (⟨w.heap.size, 2, none⟩, .int .i64 za), (⟨w.heap.size, 3, none⟩, .int .i64 pn), (⟨w.heap.size, 4, none⟩, .int .i64 qn), (⟨tb, y, none⟩, .slice (some ⟨rb, 0, none⟩) (pn + 1) (pn + 1))] := hC.append ((RCells.cons hyc (RCells.nil _)))
  clear hon hyc
  refine Y.nil ?_
  replace F : Fr ac 102 [(0, .agg #[.int .i64 gq, .int .i64 aw, .int .i64 za, .int .i64 pn, .int .i64 qn]), (1, .int .i64 sn), (2, .int .i64 tn), (3, .pointer (some ⟨w.heap.size, 0, none⟩)), (6, .int .i64 0), (7, .slice (some ⟨tb, 0, none⟩) (tn + 1) (tn + 1)), (8, .int .i64 y), (18, .bool true)] := F.sub _
  refine X.thenN ?_
  refine Y.seq ?_
  refine Y.lit (by kernel_rfl) ?_
  refine Y.pval F (X.w0 rfl) rfl (X.assign rfl (X.kc (.int .i64 0) rfl)) ?_
  clear F ac
  intro ac F
  refine Y.nil ?_
  replace F : Fr ac 102 [(0, .agg #[.int .i64 gq, .int .i64 aw, .int .i64 za, .int .i64 pn, .int .i64 qn]), (1, .int .i64 sn), (2, .int .i64 tn), (3, .pointer (some ⟨w.heap.size, 0, none⟩)), (6, .int .i64 0), (7, .slice (some ⟨tb, 0, none⟩) (tn + 1) (tn + 1)), (8, .int .i64 y), (9, .int .i64 0), (18, .bool true)] := F.sub _
  refine X.thenN ?_
  refine Y.block ?_
  refine Y.loop (fun me_ ac wr => ∃ (x : Nat), me_ = pn + 1 - x ∧ x ≤ pn + 1 ∧ Gr w wr ∧ RCells wr [(⟨w.heap.size, 0, none⟩, .int .i64 gq), (⟨w.heap.size, 1, none⟩, .int .i64 aw), (⟨w.heap.size, 2, none⟩, .int .i64 za), (⟨w.heap.size, 3, none⟩, .int .i64 pn), (⟨w.heap.size, 4, none⟩, .int .i64 qn), (⟨tb, y, none⟩, .slice (some ⟨rb, 0, none⟩) (pn + 1) (pn + 1))] ∧ TbH wr tb tn (pn + 1) (onP pn qn sn tn) (y + 1) (rb) w.heap.size ∧ OwnP wr rb (pn + 1) (EV (rowF (onP pn qn sn tn) y x)) ∧ Fr ac 102 [(0, .agg #[.int .i64 gq, .int .i64 aw, .int .i64 za, .int .i64 pn, .int .i64 qn]), (1, .int .i64 sn), (2, .int .i64 tn), (3, .pointer (some ⟨w.heap.size, 0, none⟩)), (6, .int .i64 0), (7, .slice (some ⟨tb, 0, none⟩) (tn + 1) (tn + 1)), (8, .int .i64 y), (9, .int .i64 x), (18, .bool true)]) _ ⟨0, rfl, Nat.zero_le _, G, hC, hT, (hR.congr (row_zero _ _)), F.sub _⟩ ?_
  clear F hC hT G ac hR
  intro me_ ac w11 hI
  obtain ⟨x, rfl, hx, G, hC, hT, hR, F⟩ := hI
  refine Y.seq ?_
  refine Y.seq ?_
  refine Y.lit (by kernel_rfl) ?_
  refine Y.pval F (X.w0 rfl) rfl (X.move rfl (F.ev 9 (.int .i64 x))) ?_
  clear F ac
  intro ac F
  refine Y.pval F (X.w0 rfl) rfl (X.field rfl (F.ev 3 (.pointer (some ⟨w.heap.size, 0, none⟩))) (X.fld Try.underlying31 rfl (Try.siz3 _) rfl rfl)) ?_
  clear F ac
  intro ac F
  refine Y.pval F (X.w0 rfl) rfl (X.load rfl (F.ev 29 (.pointer (some ⟨w.heap.size, 3, none⟩))) (X.ld1 (Try.agg3 _) (hC.at 3 rfl))) ?_
  clear F ac
  intro ac F
  refine Y.pval F (X.w0 rfl) rfl (X.binop rfl (F.ev 28 (.int .i64 x)) (F.ev 30 (.int .i64 pn)) (X.leqI Try.underlying3 rfl)) ?_
  clear F ac
  intro ac F
  refine Y.pval F (X.w0 rfl) rfl (X.move rfl (F.ev 31 (.bool (decide ((x : Int) ≤ pn))))) ?_
  clear F ac
  intro ac F
  cases h12 : decide ((x : Int) ≤ pn) with
  | false =>
   try rw [h12] at F
   have h12p : ¬ ((x : Int) ≤ pn) := of_decide_eq_false h12
   refine Y.pskip F (X.w2 rfl (F.yl (j := 4) (d := 32) (b := false) rfl (by kernel_rfl)) rfl) rfl ?_
   clear F ac
   intro ac F
   refine Y.pskip F (X.w2 rfl (F.yl (j := 4) (d := 32) (b := false) rfl (by kernel_rfl)) rfl) rfl ?_
   clear F ac
   intro ac F
   refine Y.pskip F (X.w2 rfl (F.yl (j := 4) (d := 32) (b := false) rfl (by kernel_rfl)) rfl) rfl ?_
   clear F ac
   intro ac F
   refine Y.pval F (X.w0 rfl) rfl (X.pickF rfl (F.ev 32 (.bool false)) (X.kc (.bool false) rfl)) ?_
   clear F ac
   intro ac F
   refine Y.nil ?_
   replace F : Fr ac 102 [(0, .agg #[.int .i64 gq, .int .i64 aw, .int .i64 za, .int .i64 pn, .int .i64 qn]), (1, .int .i64 sn), (2, .int .i64 tn), (3, .pointer (some ⟨w.heap.size, 0, none⟩)), (6, .int .i64 0), (7, .slice (some ⟨tb, 0, none⟩) (tn + 1) (tn + 1)), (8, .int .i64 y), (9, .int .i64 x), (18, .bool true), (36, .bool false)] := F.sub _
   refine X.thenN ?_
   refine Y.condF (F.ev 36 (.bool false)) ?_
   refine Y.exit ?_
   refine X.thenX ?_
   refine X.thenX ?_
   refine X.blockX ?_
   refine X.blockN ?_
   refine X.thenN ?_
   refine Y.lit (by kernel_rfl) ?_
   refine Y.pval F (X.w0 rfl) rfl (X.move rfl (F.ev 8 (.int .i64 y))) ?_
   clear F ac
   intro ac F
   refine Y.pval F (X.w0 rfl) rfl (X.binop rfl (F.ev 19 (.int .i64 y)) (X.kc (.int .i64 1) rfl) (X.subI Try.underlying3 rfl (by omega) (by omega))) ?_
   clear F ac
   intro ac F
   refine Y.pval F (X.w0 rfl) rfl (X.assign rfl (F.ev 20 (.int .i64 ((y : Int) - 1)))) ?_
   clear F ac
   intro ac F
   refine Y.nil ?_
   replace F : Fr ac 102 [(0, .agg #[.int .i64 gq, .int .i64 aw, .int .i64 za, .int .i64 pn, .int .i64 qn]), (1, .int .i64 sn), (2, .int .i64 tn), (3, .pointer (some ⟨w.heap.size, 0, none⟩)), (6, .int .i64 0), (7, .slice (some ⟨tb, 0, none⟩) (tn + 1) (tn + 1)), (8, .int .i64 ((y : Int) - 1)), (9, .int .i64 x), (18, .bool true), (36, .bool false)] := F.sub _
   refine X.thenN ?_
   have hRd := hR.congr (row_done (.inl (by omega)))
   replace hT := (hT.up (hi' := w11.heap.size) (by have := hR.lt; omega)).done (rb := rb) (by omega) hrb hR.lt (by omega) (hC.at 5 rfl) hRd
   replace hC : RCells w11 [(⟨w.heap.size, 0, none⟩, .int .i64 gq), (⟨w.heap.size, 1, none⟩, .int .i64 aw), (⟨w.heap.size, 2, none⟩, .int .i64 za), (⟨w.heap.size, 3, none⟩, .int .i64 pn), (⟨w.heap.size, 4, none⟩, .int .i64 qn)] := (RCells.cons (hC.at 0 rfl) (RCells.cons (hC.at 1 rfl) (RCells.cons (hC.at 2 rfl) (RCells.cons (hC.at 3 rfl) (RCells.cons (hC.at 4 rfl) (RCells.nil _))))))
   refine ⟨_, ?_, y, rfl, by omega, G, hC, hT, F.sub _⟩
   omega
  | true =>
   try rw [h12] at F
   have h12p : ((x : Int) ≤ pn) := of_decide_eq_true h12
   refine Y.pval F (X.w1 rfl (F.yl (j := 4) (d := 32) (b := true) rfl (by kernel_rfl))) rfl (X.move rfl (F.ev 8 (.int .i64 y))) ?_
   clear F ac
   intro ac F
   refine Y.pval F (X.w1 rfl (F.yl (j := 4) (d := 32) (b := true) rfl (by kernel_rfl))) rfl (X.move rfl (F.ev 2 (.int .i64 tn))) ?_
   clear F ac
   intro ac F
   refine Y.pval F (X.w1 rfl (F.yl (j := 4) (d := 32) (b := true) rfl (by kernel_rfl))) rfl (X.binop rfl (F.ev 33 (.int .i64 y)) (F.ev 34 (.int .i64 tn)) (X.lssI Try.underlying3 rfl)) ?_
   clear F ac
   intro ac F
   refine Y.pval F (X.w0 rfl) rfl (X.pickT rfl (F.ev 32 (.bool true)) (F.ev 35 (.bool (decide ((y : Int) < tn))))) ?_
   clear F ac
   intro ac F
   refine Y.nil ?_
   replace F : Fr ac 102 [(0, .agg #[.int .i64 gq, .int .i64 aw, .int .i64 za, .int .i64 pn, .int .i64 qn]), (1, .int .i64 sn), (2, .int .i64 tn), (3, .pointer (some ⟨w.heap.size, 0, none⟩)), (6, .int .i64 0), (7, .slice (some ⟨tb, 0, none⟩) (tn + 1) (tn + 1)), (8, .int .i64 y), (9, .int .i64 x), (18, .bool true), (36, .bool (decide ((y : Int) < tn)))] := F.sub _
   refine X.thenN ?_
   cases h13 : decide ((y : Int) < tn) with
   | false =>
    try rw [h13] at F
    have h13p : ¬ ((y : Int) < tn) := of_decide_eq_false h13
    refine Y.condF (F.ev 36 (.bool false)) ?_
    refine Y.exit ?_
    refine X.thenX ?_
    refine X.thenX ?_
    refine X.blockX ?_
    refine X.blockN ?_
    refine X.thenN ?_
    refine Y.lit (by kernel_rfl) ?_
    refine Y.pval F (X.w0 rfl) rfl (X.move rfl (F.ev 8 (.int .i64 y))) ?_
    clear F ac
    intro ac F
    refine Y.pval F (X.w0 rfl) rfl (X.binop rfl (F.ev 19 (.int .i64 y)) (X.kc (.int .i64 1) rfl) (X.subI Try.underlying3 rfl (by omega) (by omega))) ?_
    clear F ac
    intro ac F
    refine Y.pval F (X.w0 rfl) rfl (X.assign rfl (F.ev 20 (.int .i64 ((y : Int) - 1)))) ?_
    clear F ac
    intro ac F
    refine Y.nil ?_
    replace F : Fr ac 102 [(0, .agg #[.int .i64 gq, .int .i64 aw, .int .i64 za, .int .i64 pn, .int .i64 qn]), (1, .int .i64 sn), (2, .int .i64 tn), (3, .pointer (some ⟨w.heap.size, 0, none⟩)), (6, .int .i64 0), (7, .slice (some ⟨tb, 0, none⟩) (tn + 1) (tn + 1)), (8, .int .i64 ((y : Int) - 1)), (9, .int .i64 x), (18, .bool true), (36, .bool false)] := F.sub _
    refine X.thenN ?_
    have hRd := hR.congr (row_done (.inr (by show (tn : Int) ≤ (y : Int); omega)))
    replace hT := (hT.up (hi' := w11.heap.size) (by have := hR.lt; omega)).done (rb := rb) (by omega) hrb hR.lt (by omega) (hC.at 5 rfl) hRd
    replace hC : RCells w11 [(⟨w.heap.size, 0, none⟩, .int .i64 gq), (⟨w.heap.size, 1, none⟩, .int .i64 aw), (⟨w.heap.size, 2, none⟩, .int .i64 za), (⟨w.heap.size, 3, none⟩, .int .i64 pn), (⟨w.heap.size, 4, none⟩, .int .i64 qn)] := (RCells.cons (hC.at 0 rfl) (RCells.cons (hC.at 1 rfl) (RCells.cons (hC.at 2 rfl) (RCells.cons (hC.at 3 rfl) (RCells.cons (hC.at 4 rfl) (RCells.nil _))))))
    refine ⟨_, ?_, y, rfl, by omega, G, hC, hT, F.sub _⟩
    omega
   | true =>
    try rw [h13] at F
    have h13p : ((y : Int) < tn) := of_decide_eq_true h13
    have hgb := gnV_bd hpk (x := (x : Int)) (a := (y : Int)) (by omega) (by show (x : Int) ≤ (pn : Int); omega) 1
    obtain ⟨v, hgv⟩ : ∃ v : Nat, gnV (onP pn qn sn tn) x y 1 = v := ⟨(gnV (onP pn qn sn tn) x y 1).toNat, by omega⟩
    rw [hgv] at hgb
    have hvb : v ≤ pn := by have h9 : (v : Int) ≤ (pn : Int) := hgb.2; omega
    have hrv : refV (onP pn qn sn tn) y x = v := by rw [← hgv]; simp only [gnV]; rw [show (y : Int) + ((0 : Nat) : Int) = y by omega]
    clear hgb
    refine Y.condT (F.ev 36 (.bool true)) ?_
    refine Y.skip ?_
    refine X.thenN ?_
    refine Y.seq ?_
    refine Y.block ?_
    refine Y.seq ?_
    refine Y.lit (by kernel_rfl) ?_
    refine Y.pval F (X.w0 rfl) rfl (X.load rfl (F.ev 3 (.pointer (some ⟨w.heap.size, 0, none⟩))) (X.ldN (Try.agg31 _) (Try.siz31 _) (Y.atz (⟨w.heap.size, 0, none⟩) (Y.AtFrom.cons (hC.at 0 rfl) (Y.AtFrom.cons (hC.at 1 rfl) (Y.AtFrom.cons (hC.at 2 rfl) (Y.AtFrom.cons (hC.at 3 rfl) (Y.AtFrom.cons (hC.at 4 rfl) (Y.AtFrom.nil _ _ _))))))))) ?_
    clear F ac
    intro ac F
    refine Y.pval F (X.w0 rfl) rfl (X.move rfl (F.ev 9 (.int .i64 x))) ?_
    clear F ac
    intro ac F
    refine Y.pval F (X.w0 rfl) rfl (X.move rfl (F.ev 8 (.int .i64 y))) ?_
    clear F ac
    intro ac F
    refine Y.pval F (X.w0 rfl) rfl (X.move rfl (F.ev 8 (.int .i64 y))) ?_
    clear F ac
    intro ac F
    refine Y.pcall F (X.w0 rfl) rfl (X.enter (F := 87) rfl (X.kc (.func (.func 87) #[] #[]) rfl) (X.a4 (F.ev 39 (.agg #[.int .i64 gq, .int .i64 aw, .int .i64 za, .int .i64 pn, .int .i64 qn])) (F.ev 40 (.int .i64 x)) (F.ev 41 (.int .i64 y)) (F.ev 42 (.int .i64 y))) (enters_of Try.func87 (by kernel_rfl) rfl _)) (by have hq := gain_any gq aw za (onP pn qn sn tn) (x : Int) (y : Int) (y : Int) 1 w11 hpk ⟨by omega, by show (x : Int) ≤ (pn : Int); omega⟩ (by omega) (by omega) (by omega); rw [hgv] at hq; exact hq) ?_
    clear F ac
    rintro e w14 ⟨rfl, g⟩
    refine ⟨_, rfl, ?_⟩
    intro ac F
    replace G := G.trans g
    replace hC := hC.gr g
    replace hT := hT.gr g
    replace hR := hR.gr g
    clear g
    refine Y.pval F (X.w0 rfl) rfl (X.assign rfl (F.ev 43 (.int .i64 v))) ?_
    clear F ac
    intro ac F
    refine Y.nil ?_
    replace F : Fr ac 102 [(0, .agg #[.int .i64 gq, .int .i64 aw, .int .i64 za, .int .i64 pn, .int .i64 qn]), (1, .int .i64 sn), (2, .int .i64 tn), (3, .pointer (some ⟨w.heap.size, 0, none⟩)), (6, .int .i64 0), (7, .slice (some ⟨tb, 0, none⟩) (tn + 1) (tn + 1)), (8, .int .i64 y), (9, .int .i64 x), (10, .int .i64 v), (18, .bool true), (36, .bool true)] := F.sub _
    refine X.thenN ?_
    refine Y.seq ?_
    refine Y.lit (by kernel_rfl) ?_
    refine Y.pval F (X.w0 rfl) rfl (X.move rfl (F.ev 7 (.slice (some ⟨tb, 0, none⟩) (tn + 1) (tn + 1)))) ?_
    clear F ac
    intro ac F
    refine Y.pval F (X.w0 rfl) rfl (X.move rfl (F.ev 8 (.int .i64 y))) ?_
    clear F ac
    intro ac F
    refine Y.pval F (X.w0 rfl) rfl (X.binop rfl (F.ev 45 (.int .i64 y)) (X.kc (.int .i64 1) rfl) (X.addI Try.underlying3 rfl (by omega) (by omega))) ?_
    clear F ac
    intro ac F
    refine Y.pval F (X.w0 rfl) rfl (X.index rfl (F.ev 44 (.slice (some ⟨tb, 0, none⟩) (tn + 1) (tn + 1))) (F.ev 46 (.int .i64 ((y : Int) + 1))) (X.idx (k := (y + 1)) Try.underlying138 (Try.siz34 _) (by omega) (by omega) (addr_own _ _))) ?_
    clear F ac
    intro ac F
    obtain ⟨rb15, hr15, hrl15, hrr15⟩ := hT.row (t := (y + 1)) (by omega) (by omega)
    replace hC : RCells w14 [(⟨w.heap.size, 0, none⟩, .int .i64 gq), (⟨w.heap.size, 1, none⟩, .int .i64 aw), (⟨w.heap.size, 2, none⟩, .int .i64 za), (⟨w.heap.size, 3, none⟩, .int .i64 pn), (⟨w.heap.size, 4, none⟩, .int .i64 qn), (⟨tb, y, none⟩, .slice (some ⟨rb, 0, none⟩) (pn + 1) (pn + 1)), (⟨tb, (y + 1), none⟩, .slice (some ⟨rb15, 0, none⟩) (pn + 1) (pn + 1))] := hC.append ((RCells.cons hr15 (RCells.nil _)))
    refine Y.pval F (X.w0 rfl) rfl (X.load rfl (F.ev 47 (.pointer (some ⟨tb, (y + 1), none⟩))) (X.ld1 (Try.agg34 _) (hC.at 6 rfl))) ?_
    clear F ac
    intro ac F
    refine Y.pval F (X.w0 rfl) rfl (X.move rfl (F.ev 10 (.int .i64 v))) ?_
    clear F ac
    intro ac F
    refine Y.pval F (X.w0 rfl) rfl (X.index rfl (F.ev 48 (.slice (some ⟨rb15, 0, none⟩) (pn + 1) (pn + 1))) (F.ev 49 (.int .i64 v)) (X.idx (k := v) Try.underlying34 (Try.siz3 _) (by omega) (by omega) (addr_own _ _))) ?_
    clear F ac
    intro ac F
    replace hC : RCells w14 [(⟨w.heap.size, 0, none⟩, .int .i64 gq), (⟨w.heap.size, 1, none⟩, .int .i64 aw), (⟨w.heap.size, 2, none⟩, .int .i64 za), (⟨w.heap.size, 3, none⟩, .int .i64 pn), (⟨w.heap.size, 4, none⟩, .int .i64 qn), (⟨tb, y, none⟩, .slice (some ⟨rb, 0, none⟩) (pn + 1) (pn + 1)), (⟨tb, (y + 1), none⟩, .slice (some ⟨rb15, 0, none⟩) (pn + 1) (pn + 1)), (⟨rb15, v, none⟩, .int .i64 (mvV (onP pn qn sn tn) ((y : Int) + 1) v))] := hC.append ((RCells.cons (hrr15.cell (k := v) (by omega)) (RCells.nil _)))
    refine Y.pval F (X.w0 rfl) rfl (X.load rfl (F.ev 50 (.pointer (some ⟨rb15, v, none⟩))) (X.ld1 (Try.agg3 _) (hC.at 7 rfl))) ?_
    clear F ac
    intro ac F
    refine Y.pval F (X.w0 rfl) rfl (X.assign rfl (F.ev 51 (.int .i64 (mvV (onP pn qn sn tn) ((y : Int) + 1) v)))) ?_
    clear F ac
    intro ac F
    refine Y.nil ?_
    replace F : Fr ac 102 [(0, .agg #[.int .i64 gq, .int .i64 aw, .int .i64 za, .int .i64 pn, .int .i64 qn]), (1, .int .i64 sn), (2, .int .i64 tn), (3, .pointer (some ⟨w.heap.size, 0, none⟩)), (6, .int .i64 0), (7, .slice (some ⟨tb, 0, none⟩) (tn + 1) (tn + 1)), (8, .int .i64 y), (9, .int .i64 x), (10, .int .i64 v), (11, .int .i64 (mvV (onP pn qn sn tn) ((y : Int) + 1) v)), (18, .bool true), (36, .bool true)] := F.sub _
    refine X.thenN ?_
    refine Y.seq ?_
    refine Y.seq ?_
    refine Y.lit (by kernel_rfl) ?_
    refine Y.pval F (X.w0 rfl) rfl (X.move rfl (F.ev 10 (.int .i64 v))) ?_
    clear F ac
    intro ac F
    refine Y.pval F (X.w0 rfl) rfl (X.binop rfl (F.ev 52 (.int .i64 v)) (X.kc (.int .i64 0) rfl) (X.gtrI Try.underlying3 rfl)) ?_
    clear F ac
    intro ac F
    refine Y.nil ?_
    replace F : Fr ac 102 [(0, .agg #[.int .i64 gq, .int .i64 aw, .int .i64 za, .int .i64 pn, .int .i64 qn]), (1, .int .i64 sn), (2, .int .i64 tn), (3, .pointer (some ⟨w.heap.size, 0, none⟩)), (6, .int .i64 0), (7, .slice (some ⟨tb, 0, none⟩) (tn + 1) (tn + 1)), (8, .int .i64 y), (9, .int .i64 x), (10, .int .i64 v), (11, .int .i64 (mvV (onP pn qn sn tn) ((y : Int) + 1) v)), (18, .bool true), (36, .bool true), (53, .bool (decide ((0 : Int) < v)))] := F.sub _
    refine X.thenN ?_
    cases h16 : decide ((0 : Int) < v) with
    | false =>
     try rw [h16] at F
     have h16p : ¬ ((0 : Int) < v) := of_decide_eq_false h16
     refine Y.condF (F.ev 53 (.bool false)) ?_
     refine Y.skip ?_
     refine X.thenN ?_
     refine Y.lit (by kernel_rfl) ?_
     refine Y.pval F (X.w0 rfl) rfl (X.move rfl (F.ev 7 (.slice (some ⟨tb, 0, none⟩) (tn + 1) (tn + 1)))) ?_
     clear F ac
     intro ac F
     refine Y.pval F (X.w0 rfl) rfl (X.move rfl (F.ev 8 (.int .i64 y))) ?_
     clear F ac
     intro ac F
     refine Y.pval F (X.w0 rfl) rfl (X.index rfl (F.ev 88 (.slice (some ⟨tb, 0, none⟩) (tn + 1) (tn + 1))) (F.ev 89 (.int .i64 y)) (X.idx (k := y) Try.underlying138 (Try.siz34 _) (by omega) (by omega) (addr_own _ _))) ?_
     clear F ac
     intro ac F
     refine Y.pval F (X.w0 rfl) rfl (X.load rfl (F.ev 90 (.pointer (some ⟨tb, y, none⟩))) (X.ld1 (Try.agg34 _) (hC.at 5 rfl))) ?_
     clear F ac
     intro ac F
     refine Y.pval F (X.w0 rfl) rfl (X.move rfl (F.ev 9 (.int .i64 x))) ?_
     clear F ac
     intro ac F
     refine Y.pval F (X.w0 rfl) rfl (X.move rfl (F.ev 11 (.int .i64 (mvV (onP pn qn sn tn) ((y : Int) + 1) v)))) ?_
     clear F ac
     intro ac F
     refine Y.pval F (X.w0 rfl) rfl (X.index rfl (F.ev 91 (.slice (some ⟨rb, 0, none⟩) (pn + 1) (pn + 1))) (F.ev 92 (.int .i64 x)) (X.idx (k := x) Try.underlying34 (Try.siz3 _) (by omega) (by omega) (addr_own _ _))) ?_
     clear F ac
     intro ac F
     have hval : (mvV (onP pn qn sn tn) ((y : Int) + 1) v : Int) = mvV (onP pn qn sn tn) y x := by rw [mv_stay (t := (y : Int)) (x := (x : Int)) rfl (by show (y : Int) < (tn : Int); omega) (by rw [hrv]; omega), hrv]
     refine Y.punit F (X.w0 rfl) rfl (X.store rfl (F.ev 94 (.pointer (some ⟨rb, x, none⟩))) (F.ev 93 (.int .i64 (mvV (onP pn qn sn tn) ((y : Int) + 1) v))) (hR.st1 (Try.siz3 _) rfl rfl (by omega))) ?_
     clear F ac
     intro ac F
     have hon := Y.set_only w14 rb x (.int .i64 (mvV (onP pn qn sn tn) ((y : Int) + 1) v))
     have hR2 := hR.set (k := x) (.int .i64 (mvV (onP pn qn sn tn) ((y : Int) + 1) v))
     rw [EV_up] at hR2
     generalize w14.setCell ⟨rb, x, none⟩ (.int .i64 (mvV (onP pn qn sn tn) ((y : Int) + 1) v)) = w17 at *
     clear hR
     replace hT := hT.only hon (by intro b h1 h2; omega)
     replace G := Y.Only.up G hon (by omega)
     replace hC : RCells w17 [(⟨w.heap.size, 0, none⟩, .int .i64 gq), (⟨w.heap.size, 1, none⟩, .int .i64 aw), (⟨w.heap.size, 2, none⟩, .int .i64 za), (⟨w.heap.size, 3, none⟩, .int .i64 pn), (⟨w.heap.size, 4, none⟩, .int .i64 qn), (⟨tb, y, none⟩, .slice (some ⟨rb, 0, none⟩) (pn + 1) (pn + 1))] := (RCells.cons (hon.cell (hC.at 0 rfl) (by show ¬ w.heap.size = rb; omega)) (RCells.cons (hon.cell (hC.at 1 rfl) (by show ¬ w.heap.size = rb; omega)) (RCells.cons (hon.cell (hC.at 2 rfl) (by show ¬ w.heap.size = rb; omega)) (RCells.cons (hon.cell (hC.at 3 rfl) (by show ¬ w.heap.size = rb; omega)) (RCells.cons (hon.cell (hC.at 4 rfl) (by show ¬ w.heap.size = rb; omega)) (RCells.cons (hon.cell (hC.at 5 rfl) (by show ¬ tb = rb; omega)) (RCells.nil _)))))))
     have hR := hR2.congr (row_up hval)
     clear hR2 hon hval
     refine Y.nil ?_
     replace F : Fr ac 102 [(0, .agg #[.int .i64 gq, .int .i64 aw, .int .i64 za, .int .i64 pn, .int .i64 qn]), (1, .int .i64 sn), (2, .int .i64 tn), (3, .pointer (some ⟨w.heap.size, 0, none⟩)), (6, .int .i64 0), (7, .slice (some ⟨tb, 0, none⟩) (tn + 1) (tn + 1)), (8, .int .i64 y), (9, .int .i64 x), (10, .int .i64 v), (11, .int .i64 (mvV (onP pn qn sn tn) ((y : Int) + 1) v)), (18, .bool true), (36, .bool true), (53, .bool false)] := F.sub _
     refine X.blockN ?_
     refine X.thenN ?_
     refine Y.lit (by kernel_rfl) ?_
     refine Y.pval F (X.w0 rfl) rfl (X.move rfl (F.ev 9 (.int .i64 x))) ?_
     clear F ac
     intro ac F
     refine Y.pval F (X.w0 rfl) rfl (X.binop rfl (F.ev 37 (.int .i64 x)) (X.kc (.int .i64 1) rfl) (X.addI Try.underlying3 rfl (by omega) (by omega))) ?_
     clear F ac
     intro ac F
     refine Y.pval F (X.w0 rfl) rfl (X.assign rfl (F.ev 38 (.int .i64 ((x : Int) + 1)))) ?_
     clear F ac
     intro ac F
     refine Y.nil ?_
     replace F : Fr ac 102 [(0, .agg #[.int .i64 gq, .int .i64 aw, .int .i64 za, .int .i64 pn, .int .i64 qn]), (1, .int .i64 sn), (2, .int .i64 tn), (3, .pointer (some ⟨w.heap.size, 0, none⟩)), (6, .int .i64 0), (7, .slice (some ⟨tb, 0, none⟩) (tn + 1) (tn + 1)), (8, .int .i64 y), (9, .int .i64 ((x : Int) + 1)), (10, .int .i64 v), (11, .int .i64 (mvV (onP pn qn sn tn) ((y : Int) + 1) v)), (18, .bool true), (36, .bool true), (53, .bool false)] := F.sub _
     refine X.thenN ?_
     refine ⟨_, ?_, x + 1, rfl, by omega, G, hC, hT, hR, F.sub _⟩
     omega
    | true =>
     try rw [h16] at F
     have h16p : ((0 : Int) < v) := of_decide_eq_true h16
     have hgb := gnV_bd hpk (x := (v : Int) - 1) (a := (y : Int) + 1) (by omega) (by show (v : Int) - 1 ≤ (pn : Int); omega) sn
     obtain ⟨q, hgu⟩ : ∃ q : Nat, gnV (onP pn qn sn tn) ((v : Int) - 1) ((y : Int) + 1) sn = q := ⟨(gnV (onP pn qn sn tn) ((v : Int) - 1) ((y : Int) + 1) sn).toNat, by omega⟩
     rw [hgu] at hgb
     have hub : q ≤ pn := by have h9 : (q : Int) ≤ (pn : Int) := hgb.2; omega
     clear hgb
     refine Y.condT (F.ev 53 (.bool true)) ?_
     refine Y.seq ?_
     refine Y.lit (by kernel_rfl) ?_
     refine Y.pval F (X.w0 rfl) rfl (X.move rfl (F.ev 1 (.int .i64 sn))) ?_
     clear F ac
     intro ac F
     refine Y.pval F (X.w0 rfl) rfl (X.move rfl (F.ev 2 (.int .i64 tn))) ?_
     clear F ac
     intro ac F
     refine Y.pval F (X.w0 rfl) rfl (X.move rfl (F.ev 8 (.int .i64 y))) ?_
     clear F ac
     intro ac F
     refine Y.pval F (X.w0 rfl) rfl (X.binop rfl (F.ev 55 (.int .i64 tn)) (F.ev 56 (.int .i64 y)) (X.subI Try.underlying3 rfl (by omega) (by omega))) ?_
     clear F ac
     intro ac F
     refine Y.pval F (X.w0 rfl) rfl (Y.min2 rfl (F.ev 54 (.int .i64 sn)) (F.ev 57 (.int .i64 ((tn : Int) - y)))) ?_
     clear F ac
     intro ac F
     refine Y.pval F (X.w0 rfl) rfl (X.assign rfl (F.ev 58 (.int .i64 (min (sn : Int) ((tn : Int) - y : Int))))) ?_
     clear F ac
     intro ac F
     refine Y.nil ?_
     replace F : Fr ac 102 [(0, .agg #[.int .i64 gq, .int .i64 aw, .int .i64 za, .int .i64 pn, .int .i64 qn]), (1, .int .i64 sn), (2, .int .i64 tn), (3, .pointer (some ⟨w.heap.size, 0, none⟩)), (6, .int .i64 0), (7, .slice (some ⟨tb, 0, none⟩) (tn + 1) (tn + 1)), (8, .int .i64 y), (9, .int .i64 x), (10, .int .i64 v), (11, .int .i64 (mvV (onP pn qn sn tn) ((y : Int) + 1) v)), (12, .int .i64 (min (sn : Int) ((tn : Int) - y : Int))), (18, .bool true), (36, .bool true), (53, .bool true)] := F.sub _
     refine X.thenN ?_
     refine Y.seq ?_
     refine Y.seq ?_
     refine Y.lit (by kernel_rfl) ?_
     refine Y.pval F (X.w0 rfl) rfl (X.move rfl (F.ev 8 (.int .i64 y))) ?_
     clear F ac
     intro ac F
     refine Y.pval F (X.w0 rfl) rfl (X.move rfl (F.ev 1 (.int .i64 sn))) ?_
     clear F ac
     intro ac F
     refine Y.pval F (X.w0 rfl) rfl (X.binop rfl (F.ev 59 (.int .i64 y)) (F.ev 60 (.int .i64 sn)) (X.addI Try.underlying3 rfl (by omega) (by omega))) ?_
     clear F ac
     intro ac F
     refine Y.pval F (X.w0 rfl) rfl (X.binop rfl (F.ev 61 (.int .i64 ((y : Int) + sn))) (X.kc (.int .i64 1) rfl) (X.addI Try.underlying3 rfl (by omega) (by omega))) ?_
     clear F ac
     intro ac F
     refine Y.pval F (X.w0 rfl) rfl (X.move rfl (F.ev 2 (.int .i64 tn))) ?_
     clear F ac
     intro ac F
     refine Y.pval F (X.w0 rfl) rfl (X.binop rfl (F.ev 62 (.int .i64 (((y : Int) + sn : Int) + 1))) (F.ev 63 (.int .i64 tn)) (X.leqI Try.underlying3 rfl)) ?_
     clear F ac
     intro ac F
     refine Y.nil ?_
     replace F : Fr ac 102 [(0, .agg #[.int .i64 gq, .int .i64 aw, .int .i64 za, .int .i64 pn, .int .i64 qn]), (1, .int .i64 sn), (2, .int .i64 tn), (3, .pointer (some ⟨w.heap.size, 0, none⟩)), (6, .int .i64 0), (7, .slice (some ⟨tb, 0, none⟩) (tn + 1) (tn + 1)), (8, .int .i64 y), (9, .int .i64 x), (10, .int .i64 v), (11, .int .i64 (mvV (onP pn qn sn tn) ((y : Int) + 1) v)), (12, .int .i64 (min (sn : Int) ((tn : Int) - y : Int))), (18, .bool true), (36, .bool true), (53, .bool true), (64, .bool (decide ((((y : Int) + sn : Int) + 1 : Int) ≤ tn)))] := F.sub _
     refine X.thenN ?_
     cases h18 : decide ((((y : Int) + sn : Int) + 1 : Int) ≤ tn) with
     | false =>
      try rw [h18] at F
      have h18p : ¬ ((((y : Int) + sn : Int) + 1 : Int) ≤ tn) := of_decide_eq_false h18
      refine Y.condF (F.ev 64 (.bool false)) ?_
      refine Y.skip ?_
      refine X.thenN ?_
      refine Y.lit (by kernel_rfl) ?_
      refine Y.pval F (X.w0 rfl) rfl (X.move rfl (F.ev 11 (.int .i64 (mvV (onP pn qn sn tn) ((y : Int) + 1) v)))) ?_
      clear F ac
      intro ac F
      refine Y.pval F (X.w0 rfl) rfl (X.move rfl (F.ev 12 (.int .i64 (min (sn : Int) ((tn : Int) - y : Int))))) ?_
      clear F ac
      intro ac F
      refine Y.pval F (X.w0 rfl) rfl (Y.max2 rfl (F.ev 85 (.int .i64 (mvV (onP pn qn sn tn) ((y : Int) + 1) v))) (F.ev 86 (.int .i64 (min (sn : Int) ((tn : Int) - y : Int))))) ?_
      clear F ac
      intro ac F
      refine Y.pval F (X.w0 rfl) rfl (X.assign rfl (F.ev 87 (.int .i64 (max (mvV (onP pn qn sn tn) ((y : Int) + 1) v : Int) ((min (sn : Int) ((tn : Int) - y : Int)) : Int))))) ?_
      clear F ac
      intro ac F
      refine Y.nil ?_
      replace F : Fr ac 102 [(0, .agg #[.int .i64 gq, .int .i64 aw, .int .i64 za, .int .i64 pn, .int .i64 qn]), (1, .int .i64 sn), (2, .int .i64 tn), (3, .pointer (some ⟨w.heap.size, 0, none⟩)), (6, .int .i64 0), (7, .slice (some ⟨tb, 0, none⟩) (tn + 1) (tn + 1)), (8, .int .i64 y), (9, .int .i64 x), (10, .int .i64 v), (11, .int .i64 (max (mvV (onP pn qn sn tn) ((y : Int) + 1) v : Int) ((min (sn : Int) ((tn : Int) - y : Int)) : Int))), (12, .int .i64 (min (sn : Int) ((tn : Int) - y : Int))), (18, .bool true), (36, .bool true), (53, .bool true), (64, .bool false)] := F.sub _
      refine X.thenN ?_
      refine Y.lit (by kernel_rfl) ?_
      refine Y.pval F (X.w0 rfl) rfl (X.move rfl (F.ev 7 (.slice (some ⟨tb, 0, none⟩) (tn + 1) (tn + 1)))) ?_
      clear F ac
      intro ac F
      refine Y.pval F (X.w0 rfl) rfl (X.move rfl (F.ev 8 (.int .i64 y))) ?_
      clear F ac
      intro ac F
      refine Y.pval F (X.w0 rfl) rfl (X.index rfl (F.ev 88 (.slice (some ⟨tb, 0, none⟩) (tn + 1) (tn + 1))) (F.ev 89 (.int .i64 y)) (X.idx (k := y) Try.underlying138 (Try.siz34 _) (by omega) (by omega) (addr_own _ _))) ?_
      clear F ac
      intro ac F
      refine Y.pval F (X.w0 rfl) rfl (X.load rfl (F.ev 90 (.pointer (some ⟨tb, y, none⟩))) (X.ld1 (Try.agg34 _) (hC.at 5 rfl))) ?_
      clear F ac
      intro ac F
      refine Y.pval F (X.w0 rfl) rfl (X.move rfl (F.ev 9 (.int .i64 x))) ?_
      clear F ac
      intro ac F
      refine Y.pval F (X.w0 rfl) rfl (X.move rfl (F.ev 11 (.int .i64 (max (mvV (onP pn qn sn tn) ((y : Int) + 1) v : Int) ((min (sn : Int) ((tn : Int) - y : Int)) : Int))))) ?_
      clear F ac
      intro ac F
      refine Y.pval F (X.w0 rfl) rfl (X.index rfl (F.ev 91 (.slice (some ⟨rb, 0, none⟩) (pn + 1) (pn + 1))) (F.ev 92 (.int .i64 x)) (X.idx (k := x) Try.underlying34 (Try.siz3 _) (by omega) (by omega) (addr_own _ _))) ?_
      clear F ac
      intro ac F
      have hval : ((max (mvV (onP pn qn sn tn) ((y : Int) + 1) v : Int) ((min (sn : Int) ((tn : Int) - y : Int)) : Int)) : Int) = mvV (onP pn qn sn tn) y x := by rw [mv_wake (t := (y : Int)) (x := (x : Int)) hpk rfl rfl (by show (y : Int) < (tn : Int); omega) (by rw [hrv]; omega), hrv]; unfold wakeV; rw [if_neg (by show ¬ (y : Int) + (sn : Int) + 1 ≤ (tn : Int); omega), Int.add_zero]; rfl
      refine Y.punit F (X.w0 rfl) rfl (X.store rfl (F.ev 94 (.pointer (some ⟨rb, x, none⟩))) (F.ev 93 (.int .i64 (max (mvV (onP pn qn sn tn) ((y : Int) + 1) v : Int) ((min (sn : Int) ((tn : Int) - y : Int)) : Int)))) (hR.st1 (Try.siz3 _) rfl rfl (by omega))) ?_
      clear F ac
      intro ac F
      have hon := Y.set_only w14 rb x (.int .i64 (max (mvV (onP pn qn sn tn) ((y : Int) + 1) v : Int) ((min (sn : Int) ((tn : Int) - y : Int)) : Int)))
      have hR2 := hR.set (k := x) (.int .i64 (max (mvV (onP pn qn sn tn) ((y : Int) + 1) v : Int) ((min (sn : Int) ((tn : Int) - y : Int)) : Int)))
      rw [EV_up] at hR2
      generalize w14.setCell ⟨rb, x, none⟩ (.int .i64 (max (mvV (onP pn qn sn tn) ((y : Int) + 1) v : Int) ((min (sn : Int) ((tn : Int) - y : Int)) : Int))) = w19 at *
      clear hR
      replace hT := hT.only hon (by intro b h1 h2; omega)
      replace G := Y.Only.up G hon (by omega)
      replace hC : RCells w19 [(⟨w.heap.size, 0, none⟩, .int .i64 gq), (⟨w.heap.size, 1, none⟩, .int .i64 aw), (⟨w.heap.size, 2, none⟩, .int .i64 za), (⟨w.heap.size, 3, none⟩, .int .i64 pn), (⟨w.heap.size, 4, none⟩, .int .i64 qn), (⟨tb, y, none⟩, .slice (some ⟨rb, 0, none⟩) (pn + 1) (pn + 1))] := (RCells.cons (hon.cell (hC.at 0 rfl) (by show ¬ w.heap.size = rb; omega)) (RCells.cons (hon.cell (hC.at 1 rfl) (by show ¬ w.heap.size = rb; omega)) (RCells.cons (hon.cell (hC.at 2 rfl) (by show ¬ w.heap.size = rb; omega)) (RCells.cons (hon.cell (hC.at 3 rfl) (by show ¬ w.heap.size = rb; omega)) (RCells.cons (hon.cell (hC.at 4 rfl) (by show ¬ w.heap.size = rb; omega)) (RCells.cons (hon.cell (hC.at 5 rfl) (by show ¬ tb = rb; omega)) (RCells.nil _)))))))
      have hR := hR2.congr (row_up hval)
      clear hR2 hon hval
      refine Y.nil ?_
      replace F : Fr ac 102 [(0, .agg #[.int .i64 gq, .int .i64 aw, .int .i64 za, .int .i64 pn, .int .i64 qn]), (1, .int .i64 sn), (2, .int .i64 tn), (3, .pointer (some ⟨w.heap.size, 0, none⟩)), (6, .int .i64 0), (7, .slice (some ⟨tb, 0, none⟩) (tn + 1) (tn + 1)), (8, .int .i64 y), (9, .int .i64 x), (10, .int .i64 v), (11, .int .i64 (max (mvV (onP pn qn sn tn) ((y : Int) + 1) v : Int) ((min (sn : Int) ((tn : Int) - y : Int)) : Int))), (12, .int .i64 (min (sn : Int) ((tn : Int) - y : Int))), (18, .bool true), (36, .bool true), (53, .bool true), (64, .bool false)] := F.sub _
      refine X.blockN ?_
      refine X.thenN ?_
      refine Y.lit (by kernel_rfl) ?_
      refine Y.pval F (X.w0 rfl) rfl (X.move rfl (F.ev 9 (.int .i64 x))) ?_
      clear F ac
      intro ac F
      refine Y.pval F (X.w0 rfl) rfl (X.binop rfl (F.ev 37 (.int .i64 x)) (X.kc (.int .i64 1) rfl) (X.addI Try.underlying3 rfl (by omega) (by omega))) ?_
      clear F ac
      intro ac F
      refine Y.pval F (X.w0 rfl) rfl (X.assign rfl (F.ev 38 (.int .i64 ((x : Int) + 1)))) ?_
      clear F ac
      intro ac F
      refine Y.nil ?_
      replace F : Fr ac 102 [(0, .agg #[.int .i64 gq, .int .i64 aw, .int .i64 za, .int .i64 pn, .int .i64 qn]), (1, .int .i64 sn), (2, .int .i64 tn), (3, .pointer (some ⟨w.heap.size, 0, none⟩)), (6, .int .i64 0), (7, .slice (some ⟨tb, 0, none⟩) (tn + 1) (tn + 1)), (8, .int .i64 y), (9, .int .i64 ((x : Int) + 1)), (10, .int .i64 v), (11, .int .i64 (max (mvV (onP pn qn sn tn) ((y : Int) + 1) v : Int) ((min (sn : Int) ((tn : Int) - y : Int)) : Int))), (12, .int .i64 (min (sn : Int) ((tn : Int) - y : Int))), (18, .bool true), (36, .bool true), (53, .bool true), (64, .bool false)] := F.sub _
      refine X.thenN ?_
      refine ⟨_, ?_, x + 1, rfl, by omega, G, hC, hT, hR, F.sub _⟩
      omega
     | true =>
      try rw [h18] at F
      have h18p : ((((y : Int) + sn : Int) + 1 : Int) ≤ tn) := of_decide_eq_true h18
      have hmb : 0 ≤ mvV (onP pn qn sn tn) ((y : Int) + sn + 1) q ∧ mvV (onP pn qn sn tn) ((y : Int) + sn + 1) q ≤ (tn : Int) - ((y : Int) + sn + 1) := mv_bd rfl rfl ((y : Int) + sn + 1) q (by show (y : Int) + sn + 1 ≤ (tn : Int); omega)
      refine Y.condT (F.ev 64 (.bool true)) ?_
      obtain ⟨rb20, hr20, hrl20, hrr20⟩ := hT.row (t := (y + sn + 1)) (by omega) (by omega)
      replace hC : RCells w14 [(⟨w.heap.size, 0, none⟩, .int .i64 gq), (⟨w.heap.size, 1, none⟩, .int .i64 aw), (⟨w.heap.size, 2, none⟩, .int .i64 za), (⟨w.heap.size, 3, none⟩, .int .i64 pn), (⟨w.heap.size, 4, none⟩, .int .i64 qn), (⟨tb, y, none⟩, .slice (some ⟨rb, 0, none⟩) (pn + 1) (pn + 1)), (⟨tb, (y + 1), none⟩, .slice (some ⟨rb15, 0, none⟩) (pn + 1) (pn + 1)), (⟨rb15, v, none⟩, .int .i64 (mvV (onP pn qn sn tn) ((y : Int) + 1) v)), (⟨tb, (y + sn + 1), none⟩, .slice (some ⟨rb20, 0, none⟩) (pn + 1) (pn + 1))] := hC.append ((RCells.cons hr20 (RCells.nil _)))
      replace hC : RCells w14 [(⟨w.heap.size, 0, none⟩, .int .i64 gq), (⟨w.heap.size, 1, none⟩, .int .i64 aw), (⟨w.heap.size, 2, none⟩, .int .i64 za), (⟨w.heap.size, 3, none⟩, .int .i64 pn), (⟨w.heap.size, 4, none⟩, .int .i64 qn), (⟨tb, y, none⟩, .slice (some ⟨rb, 0, none⟩) (pn + 1) (pn + 1)), (⟨tb, (y + 1), none⟩, .slice (some ⟨rb15, 0, none⟩) (pn + 1) (pn + 1)), (⟨rb15, v, none⟩, .int .i64 (mvV (onP pn qn sn tn) ((y : Int) + 1) v)), (⟨tb, (y + sn + 1), none⟩, .slice (some ⟨rb20, 0, none⟩) (pn + 1) (pn + 1)), (⟨rb20, q, none⟩, .int .i64 (mvV (onP pn qn sn tn) ((y : Int) + sn + 1) q))] := hC.append ((RCells.cons (hrr20.cell (k := q) (by omega)) (RCells.nil _)))
      refine Y.region F [some (.int .i64 (min (sn : Int) ((tn : Int) - y : Int))), some (.slice (some ⟨tb, 0, none⟩) (tn + 1) (tn + 1)), some (.int .i64 y), some (.int .i64 sn), some (.int .i64 ((y : Int) + sn)), some (.int .i64 (((y : Int) + sn : Int) + 1)), some (.pointer (some ⟨tb, (y + sn + 1), none⟩)), some (.slice (some ⟨rb20, 0, none⟩) (pn + 1) (pn + 1)), some (.agg #[.int .i64 gq, .int .i64 aw, .int .i64 za, .int .i64 pn, .int .i64 qn]), some (.int .i64 v), some (.int .i64 ((v : Int) - 1)), some (.int .i64 y), some (.int .i64 ((y : Int) + 1)), some (.int .i64 y), some (.int .i64 sn), some (.int .i64 ((y : Int) + sn)), some (.int .i64 q), some (.pointer (some ⟨rb20, q, none⟩)), some (.int .i64 (mvV (onP pn qn sn tn) ((y : Int) + sn + 1) q)), some (.int .i64 (((min (sn : Int) ((tn : Int) - y : Int)) : Int) + (mvV (onP pn qn sn tn) ((y : Int) + sn + 1) q))), some (.int .i64 (((min (sn : Int) ((tn : Int) - y : Int)) : Int) + (mvV (onP pn qn sn tn) ((y : Int) + sn + 1) q)))] [] rfl ⟨by kernel_rfl, of_decide_eq_true (by kernel_rfl), by kernel_rfl, by kernel_rfl, by kernel_rfl⟩ ⟨?_, ?_, ?_, ?_, ?_, ?_, ?_, ?_, ?_, ?_, ?_, ?_, ?_, ?_, ?_, ?_, ?_, ?_, ?_, ?_, ?_, trivial⟩ ?_
      ·intro ac done u W Sx hR
       exact X.val (X.w0 rfl) rfl (X.move rfl (Sx.ev 12 (.int .i64 (min (sn : Int) ((tn : Int) - y : Int))))) (hR.step (Gr.refl _) rfl)
      ·intro ac done u W Sx hR
       exact X.val (X.w0 rfl) rfl (X.move rfl (Sx.ev 7 (.slice (some ⟨tb, 0, none⟩) (tn + 1) (tn + 1)))) (hR.step (Gr.refl _) rfl)
      ·intro ac done u W Sx hR
       exact X.val (X.w0 rfl) rfl (X.move rfl (Sx.ev 8 (.int .i64 y))) (hR.step (Gr.refl _) rfl)
      ·intro ac done u W Sx hR
       exact X.val (X.w0 rfl) rfl (X.move rfl (Sx.ev 1 (.int .i64 sn))) (hR.step (Gr.refl _) rfl)
      ·intro ac done u W Sx hR
       exact X.val (X.w0 rfl) rfl (X.binop rfl (Sx.ev 67 (.int .i64 y)) (Sx.ev 68 (.int .i64 sn)) (X.addI Try.underlying3 rfl (by omega) (by omega))) (hR.step (Gr.refl _) rfl)
      ·intro ac done u W Sx hR
       exact X.val (X.w0 rfl) rfl (X.binop rfl (Sx.ev 69 (.int .i64 ((y : Int) + sn))) (X.kc (.int .i64 1) rfl) (X.addI Try.underlying3 rfl (by omega) (by omega))) (hR.step (Gr.refl _) rfl)
      ·intro ac done u W Sx hR
       exact X.val (X.w0 rfl) rfl (X.index rfl (Sx.ev 66 (.slice (some ⟨tb, 0, none⟩) (tn + 1) (tn + 1))) (Sx.ev 70 (.int .i64 (((y : Int) + sn : Int) + 1))) (X.idx (k := (y + sn + 1)) Try.underlying138 (Try.siz34 _) (by omega) (by omega) (addr_own _ _))) (hR.step (Gr.refl _) rfl)
      ·intro ac done u W Sx hR
       have g : Gr w14 W := hR.1
       exact X.val (X.w0 rfl) rfl (X.load rfl (Sx.ev 71 (.pointer (some ⟨tb, (y + sn + 1), none⟩))) (X.ld1 (Try.agg34 _) ((hC.gr g).at 8 rfl))) (hR.step (Gr.refl _) rfl)
      ·intro ac done u W Sx hR
       have g : Gr w14 W := hR.1
       exact X.val (X.w0 rfl) rfl (X.load rfl (Sx.ev 3 (.pointer (some ⟨w.heap.size, 0, none⟩))) (X.ldN (Try.agg31 _) (Try.siz31 _) (Y.atz (⟨w.heap.size, 0, none⟩) (Y.AtFrom.cons ((hC.gr g).at 0 rfl) (Y.AtFrom.cons ((hC.gr g).at 1 rfl) (Y.AtFrom.cons ((hC.gr g).at 2 rfl) (Y.AtFrom.cons ((hC.gr g).at 3 rfl) (Y.AtFrom.cons ((hC.gr g).at 4 rfl) (Y.AtFrom.nil _ _ _))))))))) (hR.step (Gr.refl _) rfl)
      ·intro ac done u W Sx hR
       exact X.val (X.w0 rfl) rfl (X.move rfl (Sx.ev 10 (.int .i64 v))) (hR.step (Gr.refl _) rfl)
      ·intro ac done u W Sx hR
       exact X.val (X.w0 rfl) rfl (X.binop rfl (Sx.ev 74 (.int .i64 v)) (X.kc (.int .i64 1) rfl) (X.subI Try.underlying3 rfl (by omega) (by omega))) (hR.step (Gr.refl _) rfl)
      ·intro ac done u W Sx hR
       exact X.val (X.w0 rfl) rfl (X.move rfl (Sx.ev 8 (.int .i64 y))) (hR.step (Gr.refl _) rfl)
      ·intro ac done u W Sx hR
       exact X.val (X.w0 rfl) rfl (X.binop rfl (Sx.ev 76 (.int .i64 y)) (X.kc (.int .i64 1) rfl) (X.addI Try.underlying3 rfl (by omega) (by omega))) (hR.step (Gr.refl _) rfl)
      ·intro ac done u W Sx hR
       exact X.val (X.w0 rfl) rfl (X.move rfl (Sx.ev 8 (.int .i64 y))) (hR.step (Gr.refl _) rfl)
      ·intro ac done u W Sx hR
       exact X.val (X.w0 rfl) rfl (X.move rfl (Sx.ev 1 (.int .i64 sn))) (hR.step (Gr.refl _) rfl)
      ·intro ac done u W Sx hR
       exact X.val (X.w0 rfl) rfl (X.binop rfl (Sx.ev 78 (.int .i64 y)) (Sx.ev 79 (.int .i64 sn)) (X.addI Try.underlying3 rfl (by omega) (by omega))) (hR.step (Gr.refl _) rfl)
      ·intro ac done u W Sx hR
       refine X.call (X.w0 rfl) (X.enter (F := 87) rfl (X.kc (.func (.func 87) #[] #[]) rfl) (X.a4 (Sx.ev 73 (.agg #[.int .i64 gq, .int .i64 aw, .int .i64 za, .int .i64 pn, .int .i64 qn])) (Sx.ev 75 (.int .i64 ((v : Int) - 1))) (Sx.ev 77 (.int .i64 ((y : Int) + 1))) (Sx.ev 80 (.int .i64 ((y : Int) + sn)))) (enters_of Try.func87 (by kernel_rfl) rfl _)) (by have hq := gain_any gq aw za (onP pn qn sn tn) ((v : Int) - 1) ((y : Int) + 1) ((y : Int) + sn) sn W hpk ⟨by omega, by show (v : Int) - 1 ≤ (pn : Int); omega⟩ (by omega) (by omega) (by omega); rw [hgu] at hq; exact hq) ?_
       rintro e W2 ⟨rfl, g2⟩
       exact ⟨_, rfl, X.kn rfl, hR.step g2 rfl⟩
      ·intro ac done u W Sx hR
       exact X.val (X.w0 rfl) rfl (X.index rfl (Sx.ev 72 (.slice (some ⟨rb20, 0, none⟩) (pn + 1) (pn + 1))) (Sx.ev 81 (.int .i64 q)) (X.idx (k := q) Try.underlying34 (Try.siz3 _) (by omega) (by omega) (addr_own _ _))) (hR.step (Gr.refl _) rfl)
      ·intro ac done u W Sx hR
       have g : Gr w14 W := hR.1
       exact X.val (X.w0 rfl) rfl (X.load rfl (Sx.ev 82 (.pointer (some ⟨rb20, q, none⟩))) (X.ld1 (Try.agg3 _) ((hC.gr g).at 9 rfl))) (hR.step (Gr.refl _) rfl)
      ·intro ac done u W Sx hR
       exact X.val (X.w0 rfl) rfl (X.binop rfl (Sx.ev 65 (.int .i64 (min (sn : Int) ((tn : Int) - y : Int)))) (Sx.ev 83 (.int .i64 (mvV (onP pn qn sn tn) ((y : Int) + sn + 1) q))) (X.addI Try.underlying3 rfl (by omega) (by omega))) (hR.step (Gr.refl _) rfl)
      ·intro ac done u W Sx hR
       exact X.val (X.w0 rfl) rfl (X.assign rfl (Sx.ev 84 (.int .i64 (((min (sn : Int) ((tn : Int) - y : Int)) : Int) + (mvV (onP pn qn sn tn) ((y : Int) + sn + 1) q))))) (hR.step (Gr.refl _) rfl)
      intro ac u w21 hs hd hl ho hR
      have g : Gr w14 w21 := hR.1
      replace F : Fr ac 102 [(0, .agg #[.int .i64 gq, .int .i64 aw, .int .i64 za, .int .i64 pn, .int .i64 qn]), (1, .int .i64 sn), (2, .int .i64 tn), (3, .pointer (some ⟨w.heap.size, 0, none⟩)), (6, .int .i64 0), (7, .slice (some ⟨tb, 0, none⟩) (tn + 1) (tn + 1)), (8, .int .i64 y), (9, .int .i64 x), (10, .int .i64 v), (11, .int .i64 (mvV (onP pn qn sn tn) ((y : Int) + 1) v)), (12, .int .i64 (((min (sn : Int) ((tn : Int) - y : Int)) : Int) + (mvV (onP pn qn sn tn) ((y : Int) + sn + 1) q))), (18, .bool true), (36, .bool true), (53, .bool true), (64, .bool true)] := X.fr hs hd hl _ (by kernel_rfl)
      clear hs hd hl ho hR
      replace G := G.trans g
      replace hC := hC.gr g
      replace hT := hT.gr g
      replace hR := hR.gr g
      replace hrr15 := hrr15.gr g
      replace hrr20 := hrr20.gr g
      clear g
      refine X.thenN ?_
      refine Y.lit (by kernel_rfl) ?_
      refine Y.pval F (X.w0 rfl) rfl (X.move rfl (F.ev 11 (.int .i64 (mvV (onP pn qn sn tn) ((y : Int) + 1) v)))) ?_
      clear F ac
      intro ac F
      refine Y.pval F (X.w0 rfl) rfl (X.move rfl (F.ev 12 (.int .i64 (((min (sn : Int) ((tn : Int) - y : Int)) : Int) + (mvV (onP pn qn sn tn) ((y : Int) + sn + 1) q))))) ?_
      clear F ac
      intro ac F
      refine Y.pval F (X.w0 rfl) rfl (Y.max2 rfl (F.ev 85 (.int .i64 (mvV (onP pn qn sn tn) ((y : Int) + 1) v))) (F.ev 86 (.int .i64 (((min (sn : Int) ((tn : Int) - y : Int)) : Int) + (mvV (onP pn qn sn tn) ((y : Int) + sn + 1) q))))) ?_
      clear F ac
      intro ac F
      refine Y.pval F (X.w0 rfl) rfl (X.assign rfl (F.ev 87 (.int .i64 (max (mvV (onP pn qn sn tn) ((y : Int) + 1) v : Int) (((min (sn : Int) ((tn : Int) - y : Int)) : Int) + (mvV (onP pn qn sn tn) ((y : Int) + sn + 1) q) : Int))))) ?_
      clear F ac
      intro ac F
      refine Y.nil ?_
      replace F : Fr ac 102 [(0, .agg #[.int .i64 gq, .int .i64 aw, .int .i64 za, .int .i64 pn, .int .i64 qn]), (1, .int .i64 sn), (2, .int .i64 tn), (3, .pointer (some ⟨w.heap.size, 0, none⟩)), (6, .int .i64 0), (7, .slice (some ⟨tb, 0, none⟩) (tn + 1) (tn + 1)), (8, .int .i64 y), (9, .int .i64 x), (10, .int .i64 v), (11, .int .i64 (max (mvV (onP pn qn sn tn) ((y : Int) + 1) v : Int) (((min (sn : Int) ((tn : Int) - y : Int)) : Int) + (mvV (onP pn qn sn tn) ((y : Int) + sn + 1) q) : Int))), (12, .int .i64 (((min (sn : Int) ((tn : Int) - y : Int)) : Int) + (mvV (onP pn qn sn tn) ((y : Int) + sn + 1) q))), (18, .bool true), (36, .bool true), (53, .bool true), (64, .bool true)] := F.sub _
      refine X.thenN ?_
      refine Y.lit (by kernel_rfl) ?_
      refine Y.pval F (X.w0 rfl) rfl (X.move rfl (F.ev 7 (.slice (some ⟨tb, 0, none⟩) (tn + 1) (tn + 1)))) ?_
      clear F ac
      intro ac F
      refine Y.pval F (X.w0 rfl) rfl (X.move rfl (F.ev 8 (.int .i64 y))) ?_
      clear F ac
      intro ac F
      refine Y.pval F (X.w0 rfl) rfl (X.index rfl (F.ev 88 (.slice (some ⟨tb, 0, none⟩) (tn + 1) (tn + 1))) (F.ev 89 (.int .i64 y)) (X.idx (k := y) Try.underlying138 (Try.siz34 _) (by omega) (by omega) (addr_own _ _))) ?_
      clear F ac
      intro ac F
      refine Y.pval F (X.w0 rfl) rfl (X.load rfl (F.ev 90 (.pointer (some ⟨tb, y, none⟩))) (X.ld1 (Try.agg34 _) (hC.at 5 rfl))) ?_
      clear F ac
      intro ac F
      refine Y.pval F (X.w0 rfl) rfl (X.move rfl (F.ev 9 (.int .i64 x))) ?_
      clear F ac
      intro ac F
      refine Y.pval F (X.w0 rfl) rfl (X.move rfl (F.ev 11 (.int .i64 (max (mvV (onP pn qn sn tn) ((y : Int) + 1) v : Int) (((min (sn : Int) ((tn : Int) - y : Int)) : Int) + (mvV (onP pn qn sn tn) ((y : Int) + sn + 1) q) : Int))))) ?_
      clear F ac
      intro ac F
      refine Y.pval F (X.w0 rfl) rfl (X.index rfl (F.ev 91 (.slice (some ⟨rb, 0, none⟩) (pn + 1) (pn + 1))) (F.ev 92 (.int .i64 x)) (X.idx (k := x) Try.underlying34 (Try.siz3 _) (by omega) (by omega) (addr_own _ _))) ?_
      clear F ac
      intro ac F
      have hval : ((max (mvV (onP pn qn sn tn) ((y : Int) + 1) v : Int) (((min (sn : Int) ((tn : Int) - y : Int)) : Int) + (mvV (onP pn qn sn tn) ((y : Int) + sn + 1) q) : Int)) : Int) = mvV (onP pn qn sn tn) y x := by rw [mv_wake (t := (y : Int)) (x := (x : Int)) hpk rfl rfl (by show (y : Int) < (tn : Int); omega) (by rw [hrv]; omega), hrv]; unfold wakeV; rw [if_pos (by show (y : Int) + (sn : Int) + 1 ≤ (tn : Int); omega)]; rw [show (onP pn qn sn tn).hold.toNat = sn from Int.toNat_natCast sn, hgu]; rfl
      refine Y.punit F (X.w0 rfl) rfl (X.store rfl (F.ev 94 (.pointer (some ⟨rb, x, none⟩))) (F.ev 93 (.int .i64 (max (mvV (onP pn qn sn tn) ((y : Int) + 1) v : Int) (((min (sn : Int) ((tn : Int) - y : Int)) : Int) + (mvV (onP pn qn sn tn) ((y : Int) + sn + 1) q) : Int)))) (hR.st1 (Try.siz3 _) rfl rfl (by omega))) ?_
      clear F ac
      intro ac F
      have hon := Y.set_only w21 rb x (.int .i64 (max (mvV (onP pn qn sn tn) ((y : Int) + 1) v : Int) (((min (sn : Int) ((tn : Int) - y : Int)) : Int) + (mvV (onP pn qn sn tn) ((y : Int) + sn + 1) q) : Int)))
      have hR2 := hR.set (k := x) (.int .i64 (max (mvV (onP pn qn sn tn) ((y : Int) + 1) v : Int) (((min (sn : Int) ((tn : Int) - y : Int)) : Int) + (mvV (onP pn qn sn tn) ((y : Int) + sn + 1) q) : Int)))
      rw [EV_up] at hR2
      generalize w21.setCell ⟨rb, x, none⟩ (.int .i64 (max (mvV (onP pn qn sn tn) ((y : Int) + 1) v : Int) (((min (sn : Int) ((tn : Int) - y : Int)) : Int) + (mvV (onP pn qn sn tn) ((y : Int) + sn + 1) q) : Int))) = w22 at *
      clear hR
      replace hT := hT.only hon (by intro b h1 h2; omega)
      replace G := Y.Only.up G hon (by omega)
      replace hC : RCells w22 [(⟨w.heap.size, 0, none⟩, .int .i64 gq), (⟨w.heap.size, 1, none⟩, .int .i64 aw), (⟨w.heap.size, 2, none⟩, .int .i64 za), (⟨w.heap.size, 3, none⟩, .int .i64 pn), (⟨w.heap.size, 4, none⟩, .int .i64 qn), (⟨tb, y, none⟩, .slice (some ⟨rb, 0, none⟩) (pn + 1) (pn + 1))] := (RCells.cons (hon.cell (hC.at 0 rfl) (by show ¬ w.heap.size = rb; omega)) (RCells.cons (hon.cell (hC.at 1 rfl) (by show ¬ w.heap.size = rb; omega)) (RCells.cons (hon.cell (hC.at 2 rfl) (by show ¬ w.heap.size = rb; omega)) (RCells.cons (hon.cell (hC.at 3 rfl) (by show ¬ w.heap.size = rb; omega)) (RCells.cons (hon.cell (hC.at 4 rfl) (by show ¬ w.heap.size = rb; omega)) (RCells.cons (hon.cell (hC.at 5 rfl) (by show ¬ tb = rb; omega)) (RCells.nil _)))))))
      have hR := hR2.congr (row_up hval)
      clear hR2 hon hval
      refine Y.nil ?_
      replace F : Fr ac 102 [(0, .agg #[.int .i64 gq, .int .i64 aw, .int .i64 za, .int .i64 pn, .int .i64 qn]), (1, .int .i64 sn), (2, .int .i64 tn), (3, .pointer (some ⟨w.heap.size, 0, none⟩)), (6, .int .i64 0), (7, .slice (some ⟨tb, 0, none⟩) (tn + 1) (tn + 1)), (8, .int .i64 y), (9, .int .i64 x), (10, .int .i64 v), (11, .int .i64 (max (mvV (onP pn qn sn tn) ((y : Int) + 1) v : Int) (((min (sn : Int) ((tn : Int) - y : Int)) : Int) + (mvV (onP pn qn sn tn) ((y : Int) + sn + 1) q) : Int))), (12, .int .i64 (((min (sn : Int) ((tn : Int) - y : Int)) : Int) + (mvV (onP pn qn sn tn) ((y : Int) + sn + 1) q))), (18, .bool true), (36, .bool true), (53, .bool true), (64, .bool true)] := F.sub _
      refine X.blockN ?_
      refine X.thenN ?_
      refine Y.lit (by kernel_rfl) ?_
      refine Y.pval F (X.w0 rfl) rfl (X.move rfl (F.ev 9 (.int .i64 x))) ?_
      clear F ac
      intro ac F
      refine Y.pval F (X.w0 rfl) rfl (X.binop rfl (F.ev 37 (.int .i64 x)) (X.kc (.int .i64 1) rfl) (X.addI Try.underlying3 rfl (by omega) (by omega))) ?_
      clear F ac
      intro ac F
      refine Y.pval F (X.w0 rfl) rfl (X.assign rfl (F.ev 38 (.int .i64 ((x : Int) + 1)))) ?_
      clear F ac
      intro ac F
      refine Y.nil ?_
      replace F : Fr ac 102 [(0, .agg #[.int .i64 gq, .int .i64 aw, .int .i64 za, .int .i64 pn, .int .i64 qn]), (1, .int .i64 sn), (2, .int .i64 tn), (3, .pointer (some ⟨w.heap.size, 0, none⟩)), (6, .int .i64 0), (7, .slice (some ⟨tb, 0, none⟩) (tn + 1) (tn + 1)), (8, .int .i64 y), (9, .int .i64 ((x : Int) + 1)), (10, .int .i64 v), (11, .int .i64 (max (mvV (onP pn qn sn tn) ((y : Int) + 1) v : Int) (((min (sn : Int) ((tn : Int) - y : Int)) : Int) + (mvV (onP pn qn sn tn) ((y : Int) + sn + 1) q) : Int))), (12, .int .i64 (((min (sn : Int) ((tn : Int) - y : Int)) : Int) + (mvV (onP pn qn sn tn) ((y : Int) + sn + 1) q))), (18, .bool true), (36, .bool true), (53, .bool true), (64, .bool true)] := F.sub _
      refine X.thenN ?_
      refine ⟨_, ?_, x + 1, rfl, by omega, G, hC, hT, hR, F.sub _⟩
      omega
end
section
open Go.RowKit

theorem X.mulI {P : Program} {W : World} {t : TypeId} (_hu : P.underlying t = some (.int .i64)) {x y : Operand} {p q z : Int} (hz : p * q = z) (h0 : -9223372036854775808 ≤ z) (h1 : z ≤ 9223372036854775807) : (do eqGuard .mul t x y (.int .i64 p) (.int .i64 q); binOp .mul t (.int .i64 p) (.int .i64 q) : Sem Value).run P W = .ok (.int .i64 z) W := by
  subst hz; simp [eqGuard, binOp, go_sem, IntWalk.i64_in _ ⟨h0, h1⟩]
theorem prod_bd {a b : Int} (h0 : 0 ≤ a) (h1 : a ≤ 1000) (h2 : 0 ≤ b) (h3 : b ≤ 10000) : 0 ≤ a * b ∧ a * b ≤ 10000000 := by
  refine ⟨Int.mul_nonneg h0 h2, ?_⟩
  have := Int.mul_le_mul h1 h3 h2 (by decide)
  omega

set_option maxRecDepth 100000 in
set_option maxHeartbeats 1000000 in
theorem energy_any (na : Option Addr) (n nc : Nat) (gr hold T : Int) (i : Nat) (nd : List (List Int)) (w : World) (hnd : StAt w 5 na n nd) (hc : CluOk gr hold nd) (hi : i < n) (hT : 0 ≤ T ∧ T ≤ 1000) :
  Calls Try.prog 60 #[.agg #[.int .i64 gr, .int .i64 hold, .slice na n nc], .int .i64 i, .int .i64 T] w fun e w' => e = .returned (.int .i64 (enrV nd hold i T)) ∧ Gr w w' := by
 have G := Gr.refl w
 have hnd0 := hnd
 have hlen := hnd.len
 have hlt := hnd.lt
 have ha1 := hc.awk i (by omega)
 have ha2 := hc.asl i (by omega)
 have ha3 := hc.bud i (by omega)
 have ha4 := hc.ref i (by omega)
 have hh1 := hc.h1
 have hh2 := hc.h100
 have h16 := hc.n16
 have e3 : ((cv nd i 3).toNat : Int) = cv nd i 3 := by omega
 have e4 : ((cv nd i 4).toNat : Int) = cv nd i 4 := by omega
 have eh : (hold.toNat : Int) = hold := by omega
 have eT : (T.toNat : Int) = T := by omega
 have hmb : 0 ≤ mvV (onP (cv nd i 3).toNat (cv nd i 4).toNat hold.toNat T.toNat) 0 (cv nd i 3) ∧ mvV (onP (cv nd i 3).toNat (cv nd i 4).toNat hold.toNat T.toNat) 0 (cv nd i 3) ≤ (T.toNat : Int) - 0 := mv_bd rfl rfl 0 (cv nd i 3) (by show (0 : Int) ≤ (T.toNat : Int); omega)
 have hp1 := prod_bd (a := T) (b := cv nd i 2) (by omega) (by omega) (by omega) (by omega)
 have hp2 := prod_bd (a := mvV (onP (cv nd i 3).toNat (cv nd i 4).toNat hold.toNat T.toNat) 0 (cv nd i 3)) (b := cv nd i 1 - cv nd i 2) (by omega) (by omega) (by omega) (by omega)
 refine Y.calls 29 Try.func60 rfl rfl ?_
 intro ac F0
 have F : Fr ac 29 [(0, .agg #[.int .i64 gr, .int .i64 hold, .slice na n nc]), (1, .int .i64 i), (2, .int .i64 T)] := F0.sub _
 clear F0
 refine Y.seq ?_
 refine Y.lit (by kernel_rfl) ?_
 refine Y.pval F (X.w0 rfl) rfl (X.box rfl (F.ev 0 (.agg #[.int .i64 gr, .int .i64 hold, .slice na n nc])) X.bx) ?_
 clear F ac
 intro ac F
 have g := Gr.alloc w (.cells #[.int .i64 gr, .int .i64 hold, .slice na n nc] 24)
 have hb := heap_alloc_new w (.cells #[.int .i64 gr, .int .i64 hold, .slice na n nc] 24)
 have hbl : w.heap.size < (w.alloc (.cells #[.int .i64 gr, .int .i64 hold, .slice na n nc] 24)).heap.size := by simp
 have hC2 : RCells (w.alloc (.cells #[.int .i64 gr, .int .i64 hold, .slice na n nc] 24)) [(⟨w.heap.size, 0, none⟩, .int .i64 gr), (⟨w.heap.size, 1, none⟩, .int .i64 hold), (⟨w.heap.size, 2, none⟩, .slice na n nc)] := (RCells.nil w).box (b := w.heap.size) #[.int .i64 gr, .int .i64 hold, .slice na n nc] 24 rfl
 generalize w.alloc (.cells #[.int .i64 gr, .int .i64 hold, .slice na n nc] 24) = w3 at *
 replace G := G.trans g
 have hC := hC2
 clear hC2
 replace hnd := hnd.gr g
 clear g hb hbl
 refine Y.pval F (X.w0 rfl) rfl (X.assign rfl (X.kc (.int .i64 0) rfl)) ?_
 clear F ac
 intro ac F
 refine Y.nil ?_
 replace F : Fr ac 29 [(0, .agg #[.int .i64 gr, .int .i64 hold, .slice na n nc]), (1, .int .i64 i), (2, .int .i64 T), (3, .pointer (some ⟨w.heap.size, 0, none⟩)), (6, .int .i64 0)] := F.sub _
 refine X.thenN ?_
 refine Y.seq ?_
 refine Y.lit (by kernel_rfl) ?_
 refine Y.pval F (X.w0 rfl) rfl (X.field rfl (F.ev 3 (.pointer (some ⟨w.heap.size, 0, none⟩))) (X.fld Try.underlying24 rfl (Try.siz22 _) rfl rfl)) ?_
 clear F ac
 intro ac F
 refine Y.pval F (X.w0 rfl) rfl (X.load rfl (F.ev 8 (.pointer (some ⟨w.heap.size, 2, none⟩))) (X.ld1 (Try.agg22 _) (hC.at 2 rfl))) ?_
 clear F ac
 intro ac F
 refine Y.pval F (X.w0 rfl) rfl (X.move rfl (F.ev 1 (.int .i64 i))) ?_
 clear F ac
 intro ac F
 obtain ⟨pd4, pe4, -, -, pc4⟩ := hnd.at (j := i) (by omega)
 subst pe4
 replace hC : RCells w3 [(⟨w.heap.size, 0, none⟩, .int .i64 gr), (⟨w.heap.size, 1, none⟩, .int .i64 hold), (⟨w.heap.size, 2, none⟩, .slice (some pd4) n nc), (pd4.add (i * 5), .int .i64 (cv nd i 0)), (⟨(pd4.add (i * 5)).block, (pd4.add (i * 5)).off + 1, none⟩, .int .i64 (cv nd i 1)), (⟨(pd4.add (i * 5)).block, (pd4.add (i * 5)).off + 2, none⟩, .int .i64 (cv nd i 2)), (⟨(pd4.add (i * 5)).block, (pd4.add (i * 5)).off + 3, none⟩, .int .i64 (cv nd i 3)), (⟨(pd4.add (i * 5)).block, (pd4.add (i * 5)).off + 4, none⟩, .int .i64 (cv nd i 4))] := hC.append ((RCells.cons (pc4 0 (by decide)) (RCells.cons (pc4 1 (by decide)) (RCells.cons (pc4 2 (by decide)) (RCells.cons (pc4 3 (by decide)) (RCells.cons (pc4 4 (by decide)) (RCells.nil _)))))))
 clear pc4
 refine Y.pval F (X.w0 rfl) rfl (X.index rfl (F.ev 9 (.slice (some pd4) n nc)) (F.ev 10 (.int .i64 i)) (X.idx (k := i) Try.underlying22 (Try.siz31 _) (by omega) (by omega) rfl)) ?_
 clear F ac
 intro ac F
 refine Y.pval F (X.w0 rfl) rfl (X.load rfl (F.ev 11 (.pointer (some (pd4.add (i * 5))))) (X.ldN (Try.agg31 _) (Try.siz31 _) (Y.atz (pd4.add (i * 5)) (Y.AtFrom.cons (hC.at 3 rfl) (Y.AtFrom.cons (hC.at 4 rfl) (Y.AtFrom.cons (hC.at 5 rfl) (Y.AtFrom.cons (hC.at 6 rfl) (Y.AtFrom.cons (hC.at 7 rfl) (Y.AtFrom.nil _ _ _))))))))) ?_
 clear F ac
 intro ac F
 refine Y.pval F (X.w0 rfl) rfl (Y.al rfl (Try.new31 _)) ?_
 clear F ac
 intro ac F
 refine Y.punit F (X.w0 rfl) rfl (X.store rfl (F.ev 7 (.pointer (some ⟨w3.heap.size, 0, none⟩))) (F.ev 12 (.agg #[.int .i64 (cv nd i 0), .int .i64 (cv nd i 1), .int .i64 (cv nd i 2), .int .i64 (cv nd i 3), .int .i64 (cv nd i 4)])) (Y.stNew [.int .i64 (cv nd i 0), .int .i64 (cv nd i 1), .int .i64 (cv nd i 2), .int .i64 (cv nd i 3), .int .i64 (cv nd i 4)] [.int .i64 0, .int .i64 0, .int .i64 0, .int .i64 0, .int .i64 0] (Try.siz31 _) rfl rfl)) ?_
 clear F ac
 intro ac F
 have g := Gr.alloc w3 (.cells #[.int .i64 (cv nd i 0), .int .i64 (cv nd i 1), .int .i64 (cv nd i 2), .int .i64 (cv nd i 3), .int .i64 (cv nd i 4)] 31)
 have hb := heap_alloc_new w3 (.cells #[.int .i64 (cv nd i 0), .int .i64 (cv nd i 1), .int .i64 (cv nd i 2), .int .i64 (cv nd i 3), .int .i64 (cv nd i 4)] 31)
 have hbl : w3.heap.size < (w3.alloc (.cells #[.int .i64 (cv nd i 0), .int .i64 (cv nd i 1), .int .i64 (cv nd i 2), .int .i64 (cv nd i 3), .int .i64 (cv nd i 4)] 31)).heap.size := by simp
 have hC2 : RCells (w3.alloc (.cells #[.int .i64 (cv nd i 0), .int .i64 (cv nd i 1), .int .i64 (cv nd i 2), .int .i64 (cv nd i 3), .int .i64 (cv nd i 4)] 31)) [(⟨w.heap.size, 0, none⟩, .int .i64 gr), (⟨w.heap.size, 1, none⟩, .int .i64 hold), (⟨w.heap.size, 2, none⟩, .slice (some pd4) n nc), (pd4.add (i * 5), .int .i64 (cv nd i 0)), (⟨(pd4.add (i * 5)).block, (pd4.add (i * 5)).off + 1, none⟩, .int .i64 (cv nd i 1)), (⟨(pd4.add (i * 5)).block, (pd4.add (i * 5)).off + 2, none⟩, .int .i64 (cv nd i 2)), (⟨(pd4.add (i * 5)).block, (pd4.add (i * 5)).off + 3, none⟩, .int .i64 (cv nd i 3)), (⟨(pd4.add (i * 5)).block, (pd4.add (i * 5)).off + 4, none⟩, .int .i64 (cv nd i 4)), (⟨w3.heap.size, 0, none⟩, .int .i64 (cv nd i 0)), (⟨w3.heap.size, 1, none⟩, .int .i64 (cv nd i 1)), (⟨w3.heap.size, 2, none⟩, .int .i64 (cv nd i 2)), (⟨w3.heap.size, 3, none⟩, .int .i64 (cv nd i 3)), (⟨w3.heap.size, 4, none⟩, .int .i64 (cv nd i 4))] := hC.box (b := w3.heap.size) #[.int .i64 (cv nd i 0), .int .i64 (cv nd i 1), .int .i64 (cv nd i 2), .int .i64 (cv nd i 3), .int .i64 (cv nd i 4)] 31 rfl
 generalize w3.alloc (.cells #[.int .i64 (cv nd i 0), .int .i64 (cv nd i 1), .int .i64 (cv nd i 2), .int .i64 (cv nd i 3), .int .i64 (cv nd i 4)] 31) = w5 at *
 replace G := G.trans g
 replace hC := hC2
 clear hC2
 replace hnd := hnd.gr g
 clear g hb hbl
 refine Y.nil ?_
 replace F : Fr ac 29 [(0, .agg #[.int .i64 gr, .int .i64 hold, .slice (some pd4) n nc]), (1, .int .i64 i), (2, .int .i64 T), (3, .pointer (some ⟨w.heap.size, 0, none⟩)), (6, .int .i64 0), (7, .pointer (some ⟨w3.heap.size, 0, none⟩))] := F.sub _
 refine X.thenN ?_
 refine Y.seq ?_
 refine Y.region F [some (.int .i64 T), some (.pointer (some ⟨w3.heap.size, 2, none⟩)), some (.int .i64 (cv nd i 2)), some (.int .i64 ((T : Int) * (cv nd i 2))), some (.agg #[.int .i64 (cv nd i 0), .int .i64 (cv nd i 1), .int .i64 (cv nd i 2), .int .i64 (cv nd i 3), .int .i64 (cv nd i 4)]), some (.pointer (some ⟨w.heap.size, 1, none⟩)), some (.int .i64 hold), some (.int .i64 T), some (.int .i64 (mvV (onP (cv nd i 3).toNat (cv nd i 4).toNat hold.toNat T.toNat) 0 (cv nd i 3))), some (.pointer (some ⟨w3.heap.size, 1, none⟩)), some (.int .i64 (cv nd i 1)), some (.pointer (some ⟨w3.heap.size, 2, none⟩)), some (.int .i64 (cv nd i 2)), some (.int .i64 ((cv nd i 1 : Int) - (cv nd i 2))), some (.int .i64 ((mvV (onP (cv nd i 3).toNat (cv nd i 4).toNat hold.toNat T.toNat) 0 (cv nd i 3) : Int) * ((cv nd i 1 : Int) - (cv nd i 2)))), some (.int .i64 (((T : Int) * (cv nd i 2) : Int) + ((mvV (onP (cv nd i 3).toNat (cv nd i 4).toNat hold.toNat T.toNat) 0 (cv nd i 3) : Int) * ((cv nd i 1 : Int) - (cv nd i 2))))), some (.int .i64 (((T : Int) * (cv nd i 2) : Int) + ((mvV (onP (cv nd i 3).toNat (cv nd i 4).toNat hold.toNat T.toNat) 0 (cv nd i 3) : Int) * ((cv nd i 1 : Int) - (cv nd i 2)))))] [] rfl ⟨by kernel_rfl, of_decide_eq_true (by kernel_rfl), by kernel_rfl, by kernel_rfl, by kernel_rfl⟩ ⟨?_, ?_, ?_, ?_, ?_, ?_, ?_, ?_, ?_, ?_, ?_, ?_, ?_, ?_, ?_, ?_, ?_, trivial⟩ ?_
 ·intro ac done u W Sx hR
  exact X.val (X.w0 rfl) rfl (X.move rfl (Sx.ev 2 (.int .i64 T))) (hR.step (Gr.refl _) rfl)
 ·intro ac done u W Sx hR
  exact X.val (X.w0 rfl) rfl (X.field rfl (Sx.ev 7 (.pointer (some ⟨w3.heap.size, 0, none⟩))) (X.fld Try.underlying31 rfl (Try.siz3 _) rfl rfl)) (hR.step (Gr.refl _) rfl)
 ·intro ac done u W Sx hR
  have g : Gr w5 W := hR.1
  exact X.val (X.w0 rfl) rfl (X.load rfl (Sx.ev 14 (.pointer (some ⟨w3.heap.size, 2, none⟩))) (X.ld1 (Try.agg3 _) ((hC.gr g).at 10 rfl))) (hR.step (Gr.refl _) rfl)
 ·intro ac done u W Sx hR
  exact X.val (X.w0 rfl) rfl (X.binop rfl (Sx.ev 13 (.int .i64 T)) (Sx.ev 15 (.int .i64 (cv nd i 2))) (X.mulI Try.underlying3 rfl (by omega) (by omega))) (hR.step (Gr.refl _) rfl)
 ·intro ac done u W Sx hR
  have g : Gr w5 W := hR.1
  exact X.val (X.w0 rfl) rfl (X.load rfl (Sx.ev 7 (.pointer (some ⟨w3.heap.size, 0, none⟩))) (X.ldN (Try.agg31 _) (Try.siz31 _) (Y.atz (⟨w3.heap.size, 0, none⟩) (Y.AtFrom.cons ((hC.gr g).at 8 rfl) (Y.AtFrom.cons ((hC.gr g).at 9 rfl) (Y.AtFrom.cons ((hC.gr g).at 10 rfl) (Y.AtFrom.cons ((hC.gr g).at 11 rfl) (Y.AtFrom.cons ((hC.gr g).at 12 rfl) (Y.AtFrom.nil _ _ _))))))))) (hR.step (Gr.refl _) rfl)
 ·intro ac done u W Sx hR
  exact X.val (X.w0 rfl) rfl (X.field rfl (Sx.ev 3 (.pointer (some ⟨w.heap.size, 0, none⟩))) (X.fld Try.underlying24 rfl (Try.siz3 _) rfl rfl)) (hR.step (Gr.refl _) rfl)
 ·intro ac done u W Sx hR
  have g : Gr w5 W := hR.1
  exact X.val (X.w0 rfl) rfl (X.load rfl (Sx.ev 18 (.pointer (some ⟨w.heap.size, 1, none⟩))) (X.ld1 (Try.agg3 _) ((hC.gr g).at 1 rfl))) (hR.step (Gr.refl _) rfl)
 ·intro ac done u W Sx hR
  exact X.val (X.w0 rfl) rfl (X.move rfl (Sx.ev 2 (.int .i64 T))) (hR.step (Gr.refl _) rfl)
 ·intro ac done u W Sx hR
  refine X.call (X.w0 rfl) (X.enter (F := 76) rfl (X.kc (.func (.func 76) #[] #[]) rfl) (X.a3 (Sx.ev 17 (.agg #[.int .i64 (cv nd i 0), .int .i64 (cv nd i 1), .int .i64 (cv nd i 2), .int .i64 (cv nd i 3), .int .i64 (cv nd i 4)])) (Sx.ev 19 (.int .i64 hold)) (Sx.ev 20 (.int .i64 T))) (enters_of Try.func76 (by kernel_rfl) rfl _)) (by have hq := most_any (cv nd i 0) (cv nd i 1) (cv nd i 2) (cv nd i 3).toNat (cv nd i 4).toNat hold.toNat T.toNat W (by omega) (by omega) (by omega) (by omega) (by omega) (by omega); rw [e3, e4, eh, eT] at hq; exact hq) ?_
  rintro e W2 ⟨rfl, g2⟩
  exact ⟨_, rfl, X.kn rfl, hR.step g2 rfl⟩
 ·intro ac done u W Sx hR
  exact X.val (X.w0 rfl) rfl (X.field rfl (Sx.ev 7 (.pointer (some ⟨w3.heap.size, 0, none⟩))) (X.fld Try.underlying31 rfl (Try.siz3 _) rfl rfl)) (hR.step (Gr.refl _) rfl)
 ·intro ac done u W Sx hR
  have g : Gr w5 W := hR.1
  exact X.val (X.w0 rfl) rfl (X.load rfl (Sx.ev 22 (.pointer (some ⟨w3.heap.size, 1, none⟩))) (X.ld1 (Try.agg3 _) ((hC.gr g).at 9 rfl))) (hR.step (Gr.refl _) rfl)
 ·intro ac done u W Sx hR
  exact X.val (X.w0 rfl) rfl (X.field rfl (Sx.ev 7 (.pointer (some ⟨w3.heap.size, 0, none⟩))) (X.fld Try.underlying31 rfl (Try.siz3 _) rfl rfl)) (hR.step (Gr.refl _) rfl)
 ·intro ac done u W Sx hR
  have g : Gr w5 W := hR.1
  exact X.val (X.w0 rfl) rfl (X.load rfl (Sx.ev 24 (.pointer (some ⟨w3.heap.size, 2, none⟩))) (X.ld1 (Try.agg3 _) ((hC.gr g).at 10 rfl))) (hR.step (Gr.refl _) rfl)
 ·intro ac done u W Sx hR
  exact X.val (X.w0 rfl) rfl (X.binop rfl (Sx.ev 23 (.int .i64 (cv nd i 1))) (Sx.ev 25 (.int .i64 (cv nd i 2))) (X.subI Try.underlying3 rfl (by omega) (by omega))) (hR.step (Gr.refl _) rfl)
 ·intro ac done u W Sx hR
  exact X.val (X.w0 rfl) rfl (X.binop rfl (Sx.ev 21 (.int .i64 (mvV (onP (cv nd i 3).toNat (cv nd i 4).toNat hold.toNat T.toNat) 0 (cv nd i 3)))) (Sx.ev 26 (.int .i64 ((cv nd i 1 : Int) - (cv nd i 2)))) (X.mulI Try.underlying3 rfl (by omega) (by omega))) (hR.step (Gr.refl _) rfl)
 ·intro ac done u W Sx hR
  exact X.val (X.w0 rfl) rfl (X.binop rfl (Sx.ev 16 (.int .i64 ((T : Int) * (cv nd i 2)))) (Sx.ev 27 (.int .i64 ((mvV (onP (cv nd i 3).toNat (cv nd i 4).toNat hold.toNat T.toNat) 0 (cv nd i 3) : Int) * ((cv nd i 1 : Int) - (cv nd i 2))))) (X.addI Try.underlying3 rfl (by omega) (by omega))) (hR.step (Gr.refl _) rfl)
 ·intro ac done u W Sx hR
  exact X.val (X.w0 rfl) rfl (X.assign rfl (Sx.ev 28 (.int .i64 (((T : Int) * (cv nd i 2) : Int) + ((mvV (onP (cv nd i 3).toNat (cv nd i 4).toNat hold.toNat T.toNat) 0 (cv nd i 3) : Int) * ((cv nd i 1 : Int) - (cv nd i 2))))))) (hR.step (Gr.refl _) rfl)
 intro ac u w6 hs hd hl ho hR
 have g : Gr w5 w6 := hR.1
 replace F : Fr ac 29 [(0, .agg #[.int .i64 gr, .int .i64 hold, .slice (some pd4) n nc]), (1, .int .i64 i), (2, .int .i64 T), (3, .pointer (some ⟨w.heap.size, 0, none⟩)), (6, .int .i64 (((T : Int) * (cv nd i 2) : Int) + ((mvV (onP (cv nd i 3).toNat (cv nd i 4).toNat hold.toNat T.toNat) 0 (cv nd i 3) : Int) * ((cv nd i 1 : Int) - (cv nd i 2))))), (7, .pointer (some ⟨w3.heap.size, 0, none⟩))] := X.fr hs hd hl _ (by kernel_rfl)
 clear hs hd hl ho hR
 replace G := G.trans g
 replace hC := hC.gr g
 replace hnd := hnd.gr g
 clear g
 refine X.thenN ?_
 refine Y.ret ?_
 exact Y.ret0 (v := .int .i64 (((T : Int) * (cv nd i 2) : Int) + ((mvV (onP (cv nd i 3).toNat (cv nd i 4).toNat hold.toNat T.toNat) 0 (cv nd i 3) : Int) * ((cv nd i 1 : Int) - (cv nd i 2))))) F (Y.rs1 F rfl (by kernel_rfl)) ⟨by rw [enrV], G⟩
end
section
open Go.RowKit

set_option maxRecDepth 100000 in
set_option maxHeartbeats 1000000 in
theorem parked2_any (na : Option Addr) (n nc : Nat) (gr hold T : Int) (nd : List (List Int)) (w : World) (hnd : StAt w 5 na n nd) (hc : CluOk gr hold nd) (hT : 0 ≤ T ∧ T ≤ 1000) :
  Calls Try.prog 53 #[.agg #[.int .i64 gr, .int .i64 hold, .slice na n nc], .int .i64 T] w fun e w' => e = .returned (.int .i64 (sumP nd hold T)) ∧ Gr w w' := by
 have G := Gr.refl w
 have hnd0 := hnd
 have hlen := hnd.len
 have h16 := hc.n16
 refine Y.calls 21 Try.func53 rfl rfl ?_
 intro ac F0
 have F : Fr ac 21 [(0, .agg #[.int .i64 gr, .int .i64 hold, .slice na n nc]), (1, .int .i64 T)] := F0.sub _
 clear F0
 refine Y.seq ?_
 refine Y.lit (by kernel_rfl) ?_
 refine Y.pval F (X.w0 rfl) rfl (X.box rfl (F.ev 0 (.agg #[.int .i64 gr, .int .i64 hold, .slice na n nc])) X.bx) ?_
 clear F ac
 intro ac F
 have g := Gr.alloc w (.cells #[.int .i64 gr, .int .i64 hold, .slice na n nc] 24)
 have hb := heap_alloc_new w (.cells #[.int .i64 gr, .int .i64 hold, .slice na n nc] 24)
 have hbl : w.heap.size < (w.alloc (.cells #[.int .i64 gr, .int .i64 hold, .slice na n nc] 24)).heap.size := by simp
 have hC2 : RCells (w.alloc (.cells #[.int .i64 gr, .int .i64 hold, .slice na n nc] 24)) [(⟨w.heap.size, 0, none⟩, .int .i64 gr), (⟨w.heap.size, 1, none⟩, .int .i64 hold), (⟨w.heap.size, 2, none⟩, .slice na n nc)] := (RCells.nil w).box (b := w.heap.size) #[.int .i64 gr, .int .i64 hold, .slice na n nc] 24 rfl
 generalize w.alloc (.cells #[.int .i64 gr, .int .i64 hold, .slice na n nc] 24) = w3 at *
 replace G := G.trans g
 have hC := hC2
 clear hC2
 replace hnd := hnd.gr g
 clear g hb hbl
 refine Y.pval F (X.w0 rfl) rfl (X.assign rfl (X.kc (.int .i64 0) rfl)) ?_
 clear F ac
 intro ac F
 refine Y.nil ?_
 replace F : Fr ac 21 [(0, .agg #[.int .i64 gr, .int .i64 hold, .slice na n nc]), (1, .int .i64 T), (2, .pointer (some ⟨w.heap.size, 0, none⟩)), (4, .int .i64 0)] := F.sub _
 refine X.thenN ?_
 refine Y.seq ?_
 refine Y.lit (by kernel_rfl) ?_
 refine Y.pval F (X.w0 rfl) rfl (X.assign rfl (X.kc (.int .i64 0) rfl)) ?_
 clear F ac
 intro ac F
 refine Y.nil ?_
 replace F : Fr ac 21 [(0, .agg #[.int .i64 gr, .int .i64 hold, .slice na n nc]), (1, .int .i64 T), (2, .pointer (some ⟨w.heap.size, 0, none⟩)), (4, .int .i64 0), (5, .int .i64 0)] := F.sub _
 refine X.thenN ?_
 refine Y.seq ?_
 refine Y.seq ?_
 refine Y.lit (by kernel_rfl) ?_
 refine Y.pval F (X.w0 rfl) rfl (X.assign rfl (X.kc (.int .i64 0) rfl)) ?_
 clear F ac
 intro ac F
 refine Y.nil ?_
 replace F : Fr ac 21 [(0, .agg #[.int .i64 gr, .int .i64 hold, .slice na n nc]), (1, .int .i64 T), (2, .pointer (some ⟨w.heap.size, 0, none⟩)), (4, .int .i64 0), (5, .int .i64 0), (6, .int .i64 0)] := F.sub _
 refine X.thenN ?_
 refine Y.block ?_
 have hndB := hnd
 have hCB := hC
 have GB := G
 refine Y.loop (fun me_ ac wr => ∃ (i : Nat), me_ = n - i ∧ Gr w3 wr ∧ i ≤ n ∧ Fr ac 21 [(0, .agg #[.int .i64 gr, .int .i64 hold, .slice na n nc]), (1, .int .i64 T), (2, .pointer (some ⟨w.heap.size, 0, none⟩)), (4, .int .i64 0), (5, .int .i64 (sumN nd hold T i)), (6, .int .i64 i)]) _ ⟨0, rfl, Gr.refl _, Nat.zero_le _, F.sub _⟩ ?_
 clear F
 intro me_ ac w4 hI
 obtain ⟨i, rfl, gr, hi, F⟩ := hI
 replace G := GB.trans gr
 replace hC := hCB.gr gr
 replace hnd := hndB.gr gr
 have GB_ := gr
 clear gr
 refine Y.seq ?_
 refine Y.seq ?_
 refine Y.lit (by kernel_rfl) ?_
 refine Y.pval F (X.w0 rfl) rfl (X.move rfl (F.ev 6 (.int .i64 i))) ?_
 clear F ac
 intro ac F
 refine Y.pval F (X.w0 rfl) rfl (X.field rfl (F.ev 2 (.pointer (some ⟨w.heap.size, 0, none⟩))) (X.fld Try.underlying24 rfl (Try.siz22 _) rfl rfl)) ?_
 clear F ac
 intro ac F
 refine Y.pval F (X.w0 rfl) rfl (X.load rfl (F.ev 8 (.pointer (some ⟨w.heap.size, 2, none⟩))) (X.ld1 (Try.agg22 _) (hC.at 2 rfl))) ?_
 clear F ac
 intro ac F
 refine Y.pval F (X.w0 rfl) rfl (X.len1 Try.underlying22 rfl (F.ev 9 (.slice na n nc))) ?_
 clear F ac
 intro ac F
 refine Y.pval F (X.w0 rfl) rfl (X.binop rfl (F.ev 7 (.int .i64 i)) (F.ev 10 (.int .i64 n)) (X.lssI Try.underlying3 rfl)) ?_
 clear F ac
 intro ac F
 refine Y.nil ?_
 replace F : Fr ac 21 [(0, .agg #[.int .i64 gr, .int .i64 hold, .slice na n nc]), (1, .int .i64 T), (2, .pointer (some ⟨w.heap.size, 0, none⟩)), (4, .int .i64 0), (5, .int .i64 (sumN nd hold T i)), (6, .int .i64 i), (11, .bool (decide ((i : Int) < n)))] := F.sub _
 refine X.thenN ?_
 cases h5 : decide ((i : Int) < n) with
 | false =>
  try rw [h5] at F
  have h5p : ¬ ((i : Int) < n) := of_decide_eq_false h5
  obtain rfl : n = i := by omega
  refine Y.condF (F.ev 11 (.bool false)) ?_
  refine Y.exit ?_
  refine X.thenX ?_
  refine X.thenX ?_
  refine X.blockX ?_
  refine X.thenN ?_
  refine Y.seq ?_
  refine Y.lit (by kernel_rfl) ?_
  refine Y.pval F (X.w0 rfl) rfl (X.move rfl (F.ev 5 (.int .i64 (sumN nd hold T n)))) ?_
  clear F ac
  intro ac F
  refine Y.pval F (X.w0 rfl) rfl (X.assign rfl (F.ev 20 (.int .i64 (sumN nd hold T n)))) ?_
  clear F ac
  intro ac F
  refine Y.nil ?_
  replace F : Fr ac 21 [(0, .agg #[.int .i64 gr, .int .i64 hold, .slice na n nc]), (1, .int .i64 T), (2, .pointer (some ⟨w.heap.size, 0, none⟩)), (4, .int .i64 (sumN nd hold T n)), (5, .int .i64 (sumN nd hold T n)), (6, .int .i64 n), (11, .bool false)] := F.sub _
  refine X.thenN ?_
  refine Y.ret ?_
  exact Y.ret0 (v := .int .i64 (sumN nd hold T n)) F (Y.rs1 F rfl (by kernel_rfl)) ⟨by rw [sumP, hlen], G⟩
 | true =>
  try rw [h5] at F
  have h5p : ((i : Int) < n) := of_decide_eq_true h5
  have hi2 : i < n := by omega
  have hsb := sumN_bd hc hT.1 (by omega) i (by omega)
  have hb3 := hc.bud i (by omega)
  have hno := bestV_bd (ndOk_of hc (i := i) (T := T) (by omega) hT.1 (by omega)) (t := 0) (x := cv nd i 3) (by omega) hb3.1 (Int.le_refl _)
  refine Y.condT (F.ev 11 (.bool true)) ?_
  refine Y.skip ?_
  refine X.thenN ?_
  refine Y.seq ?_
  refine Y.block ?_
  refine Y.lit (by kernel_rfl) ?_
  refine Y.pval F (X.w0 rfl) rfl (X.move rfl (F.ev 5 (.int .i64 (sumN nd hold T i)))) ?_
  clear F ac
  intro ac F
  refine Y.pval F (X.w0 rfl) rfl (X.load rfl (F.ev 2 (.pointer (some ⟨w.heap.size, 0, none⟩))) (X.ldN (Try.agg24 _) (Try.siz24 _) (Y.atz (⟨w.heap.size, 0, none⟩) (Y.AtFrom.cons (hC.at 0 rfl) (Y.AtFrom.cons (hC.at 1 rfl) (Y.AtFrom.cons (hC.at 2 rfl) (Y.AtFrom.nil _ _ _))))))) ?_
  clear F ac
  intro ac F
  refine Y.pval F (X.w0 rfl) rfl (X.move rfl (F.ev 6 (.int .i64 i))) ?_
  clear F ac
  intro ac F
  refine Y.pval F (X.w0 rfl) rfl (X.move rfl (F.ev 1 (.int .i64 T))) ?_
  clear F ac
  intro ac F
  refine Y.pcall F (X.w0 rfl) rfl (X.enter (F := 60) rfl (X.kc (.func (.func 60) #[] #[]) rfl) (X.a3 (F.ev 15 (.agg #[.int .i64 gr, .int .i64 hold, .slice na n nc])) (F.ev 16 (.int .i64 i)) (F.ev 17 (.int .i64 T))) (enters_of Try.func60 (by kernel_rfl) rfl _)) (by have hq := energy_any na n nc gr hold T i nd w4 hnd hc (by omega) hT; rw [← best_enr hc (by omega) hT.1 hT.2] at hq; exact hq) ?_
  clear F ac
  rintro e w6 ⟨rfl, g⟩
  refine ⟨_, rfl, ?_⟩
  intro ac F
  replace G := G.trans g
  replace hC := hC.gr g
  replace GB_ := GB_.trans g
  replace hnd := hnd.gr g
  clear g
  refine Y.pval F (X.w0 rfl) rfl (X.binop rfl (F.ev 14 (.int .i64 (sumN nd hold T i))) (F.ev 18 (.int .i64 ((bestV (ndV nd hold i T) 0 (cv nd i 3)).1))) (X.addI Try.underlying3 rfl (by omega) (by omega))) ?_
  clear F ac
  intro ac F
  refine Y.pval F (X.w0 rfl) rfl (X.assign rfl (F.ev 19 (.int .i64 ((sumN nd hold T i : Int) + ((bestV (ndV nd hold i T) 0 (cv nd i 3)).1))))) ?_
  clear F ac
  intro ac F
  refine Y.nil ?_
  replace F : Fr ac 21 [(0, .agg #[.int .i64 gr, .int .i64 hold, .slice na n nc]), (1, .int .i64 T), (2, .pointer (some ⟨w.heap.size, 0, none⟩)), (4, .int .i64 0), (5, .int .i64 ((sumN nd hold T i : Int) + ((bestV (ndV nd hold i T) 0 (cv nd i 3)).1))), (6, .int .i64 i), (11, .bool true)] := F.sub _
  refine X.blockN ?_
  refine X.thenN ?_
  refine Y.lit (by kernel_rfl) ?_
  refine Y.pval F (X.w0 rfl) rfl (X.move rfl (F.ev 6 (.int .i64 i))) ?_
  clear F ac
  intro ac F
  refine Y.pval F (X.w0 rfl) rfl (X.binop rfl (F.ev 12 (.int .i64 i)) (X.kc (.int .i64 1) rfl) (X.addI Try.underlying3 rfl (by omega) (by omega))) ?_
  clear F ac
  intro ac F
  refine Y.pval F (X.w0 rfl) rfl (X.assign rfl (F.ev 13 (.int .i64 ((i : Int) + 1)))) ?_
  clear F ac
  intro ac F
  refine Y.nil ?_
  replace F : Fr ac 21 [(0, .agg #[.int .i64 gr, .int .i64 hold, .slice na n nc]), (1, .int .i64 T), (2, .pointer (some ⟨w.heap.size, 0, none⟩)), (4, .int .i64 0), (5, .int .i64 ((sumN nd hold T i : Int) + ((bestV (ndV nd hold i T) 0 (cv nd i 3)).1))), (6, .int .i64 ((i : Int) + 1)), (11, .bool true)] := F.sub _
  refine X.thenN ?_
  refine ⟨_, ?_, i + 1, rfl, GB_, by omega, F.sub _⟩
  omega
set_option maxRecDepth 100000 in
set_option maxHeartbeats 400000 in
theorem Parked2_any (na : Option Addr) (n nc : Nat) (gr hold T : Int) (nd : List (List Int)) (w : World) (hnd : StAt w 5 na n nd) :
  Calls Try.prog 22 #[.agg #[.int .i64 gr, .int .i64 hold, .slice na n nc], .int .i64 T] w fun e w' => e = .returned (.tuple #[.int .i64 (parkV gr hold nd T), .int .i64 (ticksE gr hold nd T)]) ∧ Gr w w' := by
 have G := Gr.refl w
 have hnd0 := hnd
 have hlen := hnd.len
 refine Y.calls 16 Try.func22 rfl rfl ?_
 intro ac F0
 have F : Fr ac 16 [(0, .agg #[.int .i64 gr, .int .i64 hold, .slice na n nc]), (1, .int .i64 T)] := F0.sub _
 clear F0
 refine Y.seq ?_
 refine Y.lit (by kernel_rfl) ?_
 refine Y.pval F (X.w0 rfl) rfl (X.box rfl (F.ev 0 (.agg #[.int .i64 gr, .int .i64 hold, .slice na n nc])) X.bx) ?_
 clear F ac
 intro ac F
 have g := Gr.alloc w (.cells #[.int .i64 gr, .int .i64 hold, .slice na n nc] 24)
 have hb := heap_alloc_new w (.cells #[.int .i64 gr, .int .i64 hold, .slice na n nc] 24)
 have hbl : w.heap.size < (w.alloc (.cells #[.int .i64 gr, .int .i64 hold, .slice na n nc] 24)).heap.size := by simp
 have hC2 : RCells (w.alloc (.cells #[.int .i64 gr, .int .i64 hold, .slice na n nc] 24)) [(⟨w.heap.size, 0, none⟩, .int .i64 gr), (⟨w.heap.size, 1, none⟩, .int .i64 hold), (⟨w.heap.size, 2, none⟩, .slice na n nc)] := (RCells.nil w).box (b := w.heap.size) #[.int .i64 gr, .int .i64 hold, .slice na n nc] 24 rfl
 generalize w.alloc (.cells #[.int .i64 gr, .int .i64 hold, .slice na n nc] 24) = w3 at *
 replace G := G.trans g
 have hC := hC2
 clear hC2
 replace hnd := hnd.gr g
 clear g hb hbl
 refine Y.pval F (X.w0 rfl) rfl (X.assign rfl (X.kc (.int .i64 0) rfl)) ?_
 clear F ac
 intro ac F
 refine Y.pval F (X.w0 rfl) rfl (X.assign rfl (X.kc (.int .i64 0) rfl)) ?_
 clear F ac
 intro ac F
 refine Y.nil ?_
 replace F : Fr ac 16 [(0, .agg #[.int .i64 gr, .int .i64 hold, .slice na n nc]), (1, .int .i64 T), (2, .pointer (some ⟨w.heap.size, 0, none⟩)), (4, .int .i64 0), (5, .int .i64 0)] := F.sub _
 refine X.thenN ?_
 refine Y.seq ?_
 refine Y.seq ?_
 refine Y.lit (by kernel_rfl) ?_
 refine Y.pval F (X.w0 rfl) rfl (X.load rfl (F.ev 2 (.pointer (some ⟨w.heap.size, 0, none⟩))) (X.ldN (Try.agg24 _) (Try.siz24 _) (Y.atz (⟨w.heap.size, 0, none⟩) (Y.AtFrom.cons (hC.at 0 rfl) (Y.AtFrom.cons (hC.at 1 rfl) (Y.AtFrom.cons (hC.at 2 rfl) (Y.AtFrom.nil _ _ _))))))) ?_
 clear F ac
 intro ac F
 refine Y.pval F (X.w0 rfl) rfl (X.move rfl (F.ev 1 (.int .i64 T))) ?_
 clear F ac
 intro ac F
 refine Y.pcall F (X.w0 rfl) rfl (X.enter (F := 52) rfl (X.kc (.func (.func 52) #[] #[]) rfl) (X.a2 (F.ev 7 (.agg #[.int .i64 gr, .int .i64 hold, .slice na n nc])) (F.ev 8 (.int .i64 T))) (enters_of Try.func52 (by kernel_rfl) rfl _)) (ticks2_any na n nc gr hold T nd w3 hnd) ?_
 clear F ac
 rintro e w4 ⟨rfl, g⟩
 refine ⟨_, rfl, ?_⟩
 intro ac F
 replace G := G.trans g
 replace hC := hC.gr g
 replace hnd := hnd.gr g
 clear g
 refine Y.pval F (X.w0 rfl) rfl (X.assign rfl (F.ev 9 (.int .i64 (ticksE gr hold nd T)))) ?_
 clear F ac
 intro ac F
 refine Y.nil ?_
 replace F : Fr ac 16 [(0, .agg #[.int .i64 gr, .int .i64 hold, .slice na n nc]), (1, .int .i64 T), (2, .pointer (some ⟨w.heap.size, 0, none⟩)), (4, .int .i64 0), (5, .int .i64 0), (6, .int .i64 (ticksE gr hold nd T))] := F.sub _
 refine X.thenN ?_
 refine Y.seq ?_
 refine Y.lit (by kernel_rfl) ?_
 refine Y.pval F (X.w0 rfl) rfl (X.move rfl (F.ev 6 (.int .i64 (ticksE gr hold nd T)))) ?_
 clear F ac
 intro ac F
 refine Y.pval F (X.w0 rfl) rfl (X.binop rfl (F.ev 10 (.int .i64 (ticksE gr hold nd T))) (X.kc (.int .i64 0) rfl) (X.neqI Try.underlying26 rfl)) ?_
 clear F ac
 intro ac F
 refine Y.nil ?_
 replace F : Fr ac 16 [(0, .agg #[.int .i64 gr, .int .i64 hold, .slice na n nc]), (1, .int .i64 T), (2, .pointer (some ⟨w.heap.size, 0, none⟩)), (4, .int .i64 0), (5, .int .i64 0), (6, .int .i64 (ticksE gr hold nd T)), (11, .bool ((ticksE gr hold nd T : Int) != 0))] := F.sub _
 refine X.thenN ?_
 cases h5 : ((ticksE gr hold nd T : Int) != 0) with
 | false =>
  try rw [h5] at F
  have h5p : (ticksE gr hold nd T : Int) = 0 := by simpa using h5
  have hE : ticksE gr hold nd T = 0 := by simpa using h5p
  have hc := (ticksE_ok hE).1
  have htt := (ticksE_ok hE).2
  refine Y.condF (F.ev 11 (.bool false)) ?_
  refine Y.skip ?_
  refine X.thenN ?_
  refine Y.seq ?_
  refine Y.lit (by kernel_rfl) ?_
  refine Y.pval F (X.w0 rfl) rfl (X.load rfl (F.ev 2 (.pointer (some ⟨w.heap.size, 0, none⟩))) (X.ldN (Try.agg24 _) (Try.siz24 _) (Y.atz (⟨w.heap.size, 0, none⟩) (Y.AtFrom.cons (hC.at 0 rfl) (Y.AtFrom.cons (hC.at 1 rfl) (Y.AtFrom.cons (hC.at 2 rfl) (Y.AtFrom.nil _ _ _))))))) ?_
  clear F ac
  intro ac F
  refine Y.pval F (X.w0 rfl) rfl (X.move rfl (F.ev 1 (.int .i64 T))) ?_
  clear F ac
  intro ac F
  refine Y.pcall F (X.w0 rfl) rfl (X.enter (F := 53) rfl (X.kc (.func (.func 53) #[] #[]) rfl) (X.a2 (F.ev 13 (.agg #[.int .i64 gr, .int .i64 hold, .slice na n nc])) (F.ev 14 (.int .i64 T))) (enters_of Try.func53 (by kernel_rfl) rfl _)) (parked2_any na n nc gr hold T nd w4 hnd hc ⟨by omega, by omega⟩) ?_
  clear F ac
  rintro e w6 ⟨rfl, g⟩
  refine ⟨_, rfl, ?_⟩
  intro ac F
  replace G := G.trans g
  replace hC := hC.gr g
  replace hnd := hnd.gr g
  clear g
  refine Y.pval F (X.w0 rfl) rfl (X.assign rfl (F.ev 15 (.int .i64 (sumP nd hold T)))) ?_
  clear F ac
  intro ac F
  refine Y.pval F (X.w0 rfl) rfl (X.assign rfl (X.kc (.int .i64 0) rfl)) ?_
  clear F ac
  intro ac F
  refine Y.nil ?_
  replace F : Fr ac 16 [(0, .agg #[.int .i64 gr, .int .i64 hold, .slice na n nc]), (1, .int .i64 T), (2, .pointer (some ⟨w.heap.size, 0, none⟩)), (4, .int .i64 (sumP nd hold T)), (5, .int .i64 0), (6, .int .i64 (ticksE gr hold nd T)), (11, .bool false)] := F.sub _
  refine X.thenN ?_
  refine Y.ret ?_
  exact Y.ret0 (v := .tuple #[.int .i64 (sumP nd hold T), .int .i64 0]) F (Y.rs2 F rfl (by kernel_rfl) (by kernel_rfl)) ⟨by rw [parkV, if_pos hE, hE], G⟩
 | true =>
  try rw [h5] at F
  have h5p : ¬ (ticksE gr hold nd T : Int) = 0 := by simpa using h5
  have hE : ¬ ticksE gr hold nd T = 0 := by simpa using h5p
  refine Y.condT (F.ev 11 (.bool true)) ?_
  refine Y.seq ?_
  refine Y.lit (by kernel_rfl) ?_
  refine Y.pval F (X.w0 rfl) rfl (X.move rfl (F.ev 6 (.int .i64 (ticksE gr hold nd T)))) ?_
  clear F ac
  intro ac F
  refine Y.pval F (X.w0 rfl) rfl (X.assign rfl (X.kc (.int .i64 0) rfl)) ?_
  clear F ac
  intro ac F
  refine Y.pval F (X.w0 rfl) rfl (X.assign rfl (F.ev 12 (.int .i64 (ticksE gr hold nd T)))) ?_
  clear F ac
  intro ac F
  refine Y.nil ?_
  replace F : Fr ac 16 [(0, .agg #[.int .i64 gr, .int .i64 hold, .slice na n nc]), (1, .int .i64 T), (2, .pointer (some ⟨w.heap.size, 0, none⟩)), (4, .int .i64 0), (5, .int .i64 (ticksE gr hold nd T)), (6, .int .i64 (ticksE gr hold nd T)), (11, .bool true)] := F.sub _
  refine X.thenN ?_
  refine Y.ret ?_
  refine X.thenR ?_
  exact Y.ret0 (v := .tuple #[.int .i64 0, .int .i64 (ticksE gr hold nd T)]) F (Y.rs2 F rfl (by kernel_rfl) (by kernel_rfl)) ⟨by rw [parkV, if_neg hE], G⟩
end
section
set_option linter.unusedVariables false
open Go.RowKit
theorem enF_succ (p : Nd) (m : Nat) (t x : Int) (r : Nat) : enF p (m + 1) t x r = if r = 0 then (if refV p t x = 0 then p.za + enF p m (t + 1) (refV p t x) 0 else max (p.za + enF p m (t + 1) (refV p t x) 0) (p.aw + enF p m (t + 1) (refV p t x - 1) p.hold.toNat))
    else if r = 1 then p.za + enF p m (t + 1) (refV p t x) 0 else p.aw + enF p m (t + 1) (refV p t x) (r - 1) := by rw [enF]
/-- one more tick -/
theorem enF_more {p : Nd} (h : p.za ≤ p.aw) : ∀ (m : Nat) (t x : Int) (r : Nat), p.za ≤ enF p (m + 1) t x r - enF p m t x r ∧ enF p (m + 1) t x r - enF p m t x r ≤ p.aw
  | 0, t, x, r => by
    simp only [enF]
    simp only [Int.max_def]
    split
    · split
      · omega
      · split <;> omega
    · split <;> omega
  | m + 1, t, x, r => by
    have i1 := enF_more h m (t + 1) (refV p t x) 0
    have i2 := enF_more h m (t + 1) (refV p t x - 1) p.hold.toNat
    have i3 := enF_more h m (t + 1) (refV p t x) (r - 1)
    rw [enF_succ p (m + 1) t x r, enF_succ p m t x r]
    simp only [Int.max_def]
    split
    · split
      · omega
      · split <;> split <;> omega
    · split <;> omega
end
section
set_option linter.unusedVariables false
open Go.RowKit
/-- what a node takes at the most, tick by tick -/
theorem worst_enF {gr hold T : Int} {nd : List (List Int)} {i : Nat} (hc : cluE gr hold nd = 0) (hi : i < nd.length) (h0 : 0 ≤ T) (h1 : T ≤ 1000) : nodeE gr hold nd i T = 0 ∧ worstV gr hold nd i T = enF (ndV nd hold i T) T.toNat 0 (cv nd i 3) 0 := by
  have hk := cluE_ok hc
  have hT : ticksE gr hold nd T = 0 := by
    unfold ticksE
    rw [if_neg (fun e => e hc), withinB_of h0 h1]; rfl
  have hN := nodeE_of (i := (i : Int)) hT (by omega) (by omega)
  have hb := hk.bud i hi
  refine ⟨hN, ?_⟩
  unfold worstV
  rw [if_pos hN, Int.toNat_natCast, best_enF (ndOk_of hk hi h0 (by omega)) T.toNat 0 (cv nd i 3) (by omega) (by show T - 0 = _; omega) hb.1 (Int.le_refl _)]
theorem enF_congr {p q : Nd} (ha : p.aw = q.aw) (hz : p.za = q.za) (hb : p.bu = q.bu) (hr : p.re = q.re) (hh : p.hold = q.hold) : ∀ (m : Nat) (t x : Int) (r : Nat), enF p m t x r = enF q m t x r
  | 0, _, _, _ => rfl
  | m + 1, t, x, r => by
    have er : refV p t x = refV q t x := by unfold refV; rw [hb, hr]
    rw [enF_succ, enF_succ, er, ha, hz, hh, enF_congr ha hz hb hr hh m, enF_congr ha hz hb hr hh m, enF_congr ha hz hb hr hh m]
theorem worst_more {gr hold T : Int} {nd : List (List Int)} {i : Nat} (hc : cluE gr hold nd = 0) (hi : i < nd.length) (h0 : 0 ≤ T) (h1 : T ≤ 999) : cv nd i 2 ≤ worstV gr hold nd i (T + 1) - worstV gr hold nd i T ∧ worstV gr hold nd i (T + 1) - worstV gr hold nd i T ≤ cv nd i 1 := by
  have hk := cluE_ok hc
  rw [(worst_enF hc hi h0 (by omega)).2, (worst_enF hc hi (show 0 ≤ T + 1 by omega) (by omega)).2, show (T + 1).toNat = T.toNat + 1 by omega]
  rw [enF_congr (p := ndV nd hold i (T + 1)) (q := ndV nd hold i T) rfl rfl rfl rfl rfl]
  exact enF_more (p := ndV nd hold i T) (hk.asl i hi).2 T.toNat 0 (cv nd i 3) 0
end
end Go.Proofs.Ytoalamakhjbedaa
