/- Contract: the reference's best. -/
import Derived.Test.YtoalamakhjbedaaBd13
namespace Go.Proofs.Ytoalamakhjbedaa
open Go.RowKit

theorem VL_set1 (x y z : Value) : ∀ k, k < 2 → (fun j => if j = 1 then z else VL [x, y] j) k = VL [x, z] k := by
  intro k hk
  match k, hk with
  | 0, _ | 1, _ => rfl
theorem Try.bd86 (a : Int) (sa : Option Addr) (n c : Nat) (W : World) : (Instr.build 86 #[(0, .int .i64 a), (1, .slice sa n c)]).run Try.prog W = .ok (.agg #[.int .i64 a, .slice sa n c]) W := by kernel_rfl
theorem OwnR.intsL {w : World} {B e n g c : Nat} {zs : List Int} (h : OwnR w B e 1 (.slice (some ⟨g, 0, none⟩) n c) n (zs.map (Value.int .i64))) (hn : zs.length = n) (hl : n < 1152921504606846976) : Ints w (some ⟨g, 0, none⟩) n zs := by
  subst hn
  obtain ⟨a, c', e, hI⟩ := h.ints hl
  injection e with e
  subst e
  exact hI

set_option maxRecDepth 100000 in
set_option maxHeartbeats 2000000 in
theorem best2_any (gq aw za : Int) (pn qn sn tn : Nat) (w : World) (hpn : pn ≤ 20) (hqn : 1 ≤ qn) (hqn2 : qn ≤ 1000) (hsn : 1 ≤ sn) (hsn2 : sn ≤ 100) (htn : tn ≤ 1000) :
  Calls Try.prog 78 #[.agg #[Vi gq, Vi aw, Vi za, Vi pn, Vi qn], Vi sn, Vi tn] w fun e w' => ∃ tb, e = .returned (.slice (some ⟨tb, 0, none⟩) (tn + 1) (tn + 1)) ∧ TbW w' tb tn (pn + 1) (onP pn qn sn tn) 0 w'.heap.size w.heap.size ∧ Gr w w' := by
 have G := Gr.refl w
 have hpk := onP_ok hpn hqn hqn2 hsn hsn2 htn
 refine Y.calls 115 Try.func78 rfl rfl ?_
 intro ac F0
 have F : Fr ac 115 [(0, .agg #[Vi gq, Vi aw, Vi za, Vi pn, Vi qn]), (1, Vi sn), (2, Vi tn)] := F0.sub _
 clear F0
 refine Y.seq ?_
 refine Y.lit (by kernel_rfl) ?_
 refine Y.pval F (X.w0 rfl) rfl (X.box rfl (F.ev 0 (.agg #[Vi gq, Vi aw, Vi za, Vi pn, Vi qn])) X.bx) ?_
 clear F ac
 intro ac F
 have g := Gr.alloc w (.cells #[Vi gq, Vi aw, Vi za, Vi pn, Vi qn] 31)
 have hb := heap_alloc_new w (.cells #[Vi gq, Vi aw, Vi za, Vi pn, Vi qn] 31)
 have hbl : w.heap.size < (w.alloc (.cells #[Vi gq, Vi aw, Vi za, Vi pn, Vi qn] 31)).heap.size := by simp
 have hC2 : RCells (w.alloc (.cells #[Vi gq, Vi aw, Vi za, Vi pn, Vi qn] 31)) [(Ad w.heap.size 0, Vi gq), (Ad w.heap.size 1, Vi aw), (Ad w.heap.size 2, Vi za), (Ad w.heap.size 3, Vi pn), (Ad w.heap.size 4, Vi qn)] := (RCells.nil w).box (b := w.heap.size) #[Vi gq, Vi aw, Vi za, Vi pn, Vi qn] 31 rfl
 generalize w.alloc (.cells #[Vi gq, Vi aw, Vi za, Vi pn, Vi qn] 31) = w3 at *
 replace G := G.trans g
 have hC := hC2
 clear hC2
 clear g hb hbl
 have hsb : w.heap.size < w3.heap.size := lt_cell (hC.at 0 rfl)
 refine Y.pval F (X.w0 rfl) rfl (X.assign rfl (X.kc (.slice none 0 0) rfl)) ?_
 clear F ac
 intro ac F
 refine Y.nil ?_
 replace F : Fr ac 115 [(0, .agg #[Vi gq, Vi aw, Vi za, Vi pn, Vi qn]), (1, Vi sn), (2, Vi tn), (3, Vp w.heap.size), (6, .slice none 0 0)] := F.sub _
 refine X.thenN ?_
 refine Y.seq ?_
 refine Y.lit (by kernel_rfl) ?_
 refine Y.pval F (X.w0 rfl) rfl (X.move rfl (F.ev 2 (Vi tn))) ?_
 clear F ac
 intro ac F
 refine Y.pval F (X.w0 rfl) rfl (X.binop rfl (F.ev 15 (Vi tn)) (X.kc (Vi 1) rfl) (X.addI Try.underlying3 rfl (by omega) (by omega))) ?_
 clear F ac
 intro ac F
 obtain ⟨w4, hmk, hTo, g⟩ := make121 w3 (N := tn + 1) (x := (tn : Int) + 1) (by omega) (by omega)
 have htb : w.heap.size ≤ w3.heap.size := G.size
 refine Y.pval F (X.w0 rfl) rfl (Y.mk rfl (F.ev 16 (Vi ((tn : Int) + 1))) (F.ev 16 (Vi ((tn : Int) + 1))) hmk) ?_
 clear F ac hmk
 intro ac F
 replace G := G.trans g
 replace hC := hC.gr g
 clear g
 have hT : TbW w4 w3.heap.size tn (pn + 1) (onP pn qn sn tn) (tn + 1) (w4.heap.size) w.heap.size := TbW.new hTo htb hTo.lt
 clear hTo
 obtain ⟨tb, htbe⟩ : ∃ tb, w3.heap.size = tb := ⟨_, rfl⟩
 rw [htbe] at F hT htb
 have hsb2 : ¬ w.heap.size = tb := by omega
 refine Y.pval F (X.w0 rfl) rfl (X.assign rfl (F.ev 17 (.slice (some ⟨tb, 0, none⟩) (tn + 1) (tn + 1)))) ?_
 clear F ac
 intro ac F
 refine Y.nil ?_
 replace F : Fr ac 115 [(0, .agg #[Vi gq, Vi aw, Vi za, Vi pn, Vi qn]), (1, Vi sn), (2, Vi tn), (3, Vp w.heap.size), (6, .slice none 0 0), (7, .slice (some ⟨tb, 0, none⟩) (tn + 1) (tn + 1))] := F.sub _
 refine X.thenN ?_
 refine Y.seq ?_
 refine Y.seq ?_
 refine Y.lit (by kernel_rfl) ?_
 refine Y.pval F (X.w0 rfl) rfl (X.move rfl (F.ev 2 (Vi tn))) ?_
 clear F ac
 intro ac F
 refine Y.pval F (X.w0 rfl) rfl (X.assign rfl (F.ev 18 (Vi tn))) ?_
 clear F ac
 intro ac F
 refine Y.nil ?_
 replace F : Fr ac 115 [(0, .agg #[Vi gq, Vi aw, Vi za, Vi pn, Vi qn]), (1, Vi sn), (2, Vi tn), (3, Vp w.heap.size), (6, .slice none 0 0), (7, .slice (some ⟨tb, 0, none⟩) (tn + 1) (tn + 1)), (8, Vi tn)] := F.sub _
 refine X.thenN ?_
 refine Y.block ?_
 refine Y.loop (fun me_ ac wr => ∃ (z : Nat), me_ = z + 1 ∧ z ≤ tn + 1 ∧ Gr w wr ∧ RCells wr [(Ad w.heap.size 0, Vi gq), (Ad w.heap.size 1, Vi aw), (Ad w.heap.size 2, Vi za), (Ad w.heap.size 3, Vi pn), (Ad w.heap.size 4, Vi qn)] ∧ TbW wr tb tn (pn + 1) (onP pn qn sn tn) z (wr.heap.size) w.heap.size ∧ Fr ac 115 [(0, .agg #[Vi gq, Vi aw, Vi za, Vi pn, Vi qn]), (1, Vi sn), (2, Vi tn), (3, Vp w.heap.size), (6, .slice none 0 0), (7, .slice (some ⟨tb, 0, none⟩) (tn + 1) (tn + 1)), (8, Vi ((z : Int) - 1))]) _ ⟨tn + 1, rfl, Nat.le_refl _, G, hC, hT, (by rw [show ((tn + 1 : Nat) : Int) - 1 = (tn : Int) by omega]; exact F.sub _)⟩ ?_
 clear F hC hT G ac
 intro me_ ac w5 hI
 obtain ⟨z, rfl, hz, G, hC, hT, F⟩ := hI
 refine Y.seq ?_
 refine Y.seq ?_
 refine Y.lit (by kernel_rfl) ?_
 refine Y.pval F (X.w0 rfl) rfl (X.move rfl (F.ev 8 (Vi ((z : Int) - 1)))) ?_
 clear F ac
 intro ac F
 refine Y.pval F (X.w0 rfl) rfl (X.binop rfl (F.ev 19 (Vi ((z : Int) - 1))) (X.kc (Vi 0) rfl) (X.geqI Try.underlying3 rfl)) ?_
 clear F ac
 intro ac F
 refine Y.nil ?_
 replace F : Fr ac 115 [(0, .agg #[Vi gq, Vi aw, Vi za, Vi pn, Vi qn]), (1, Vi sn), (2, Vi tn), (3, Vp w.heap.size), (6, .slice none 0 0), (7, .slice (some ⟨tb, 0, none⟩) (tn + 1) (tn + 1)), (8, Vi ((z : Int) - 1)), (20, .bool (decide ((0 : Int) ≤ ((z : Int) - 1))))] := F.sub _
 refine X.thenN ?_
 cases h6 : decide ((0 : Int) ≤ ((z : Int) - 1)) with
 | false =>
  try rw [h6] at F
  have h6p : ¬ ((0 : Int) ≤ ((z : Int) - 1)) := of_decide_eq_false h6
  obtain rfl : z = 0 := by omega
  refine Y.condF (F.ev 20 (.bool false)) ?_
  refine Y.exit ?_
  refine X.thenX ?_
  refine X.thenX ?_
  refine X.blockX ?_
  refine X.thenN ?_
  refine Y.seq ?_
  refine Y.lit (by kernel_rfl) ?_
  refine Y.pval F (X.w0 rfl) rfl (X.move rfl (F.ev 7 (.slice (some ⟨tb, 0, none⟩) (tn + 1) (tn + 1)))) ?_
  clear F ac
  intro ac F
  refine Y.pval F (X.w0 rfl) rfl (X.assign rfl (F.ev 114 (.slice (some ⟨tb, 0, none⟩) (tn + 1) (tn + 1)))) ?_
  clear F ac
  intro ac F
  refine Y.nil ?_
  replace F : Fr ac 115 [(0, .agg #[Vi gq, Vi aw, Vi za, Vi pn, Vi qn]), (1, Vi sn), (2, Vi tn), (3, Vp w.heap.size), (6, .slice (some ⟨tb, 0, none⟩) (tn + 1) (tn + 1)), (7, .slice (some ⟨tb, 0, none⟩) (tn + 1) (tn + 1)), (8, Vi ((0 : Int) - 1)), (20, .bool false)] := F.sub _
  refine X.thenN ?_
  refine Y.ret ?_
  exact Y.ret0 (v := .slice (some ⟨tb, 0, none⟩) (tn + 1) (tn + 1)) F (Y.rs1 F rfl (by kernel_rfl)) ⟨tb, rfl, hT, G⟩
 | true =>
  try rw [h6] at F
  have h6p : ((0 : Int) ≤ ((z : Int) - 1)) := of_decide_eq_true h6
  obtain ⟨y, rfl⟩ : ∃ y, z = y + 1 := ⟨z - 1, by omega⟩
  rw [show ((y + 1 : Nat) : Int) - 1 = (y : Int) by omega] at F
  refine Y.condT (F.ev 20 (.bool true)) ?_
  refine Y.skip ?_
  refine X.thenN ?_
  refine Y.seq ?_
  refine Y.block ?_
  refine Y.seq ?_
  refine Y.lit (by kernel_rfl) ?_
  refine Y.pval F (X.w0 rfl) rfl (X.move rfl (F.ev 7 (.slice (some ⟨tb, 0, none⟩) (tn + 1) (tn + 1)))) ?_
  clear F ac
  intro ac F
  refine Y.pval F (X.w0 rfl) rfl (X.move rfl (F.ev 8 (Vi y))) ?_
  clear F ac
  intro ac F
  refine Y.pval F (X.w0 rfl) rfl (X.field rfl (F.ev 3 (Vp w.heap.size)) (X.fld Try.underlying31 rfl (Try.siz3 _) rfl rfl)) ?_
  clear F ac
  intro ac F
  refine Y.pval F (X.w0 rfl) rfl (X.load rfl (F.ev 25 (.pointer (some ⟨w.heap.size, 3, none⟩))) (X.ld1 (Try.agg3 _) (hC.at 3 rfl))) ?_
  clear F ac
  intro ac F
  refine Y.pval F (X.w0 rfl) rfl (X.binop rfl (F.ev 26 (Vi pn)) (X.kc (Vi 1) rfl) (X.addI Try.underlying3 rfl (by omega) (by omega))) ?_
  clear F ac
  intro ac F
  obtain ⟨w7, hmk, hRo, g⟩ := make120 w5 (N := pn + 1) (x := (pn : Int) + 1) (by omega) (by omega)
  have hrb : w.heap.size ≤ w5.heap.size := G.size
  have hTl := hT.lt
  have hsl : w.heap.size < w5.heap.size := lt_cell (hC.at 0 rfl)
  refine Y.pval F (X.w0 rfl) rfl (Y.mk rfl (F.ev 27 (Vi ((pn : Int) + 1))) (F.ev 27 (Vi ((pn : Int) + 1))) hmk) ?_
  clear F ac hmk
  intro ac F
  replace G := G.trans g
  replace hC := hC.gr g
  replace hT := hT.gr g
  clear g
  have hR : RowM w7 (onP pn qn sn tn) (pn + 1) w.heap.size tb w7.heap.size w5.heap.size y 0 := RowM.new hRo (fun k _ => rfl)
  clear hRo
  obtain ⟨rb, hrbe⟩ : ∃ rb, w5.heap.size = rb := ⟨_, rfl⟩
  rw [hrbe] at F hT hR hrb hTl hsl
  clear hrbe
  refine Y.pval F (X.w0 rfl) rfl (X.index rfl (F.ev 23 (.slice (some ⟨tb, 0, none⟩) (tn + 1) (tn + 1))) (F.ev 24 (Vi y)) (X.idx (k := y) Try.underlying121 (Try.siz120 _) (by omega) (by omega) (addr_own _ _))) ?_
  clear F ac
  intro ac F
  refine Y.punit F (X.w0 rfl) rfl (X.store rfl (F.ev 29 (.pointer (some ⟨tb, y, none⟩))) (F.ev 28 (.slice (some ⟨rb, 0, none⟩) (pn + 1) (pn + 1))) (hT.st (by omega) rfl rfl)) ?_
  clear F ac
  intro ac F
  have hon := Y.set_only w7 tb y (.slice (some ⟨rb, 0, none⟩) (pn + 1) (pn + 1))
  obtain ⟨hT2, hR2, hyc⟩ := hT.lay (z := y) (rb := rb) (by omega) hR
  replace hyc := hyc (by omega)
  generalize w7.setCell ⟨tb, y, none⟩ (.slice (some ⟨rb, 0, none⟩) (pn + 1) (pn + 1)) = w8 at *
  clear hT hR
  have hT := hT2
  have hR := hR2
  clear hT2 hR2
  replace hR := hR.up hon.size
  replace G := Y.Only.up G hon (by omega)
  replace hC := (hC.kc hon 0 rfl (hC.kc hon 1 rfl (hC.kc hon 2 rfl (hC.kc hon 3 rfl (hC.kc hon 4 rfl (RCells.nil _))))))
  replace hC : RCells w8 [(Ad w.heap.size 0, Vi gq), (Ad w.heap.size 1, Vi aw), (Ad w.heap.size 2, Vi za), (Ad w.heap.size 3, Vi pn), (Ad w.heap.size 4, Vi qn), (⟨tb, y, none⟩, .slice (some ⟨rb, 0, none⟩) (pn + 1) (pn + 1))] := hC.append ((RCells.cons hyc (RCells.nil _)))
  clear hon hyc
  refine Y.nil ?_
  replace F : Fr ac 115 [(0, .agg #[Vi gq, Vi aw, Vi za, Vi pn, Vi qn]), (1, Vi sn), (2, Vi tn), (3, Vp w.heap.size), (6, .slice none 0 0), (7, .slice (some ⟨tb, 0, none⟩) (tn + 1) (tn + 1)), (8, Vi y), (20, .bool true)] := F.sub _
  refine X.thenN ?_
  refine Y.seq ?_
  refine Y.lit (by kernel_rfl) ?_
  refine Y.pval F (X.w0 rfl) rfl (X.assign rfl (X.kc (Vi 0) rfl)) ?_
  clear F ac
  intro ac F
  refine Y.nil ?_
  replace F : Fr ac 115 [(0, .agg #[Vi gq, Vi aw, Vi za, Vi pn, Vi qn]), (1, Vi sn), (2, Vi tn), (3, Vp w.heap.size), (6, .slice none 0 0), (7, .slice (some ⟨tb, 0, none⟩) (tn + 1) (tn + 1)), (8, Vi y), (9, Vi 0), (20, .bool true)] := F.sub _
  refine X.thenN ?_
  refine Y.block ?_
  refine Y.loop (fun me_ ac wr => ∃ (x : Nat), me_ = pn + 1 - x ∧ x ≤ pn + 1 ∧ Gr w wr ∧ RCells wr [(Ad w.heap.size 0, Vi gq), (Ad w.heap.size 1, Vi aw), (Ad w.heap.size 2, Vi za), (Ad w.heap.size 3, Vi pn), (Ad w.heap.size 4, Vi qn), (⟨tb, y, none⟩, .slice (some ⟨rb, 0, none⟩) (pn + 1) (pn + 1))] ∧ TbW wr tb tn (pn + 1) (onP pn qn sn tn) (y + 1) (rb) w.heap.size ∧ RowM wr (onP pn qn sn tn) (pn + 1) w.heap.size tb wr.heap.size rb y x ∧ Fr ac 115 [(0, .agg #[Vi gq, Vi aw, Vi za, Vi pn, Vi qn]), (1, Vi sn), (2, Vi tn), (3, Vp w.heap.size), (6, .slice none 0 0), (7, .slice (some ⟨tb, 0, none⟩) (tn + 1) (tn + 1)), (8, Vi y), (9, Vi x), (20, .bool true)]) _ ⟨0, rfl, Nat.zero_le _, G, hC, hT, hR, F.sub _⟩ ?_
  clear F hC hT G ac hR
  intro me_ ac w9 hI
  obtain ⟨x, rfl, hx, G, hC, hT, hR, F⟩ := hI
  have hrl := hR.lt
  have htl := hT.lt
  have hwl := G.size
  have hsl2 : w.heap.size < w9.heap.size := lt_cell (hC.at 0 rfl)
  obtain ⟨H, hHe⟩ : ∃ H, w9.heap.size = H := ⟨_, rfl⟩
  rw [hHe] at hR hrl htl hwl hsl2
  have hBw : Bw H w9 := Nat.le_of_eq hHe.symm
  clear hHe
  refine Y.seq ?_
  refine Y.seq ?_
  refine Y.lit (by kernel_rfl) ?_
  refine Y.pval F (X.w0 rfl) rfl (X.move rfl (F.ev 9 (Vi x))) ?_
  clear F ac
  intro ac F
  refine Y.pval F (X.w0 rfl) rfl (X.field rfl (F.ev 3 (Vp w.heap.size)) (X.fld Try.underlying31 rfl (Try.siz3 _) rfl rfl)) ?_
  clear F ac
  intro ac F
  refine Y.pval F (X.w0 rfl) rfl (X.load rfl (F.ev 31 (.pointer (some ⟨w.heap.size, 3, none⟩))) (X.ld1 (Try.agg3 _) (hC.at 3 rfl))) ?_
  clear F ac
  intro ac F
  refine Y.pval F (X.w0 rfl) rfl (X.binop rfl (F.ev 30 (Vi x)) (F.ev 32 (Vi pn)) (X.leqI Try.underlying3 rfl)) ?_
  clear F ac
  intro ac F
  refine Y.pval F (X.w0 rfl) rfl (X.move rfl (F.ev 33 (.bool (decide ((x : Int) ≤ pn))))) ?_
  clear F ac
  intro ac F
  cases h10 : decide ((x : Int) ≤ pn) with
  | false =>
   try rw [h10] at F
   have h10p : ¬ ((x : Int) ≤ pn) := of_decide_eq_false h10
   refine Y.pskip F (X.w2 rfl (F.yl (j := 4) (d := 34) (b := false) rfl (by kernel_rfl)) rfl) rfl ?_
   clear F ac
   intro ac F
   refine Y.pskip F (X.w2 rfl (F.yl (j := 4) (d := 34) (b := false) rfl (by kernel_rfl)) rfl) rfl ?_
   clear F ac
   intro ac F
   refine Y.pskip F (X.w2 rfl (F.yl (j := 4) (d := 34) (b := false) rfl (by kernel_rfl)) rfl) rfl ?_
   clear F ac
   intro ac F
   refine Y.pval F (X.w0 rfl) rfl (X.pickF rfl (F.ev 34 (.bool false)) (X.kc (.bool false) rfl)) ?_
   clear F ac
   intro ac F
   refine Y.nil ?_
   replace F : Fr ac 115 [(0, .agg #[Vi gq, Vi aw, Vi za, Vi pn, Vi qn]), (1, Vi sn), (2, Vi tn), (3, Vp w.heap.size), (6, .slice none 0 0), (7, .slice (some ⟨tb, 0, none⟩) (tn + 1) (tn + 1)), (8, Vi y), (9, Vi x), (20, .bool true), (38, .bool false)] := F.sub _
   refine X.thenN ?_
   refine Y.condF (F.ev 38 (.bool false)) ?_
   refine Y.exit ?_
   refine X.thenX ?_
   refine X.thenX ?_
   refine X.blockX ?_
   refine X.blockN ?_
   refine X.thenN ?_
   refine Y.lit (by kernel_rfl) ?_
   refine Y.pval F (X.w0 rfl) rfl (X.move rfl (F.ev 8 (Vi y))) ?_
   clear F ac
   intro ac F
   refine Y.pval F (X.w0 rfl) rfl (X.binop rfl (F.ev 21 (Vi y)) (X.kc (Vi 1) rfl) (X.subI Try.underlying3 rfl (by omega) (by omega))) ?_
   clear F ac
   intro ac F
   refine Y.pval F (X.w0 rfl) rfl (X.assign rfl (F.ev 22 (Vi ((y : Int) - 1)))) ?_
   clear F ac
   intro ac F
   refine Y.nil ?_
   replace F : Fr ac 115 [(0, .agg #[Vi gq, Vi aw, Vi za, Vi pn, Vi qn]), (1, Vi sn), (2, Vi tn), (3, Vp w.heap.size), (6, .slice none 0 0), (7, .slice (some ⟨tb, 0, none⟩) (tn + 1) (tn + 1)), (8, Vi ((y : Int) - 1)), (9, Vi x), (20, .bool true), (38, .bool false)] := F.sub _
   refine X.thenN ?_
   have hRd := (hR.up hBw).done (.inl (by omega))
   replace hT := (hT.up (hi' := w9.heap.size) (by have := hR.lt; omega)).done (rb := rb) (by omega) hrb hR.lt (by omega) (hC.at 5 rfl) hRd
   replace hC : RCells w9 [(Ad w.heap.size 0, Vi gq), (Ad w.heap.size 1, Vi aw), (Ad w.heap.size 2, Vi za), (Ad w.heap.size 3, Vi pn), (Ad w.heap.size 4, Vi qn)] := (RCells.cons (hC.at 0 rfl) (RCells.cons (hC.at 1 rfl) (RCells.cons (hC.at 2 rfl) (RCells.cons (hC.at 3 rfl) (RCells.cons (hC.at 4 rfl) (RCells.nil _))))))
   refine ⟨_, ?_, y, rfl, by omega, G, hC, hT, F.sub _⟩
   omega
  | true =>
   try rw [h10] at F
   have h10p : ((x : Int) ≤ pn) := of_decide_eq_true h10
   refine Y.pval F (X.w1 rfl (F.yl (j := 4) (d := 34) (b := true) rfl (by kernel_rfl))) rfl (X.move rfl (F.ev 8 (Vi y))) ?_
   clear F ac
   intro ac F
   refine Y.pval F (X.w1 rfl (F.yl (j := 4) (d := 34) (b := true) rfl (by kernel_rfl))) rfl (X.move rfl (F.ev 2 (Vi tn))) ?_
   clear F ac
   intro ac F
   refine Y.pval F (X.w1 rfl (F.yl (j := 4) (d := 34) (b := true) rfl (by kernel_rfl))) rfl (X.binop rfl (F.ev 35 (Vi y)) (F.ev 36 (Vi tn)) (X.lssI Try.underlying3 rfl)) ?_
   clear F ac
   intro ac F
   refine Y.pval F (X.w0 rfl) rfl (X.pickT rfl (F.ev 34 (.bool true)) (F.ev 37 (.bool (decide ((y : Int) < tn))))) ?_
   clear F ac
   intro ac F
   refine Y.nil ?_
   replace F : Fr ac 115 [(0, .agg #[Vi gq, Vi aw, Vi za, Vi pn, Vi qn]), (1, Vi sn), (2, Vi tn), (3, Vp w.heap.size), (6, .slice none 0 0), (7, .slice (some ⟨tb, 0, none⟩) (tn + 1) (tn + 1)), (8, Vi y), (9, Vi x), (20, .bool true), (38, .bool (decide ((y : Int) < tn)))] := F.sub _
   refine X.thenN ?_
   cases h11 : decide ((y : Int) < tn) with
   | false =>
    try rw [h11] at F
    have h11p : ¬ ((y : Int) < tn) := of_decide_eq_false h11
    refine Y.condF (F.ev 38 (.bool false)) ?_
    refine Y.exit ?_
    refine X.thenX ?_
    refine X.thenX ?_
    refine X.blockX ?_
    refine X.blockN ?_
    refine X.thenN ?_
    refine Y.lit (by kernel_rfl) ?_
    refine Y.pval F (X.w0 rfl) rfl (X.move rfl (F.ev 8 (Vi y))) ?_
    clear F ac
    intro ac F
    refine Y.pval F (X.w0 rfl) rfl (X.binop rfl (F.ev 21 (Vi y)) (X.kc (Vi 1) rfl) (X.subI Try.underlying3 rfl (by omega) (by omega))) ?_
    clear F ac
    intro ac F
    refine Y.pval F (X.w0 rfl) rfl (X.assign rfl (F.ev 22 (Vi ((y : Int) - 1)))) ?_
    clear F ac
    intro ac F
    refine Y.nil ?_
    replace F : Fr ac 115 [(0, .agg #[Vi gq, Vi aw, Vi za, Vi pn, Vi qn]), (1, Vi sn), (2, Vi tn), (3, Vp w.heap.size), (6, .slice none 0 0), (7, .slice (some ⟨tb, 0, none⟩) (tn + 1) (tn + 1)), (8, Vi ((y : Int) - 1)), (9, Vi x), (20, .bool true), (38, .bool false)] := F.sub _
    refine X.thenN ?_
    have hRd := (hR.up hBw).done (.inr (by show (tn : Int) ≤ (y : Int); omega))
    replace hT := (hT.up (hi' := w9.heap.size) (by have := hR.lt; omega)).done (rb := rb) (by omega) hrb hR.lt (by omega) (hC.at 5 rfl) hRd
    replace hC : RCells w9 [(Ad w.heap.size 0, Vi gq), (Ad w.heap.size 1, Vi aw), (Ad w.heap.size 2, Vi za), (Ad w.heap.size 3, Vi pn), (Ad w.heap.size 4, Vi qn)] := (RCells.cons (hC.at 0 rfl) (RCells.cons (hC.at 1 rfl) (RCells.cons (hC.at 2 rfl) (RCells.cons (hC.at 3 rfl) (RCells.cons (hC.at 4 rfl) (RCells.nil _))))))
    refine ⟨_, ?_, y, rfl, by omega, G, hC, hT, F.sub _⟩
    omega
   | true =>
    try rw [h11] at F
    have h11p : ((y : Int) < tn) := of_decide_eq_true h11
    have hgb := gnV_bd hpk (x := (x : Int)) (a := (y : Int)) (by omega) (by show (x : Int) ≤ (pn : Int); omega) 1
    obtain ⟨v, hgv⟩ : ∃ v : Nat, gnV (onP pn qn sn tn) x y 1 = v := ⟨(gnV (onP pn qn sn tn) x y 1).toNat, by omega⟩
    rw [hgv] at hgb
    have hvb : v ≤ pn := by have h9 : (v : Int) ≤ (pn : Int) := hgb.2; omega
    have hrv : refV (onP pn qn sn tn) y x = v := by rw [← hgv]; simp only [gnV]; rw [show (y : Int) + ((0 : Nat) : Int) = y by omega]
    clear hgb
    refine Y.condT (F.ev 38 (.bool true)) ?_
    refine Y.skip ?_
    refine X.thenN ?_
    refine Y.seq ?_
    refine Y.block ?_
    refine Y.seq ?_
    refine Y.lit (by kernel_rfl) ?_
    refine Y.pval F (X.w0 rfl) rfl (X.load rfl (F.ev 3 (Vp w.heap.size)) (X.ldN (Try.agg31 _) (Try.siz31 _) (Y.atz (⟨w.heap.size, 0, none⟩) (Y.AtFrom.cons (hC.at 0 rfl) (Y.AtFrom.cons (hC.at 1 rfl) (Y.AtFrom.cons (hC.at 2 rfl) (Y.AtFrom.cons (hC.at 3 rfl) (Y.AtFrom.cons (hC.at 4 rfl) (Y.AtFrom.nil _ _ _))))))))) ?_
    clear F ac
    intro ac F
    refine Y.pval F (X.w0 rfl) rfl (X.move rfl (F.ev 9 (Vi x))) ?_
    clear F ac
    intro ac F
    refine Y.pval F (X.w0 rfl) rfl (X.move rfl (F.ev 8 (Vi y))) ?_
    clear F ac
    intro ac F
    refine Y.pval F (X.w0 rfl) rfl (X.move rfl (F.ev 8 (Vi y))) ?_
    clear F ac
    intro ac F
    refine Y.pcall F (X.w0 rfl) rfl (X.enter (F := 87) rfl (X.kc (.func (.func 87) #[] #[]) rfl) (X.a4 (F.ev 41 (.agg #[Vi gq, Vi aw, Vi za, Vi pn, Vi qn])) (F.ev 42 (Vi x)) (F.ev 43 (Vi y)) (F.ev 44 (Vi y))) (enters_of Try.func87 (by kernel_rfl) rfl _)) (by have hq := gain_any gq aw za (onP pn qn sn tn) (x : Int) (y : Int) (y : Int) 1 w9 hpk ⟨by omega, by show (x : Int) ≤ (pn : Int); omega⟩ (by omega) (by omega) (by omega); rw [hgv] at hq; exact hq) ?_
    clear F ac
    rintro e w12 ⟨rfl, g⟩
    refine ⟨_, rfl, ?_⟩
    intro ac F
    replace G := G.trans g
    replace hC := hC.gr g
    replace hT := hT.gr g
    replace hR := hR.gr g
    replace hBw := hBw.gr g
    clear g
    refine Y.pval F (X.w0 rfl) rfl (X.assign rfl (F.ev 45 (Vi v))) ?_
    clear F ac
    intro ac F
    refine Y.nil ?_
    replace F : Fr ac 115 [(0, .agg #[Vi gq, Vi aw, Vi za, Vi pn, Vi qn]), (1, Vi sn), (2, Vi tn), (3, Vp w.heap.size), (6, .slice none 0 0), (7, .slice (some ⟨tb, 0, none⟩) (tn + 1) (tn + 1)), (8, Vi y), (9, Vi x), (10, Vi v), (20, .bool true), (38, .bool true)] := F.sub _
    refine X.thenN ?_
    refine Y.seq ?_
    refine Y.lit (by kernel_rfl) ?_
    refine Y.pval F (X.w0 rfl) rfl (X.move rfl (F.ev 7 (.slice (some ⟨tb, 0, none⟩) (tn + 1) (tn + 1)))) ?_
    clear F ac
    intro ac F
    refine Y.pval F (X.w0 rfl) rfl (X.move rfl (F.ev 8 (Vi y))) ?_
    clear F ac
    intro ac F
    refine Y.pval F (X.w0 rfl) rfl (X.binop rfl (F.ev 47 (Vi y)) (X.kc (Vi 1) rfl) (X.addI Try.underlying3 rfl (by omega) (by omega))) ?_
    clear F ac
    intro ac F
    refine Y.pval F (X.w0 rfl) rfl (X.index rfl (F.ev 46 (.slice (some ⟨tb, 0, none⟩) (tn + 1) (tn + 1))) (F.ev 48 (Vi ((y : Int) + 1))) (X.idx (k := (y + 1)) Try.underlying121 (Try.siz120 _) (by omega) (by omega) (addr_own _ _))) ?_
    clear F ac
    intro ac F
    obtain ⟨rb13, hr13, hrl13, hrt13, hrr13⟩ := hT.row (t := (y + 1)) (by omega) (by omega)
    replace hC : RCells w12 [(Ad w.heap.size 0, Vi gq), (Ad w.heap.size 1, Vi aw), (Ad w.heap.size 2, Vi za), (Ad w.heap.size 3, Vi pn), (Ad w.heap.size 4, Vi qn), (⟨tb, y, none⟩, .slice (some ⟨rb, 0, none⟩) (pn + 1) (pn + 1)), (⟨tb, (y + 1), none⟩, .slice (some ⟨rb13, 0, none⟩) (pn + 1) (pn + 1))] := hC.append ((RCells.cons hr13 (RCells.nil _)))
    refine Y.pval F (X.w0 rfl) rfl (X.load rfl (F.ev 49 (.pointer (some ⟨tb, (y + 1), none⟩))) (X.ld1 (Try.agg120 _) (hC.at 6 rfl))) ?_
    clear F ac
    intro ac F
    refine Y.pval F (X.w0 rfl) rfl (X.move rfl (F.ev 10 (Vi v))) ?_
    clear F ac
    intro ac F
    refine Y.pval F (X.w0 rfl) rfl (X.index rfl (F.ev 50 (.slice (some ⟨rb13, 0, none⟩) (pn + 1) (pn + 1))) (F.ev 51 (Vi v)) (X.idx (k := v) Try.underlying120 (Try.siz86 _) (by omega) (by omega) (addr_add0 _ _))) ?_
    clear F ac
    intro ac F
    obtain ⟨xa, xc, hxc0, hxc1, hxi, hxn, hxib⟩ := hrr13.cells (k := v) (by omega)
    rw [show ((y + 1 : Nat) : Int) = ((y : Int) + 1) by omega] at hxc0 hxc1 hxi
    have hxl0 : (noiV (onP pn qn sn tn) ((y : Int) + 1) v).length = (noiV (onP pn qn sn tn) ((y : Int) + 1) v).length := rfl
    obtain ⟨fn, hxl⟩ : ∃ z, (noiV (onP pn qn sn tn) ((y : Int) + 1) v).length = z := ⟨_, rfl⟩
    rw [show (noiV (onP pn qn sn tn) ((y : Int) + 1) v).length = fn from hxl] at hxc1 hxi
    clear hxl0
    have hxbb := bestV_bd hpk (t := ((y : Int) + 1)) (x := (v : Int)) (by omega) (by omega) (by show (v : Int) ≤ (pn : Int); omega)
    have hxle : fn ≤ 1001 := by
     have h9 := best_len hpk ((tn : Int) - ((y : Int) + 1)).toNat ((y : Int) + 1) v (by omega) (by show (tn : Int) - ((y : Int) + 1) = _; omega) (by omega) (by show (v : Int) ≤ (pn : Int); omega)
     rw [hxl] at h9
     omega
    replace hC : RCells w12 [(Ad w.heap.size 0, Vi gq), (Ad w.heap.size 1, Vi aw), (Ad w.heap.size 2, Vi za), (Ad w.heap.size 3, Vi pn), (Ad w.heap.size 4, Vi qn), (⟨tb, y, none⟩, .slice (some ⟨rb, 0, none⟩) (pn + 1) (pn + 1)), (⟨tb, (y + 1), none⟩, .slice (some ⟨rb13, 0, none⟩) (pn + 1) (pn + 1)), (⟨rb13, v * 2, none⟩, Vi ((bestV (onP pn qn sn tn) ((y : Int) + 1) v).1)), (⟨rb13, v * 2 + 1, none⟩, .slice xa fn xc)] := hC.append ((RCells.cons hxc0 (RCells.cons hxc1 (RCells.nil _))))
    refine Y.pval F (X.w0 rfl) rfl (X.load rfl (F.ev 52 (.pointer (some ⟨rb13, v * 2, none⟩))) (X.ldN (Try.agg86 _) (Try.siz86 _) (Y.atz (⟨rb13, v * 2, none⟩) (Y.AtFrom.cons (hC.at 7 rfl) (Y.AtFrom.cons (hC.at 8 rfl) (Y.AtFrom.nil _ _ _)))))) ?_
    clear F ac
    intro ac F
    refine Y.pval F (X.w0 rfl) rfl (Y.al rfl (Try.new86 _)) ?_
    clear F ac
    intro ac F
    refine Y.punit F (X.w0 rfl) rfl (X.store rfl (F.ev 11 (Vp w12.heap.size)) (F.ev 53 (.agg #[Vi ((bestV (onP pn qn sn tn) ((y : Int) + 1) v).1), .slice xa fn xc])) (Y.stNew [Vi ((bestV (onP pn qn sn tn) ((y : Int) + 1) v).1), .slice xa fn xc] [Vi 0, .slice none 0 0] (Try.siz86 _) rfl rfl)) ?_
    clear F ac
    intro ac F
    have hq15 : w.heap.size < w12.heap.size := lt_cell (hC.at 0 rfl)
    have hq16 : tb < w12.heap.size := lt_cell (hC.at 5 rfl)
    have hq17 : rb13 < w12.heap.size := lt_cell (hC.at 7 rfl)
    have hq18 : tb < w12.heap.size := hT.lt
    have hq19 : rb < w12.heap.size := hR.lt
    have hq20 : H ≤ w12.heap.size := hBw
    have g := Gr.alloc w12 (.cells #[Vi ((bestV (onP pn qn sn tn) ((y : Int) + 1) v).1), .slice xa fn xc] 86)
    have hb := heap_alloc_new w12 (.cells #[Vi ((bestV (onP pn qn sn tn) ((y : Int) + 1) v).1), .slice xa fn xc] 86)
    have hbl : w12.heap.size < (w12.alloc (.cells #[Vi ((bestV (onP pn qn sn tn) ((y : Int) + 1) v).1), .slice xa fn xc] 86)).heap.size := by simp
    generalize w12.alloc (.cells #[Vi ((bestV (onP pn qn sn tn) ((y : Int) + 1) v).1), .slice xa fn xc] 86) = w21 at *
    replace G := G.trans g
    replace hC := hC.gr g
    replace hT := hT.gr g
    replace hR := hR.gr g
    replace hBw := hBw.gr g
    replace hxi := hxi.gr g
    have hV14 := ownP_2 hb
    clear g hb hbl
    have hwbhV14 : w.heap.size ≤ w12.heap.size := by omega
    refine Y.nil ?_
    replace F : Fr ac 115 [(0, .agg #[Vi gq, Vi aw, Vi za, Vi pn, Vi qn]), (1, Vi sn), (2, Vi tn), (3, Vp w.heap.size), (6, .slice none 0 0), (7, .slice (some ⟨tb, 0, none⟩) (tn + 1) (tn + 1)), (8, Vi y), (9, Vi x), (10, Vi v), (11, Vp w12.heap.size), (20, .bool true), (38, .bool true)] := F.sub _
    refine X.thenN ?_
    refine Y.seq ?_
    refine Y.seq ?_
    refine Y.lit (by kernel_rfl) ?_
    refine Y.pval F (X.w0 rfl) rfl (X.move rfl (F.ev 10 (Vi v))) ?_
    clear F ac
    intro ac F
    refine Y.pval F (X.w0 rfl) rfl (X.binop rfl (F.ev 54 (Vi v)) (X.kc (Vi 0) rfl) (X.gtrI Try.underlying3 rfl)) ?_
    clear F ac
    intro ac F
    refine Y.nil ?_
    replace F : Fr ac 115 [(0, .agg #[Vi gq, Vi aw, Vi za, Vi pn, Vi qn]), (1, Vi sn), (2, Vi tn), (3, Vp w.heap.size), (6, .slice none 0 0), (7, .slice (some ⟨tb, 0, none⟩) (tn + 1) (tn + 1)), (8, Vi y), (9, Vi x), (10, Vi v), (11, Vp w12.heap.size), (20, .bool true), (38, .bool true), (55, .bool (decide ((0 : Int) < v)))] := F.sub _
    refine X.thenN ?_
    cases h22 : decide ((0 : Int) < v) with
    | false =>
     try rw [h22] at F
     have h22p : ¬ ((0 : Int) < v) := of_decide_eq_false h22
     refine Y.condF (F.ev 55 (.bool false)) ?_
     refine Y.skip ?_
     refine X.thenN ?_
     replace hC : RCells w21 [(Ad w.heap.size 0, Vi gq), (Ad w.heap.size 1, Vi aw), (Ad w.heap.size 2, Vi za), (Ad w.heap.size 3, Vi pn), (Ad w.heap.size 4, Vi qn), (⟨tb, y, none⟩, .slice (some ⟨rb, 0, none⟩) (pn + 1) (pn + 1)), (⟨tb, (y + 1), none⟩, .slice (some ⟨rb13, 0, none⟩) (pn + 1) (pn + 1)), (⟨rb13, v * 2, none⟩, Vi ((bestV (onP pn qn sn tn) ((y : Int) + 1) v).1)), (⟨rb13, v * 2 + 1, none⟩, .slice xa fn xc), (Ad w12.heap.size 0, Vi ((bestV (onP pn qn sn tn) ((y : Int) + 1) v).1))] := hC.append ((RCells.cons (hV14.cell (k := 0) (by decide)) (RCells.nil _)))
     replace hC : RCells w21 [(Ad w.heap.size 0, Vi gq), (Ad w.heap.size 1, Vi aw), (Ad w.heap.size 2, Vi za), (Ad w.heap.size 3, Vi pn), (Ad w.heap.size 4, Vi qn), (⟨tb, y, none⟩, .slice (some ⟨rb, 0, none⟩) (pn + 1) (pn + 1)), (⟨tb, (y + 1), none⟩, .slice (some ⟨rb13, 0, none⟩) (pn + 1) (pn + 1)), (⟨rb13, v * 2, none⟩, Vi ((bestV (onP pn qn sn tn) ((y : Int) + 1) v).1)), (⟨rb13, v * 2 + 1, none⟩, .slice xa fn xc), (Ad w12.heap.size 0, Vi ((bestV (onP pn qn sn tn) ((y : Int) + 1) v).1)), (Ad w12.heap.size 1, .slice xa fn xc)] := hC.append ((RCells.cons (hV14.cell (k := 1) (by decide)) (RCells.nil _)))
     have hq23 : w.heap.size < w21.heap.size := lt_cell (hC.at 0 rfl)
     have hq24 : tb < w21.heap.size := lt_cell (hC.at 5 rfl)
     have hq25 : rb13 < w21.heap.size := lt_cell (hC.at 7 rfl)
     have hq26 : w12.heap.size < w21.heap.size := lt_cell (hC.at 9 rfl)
     have hq27 : tb < w21.heap.size := hT.lt
     have hq28 : rb < w21.heap.size := hR.lt
     have hq29 : H ≤ w21.heap.size := hBw
     have hq30 : w12.heap.size < w21.heap.size := hV14.lt
     have hA : ((bestV (onP pn qn sn tn) ((y : Int) + 1) v).1 : Int) = (bestV (onP pn qn sn tn) y x).1 := by rw [bestV_stay (t := (y : Int)) (x := (x : Int)) (by show (y : Int) < (tn : Int); omega) (by rw [hrv]; omega), hrv]; simp only [add2]; show _ = _ + (0 : Int); omega
     have hL : (noiV (onP pn qn sn tn) ((y : Int) + 1) v) = noiV (onP pn qn sn tn) y x := by rw [noi_none (t := (y : Int)) (x := (x : Int)) (by show (y : Int) < (tn : Int); omega) (by rw [hrv]; omega), hrv]
     replace hR := hR.up hBw
     have hlb : ∀ ad : Addr, (xa : Option Addr) = some ad → w.heap.size ≤ ad.block ∧ ad.block < w21.heap.size ∧ ¬ ad.block = tb ∧ ¬ ad.block = rb := fun ad e => by have := hxib ad e; omega
     refine Y.regionS F [some (.slice (some ⟨tb, 0, none⟩) (tn + 1) (tn + 1)), some (Vi y), some (.pointer (some ⟨tb, y, none⟩)), some (.slice (some ⟨rb, 0, none⟩) (pn + 1) (pn + 1)), some (Vi x), some (.agg #[Vi ((bestV (onP pn qn sn tn) ((y : Int) + 1) v).1), .slice xa fn xc]), some (.pointer (some ⟨rb, x * 2, none⟩)), none] [] 7 (fun _ W => Only (fun z => z = rb) w21 W ∧ RowM W (onP pn qn sn tn) (pn + 1) w.heap.size tb w21.heap.size rb y (x + 1)) rfl ⟨by kernel_rfl, of_decide_eq_true (by kernel_rfl), by kernel_rfl, by kernel_rfl, by kernel_rfl⟩ (of_decide_eq_true (by kernel_rfl)) ⟨?_, ?_, ?_, ?_, ?_, ?_, ?_, ?_, trivial⟩ ?_
     ·intro ac done u W Sx hT_
      have hs := Sx.no 7 (by kernel_rfl)
      have hR_ := hT_.1 hs
      exact X.val (X.w0 rfl) rfl (X.move rfl (Sx.ev 7 (.slice (some ⟨tb, 0, none⟩) (tn + 1) (tn + 1)))) (Y.RT.of hs rfl (hR_.step (Gr.refl _) rfl))
     ·intro ac done u W Sx hT_
      have hs := Sx.no 7 (by kernel_rfl)
      have hR_ := hT_.1 hs
      exact X.val (X.w0 rfl) rfl (X.move rfl (Sx.ev 8 (Vi y))) (Y.RT.of hs rfl (hR_.step (Gr.refl _) rfl))
     ·intro ac done u W Sx hT_
      have hs := Sx.no 7 (by kernel_rfl)
      have hR_ := hT_.1 hs
      exact X.val (X.w0 rfl) rfl (X.index rfl (Sx.ev 107 (.slice (some ⟨tb, 0, none⟩) (tn + 1) (tn + 1))) (Sx.ev 108 (Vi y)) (X.idx (k := y) Try.underlying121 (Try.siz120 _) (by omega) (by omega) (addr_own _ _))) (Y.RT.of hs rfl (hR_.step (Gr.refl _) rfl))
     ·intro ac done u W Sx hT_
      have hs := Sx.no 7 (by kernel_rfl)
      have hR_ := hT_.1 hs
      have g : Gr w21 W := hR_.1
      exact X.val (X.w0 rfl) rfl (X.load rfl (Sx.ev 109 (.pointer (some ⟨tb, y, none⟩))) (X.ld1 (Try.agg120 _) ((hC.gr g).at 5 rfl))) (Y.RT.of hs rfl (hR_.step (Gr.refl _) rfl))
     ·intro ac done u W Sx hT_
      have hs := Sx.no 7 (by kernel_rfl)
      have hR_ := hT_.1 hs
      exact X.val (X.w0 rfl) rfl (X.move rfl (Sx.ev 9 (Vi x))) (Y.RT.of hs rfl (hR_.step (Gr.refl _) rfl))
     ·intro ac done u W Sx hT_
      have hs := Sx.no 7 (by kernel_rfl)
      have hR_ := hT_.1 hs
      have g : Gr w21 W := hR_.1
      exact X.val (X.w0 rfl) rfl (X.load rfl (Sx.ev 11 (Vp w12.heap.size)) (X.ldN (Try.agg86 _) (Try.siz86 _) (Y.atz (⟨w12.heap.size, 0, none⟩) (Y.AtFrom.cons ((hC.gr g).at 9 rfl) (Y.AtFrom.cons ((hC.gr g).at 10 rfl) (Y.AtFrom.nil _ _ _)))))) (Y.RT.of hs rfl (hR_.step (Gr.refl _) rfl))
     ·intro ac done u W Sx hT_
      have hs := Sx.no 7 (by kernel_rfl)
      have hR_ := hT_.1 hs
      exact X.val (X.w0 rfl) rfl (X.index rfl (Sx.ev 110 (.slice (some ⟨rb, 0, none⟩) (pn + 1) (pn + 1))) (Sx.ev 111 (Vi x)) (X.idx (k := x) Try.underlying120 (Try.siz86 _) (by omega) (by omega) (addr_add0 _ _))) (Y.RT.of hs rfl (hR_.step (Gr.refl _) rfl))
     ·intro ac done u W Sx hT_
      have hR_ := hT_.1 Sx.nd
      have g : Gr w21 W := hR_.1
      obtain ⟨W2, hrun, hR2, hon⟩ := (hR.gr g).put (by omega) hA hL (hxi.gr g).len.symm (hxi.gr g) hxn hlb
      exact X.unit (X.w0 rfl) rfl (X.store rfl (Sx.ev 113 (.pointer (some ⟨rb, x * 2, none⟩))) (Sx.ev 112 (.agg #[Vi ((bestV (onP pn qn sn tn) ((y : Int) + 1) v).1), .slice xa fn xc])) hrun) (Y.RT.fin ⟨(g.only _).trans hon, hR2⟩)
     rintro ac u w31 hs hd hl_ ho ⟨hon, hR2⟩
     replace F : Fr ac 115 [(0, .agg #[Vi gq, Vi aw, Vi za, Vi pn, Vi qn]), (1, Vi sn), (2, Vi tn), (3, Vp w.heap.size), (6, .slice none 0 0), (7, .slice (some ⟨tb, 0, none⟩) (tn + 1) (tn + 1)), (8, Vi y), (9, Vi x), (10, Vi v), (11, Vp w12.heap.size), (20, .bool true), (38, .bool true), (55, .bool false)] := X.fr hs hd hl_ _ (by kernel_rfl)
     clear hs hd hl_ ho hA hL hlb
     replace G := Y.Only.up G hon (by omega)
     replace hT := hT.only hon (by intro b_ h1_ h2_ e_; omega)
     replace hC := (hC.kc hon 0 rfl (hC.kc hon 1 rfl (hC.kc hon 2 rfl (hC.kc hon 3 rfl (hC.kc hon 4 rfl (hC.kc hon 5 rfl (RCells.nil _)))))))
     replace hR := hR2.up hon.size
     clear hR2 hon
     refine X.blockN ?_
     refine X.thenN ?_
     refine Y.lit (by kernel_rfl) ?_
     refine Y.pval F (X.w0 rfl) rfl (X.move rfl (F.ev 9 (Vi x))) ?_
     clear F ac
     intro ac F
     refine Y.pval F (X.w0 rfl) rfl (X.binop rfl (F.ev 39 (Vi x)) (X.kc (Vi 1) rfl) (X.addI Try.underlying3 rfl (by omega) (by omega))) ?_
     clear F ac
     intro ac F
     refine Y.pval F (X.w0 rfl) rfl (X.assign rfl (F.ev 40 (Vi ((x : Int) + 1)))) ?_
     clear F ac
     intro ac F
     refine Y.nil ?_
     replace F : Fr ac 115 [(0, .agg #[Vi gq, Vi aw, Vi za, Vi pn, Vi qn]), (1, Vi sn), (2, Vi tn), (3, Vp w.heap.size), (6, .slice none 0 0), (7, .slice (some ⟨tb, 0, none⟩) (tn + 1) (tn + 1)), (8, Vi y), (9, Vi ((x : Int) + 1)), (10, Vi v), (11, Vp w12.heap.size), (20, .bool true), (38, .bool true), (55, .bool false)] := F.sub _
     refine X.thenN ?_
     refine ⟨_, ?_, x + 1, rfl, by omega, G, hC, hT, hR, F.sub _⟩
     omega
    | true =>
     try rw [h22] at F
     have h22p : ((0 : Int) < v) := of_decide_eq_true h22
     have hgb := gnV_bd hpk (x := (v : Int) - 1) (a := (y : Int) + 1) (by omega) (by show (v : Int) - 1 ≤ (pn : Int); omega) sn
     obtain ⟨q, hgu⟩ : ∃ q : Nat, gnV (onP pn qn sn tn) ((v : Int) - 1) ((y : Int) + 1) sn = q := ⟨(gnV (onP pn qn sn tn) ((v : Int) - 1) ((y : Int) + 1) sn).toNat, by omega⟩
     rw [hgu] at hgb
     have hub : q ≤ pn := by have h9 : (q : Int) ≤ (pn : Int) := hgb.2; omega
     clear hgb
     refine Y.condT (F.ev 55 (.bool true)) ?_
     refine Y.seq ?_
     refine Y.lit (by kernel_rfl) ?_
     refine Y.pval F (X.w0 rfl) rfl (X.move rfl (F.ev 2 (Vi tn))) ?_
     clear F ac
     intro ac F
     refine Y.pval F (X.w0 rfl) rfl (X.move rfl (F.ev 8 (Vi y))) ?_
     clear F ac
     intro ac F
     refine Y.pval F (X.w0 rfl) rfl (X.move rfl (F.ev 1 (Vi sn))) ?_
     clear F ac
     intro ac F
     refine Y.pval F (X.w0 rfl) rfl (X.binop rfl (F.ev 57 (Vi y)) (F.ev 58 (Vi sn)) (X.addI Try.underlying3 rfl (by omega) (by omega))) ?_
     clear F ac
     intro ac F
     refine Y.pval F (X.w0 rfl) rfl (Y.min2 rfl (F.ev 56 (Vi tn)) (F.ev 59 (Vi ((y : Int) + sn)))) ?_
     clear F ac
     intro ac F
     refine Y.pval F (X.w0 rfl) rfl (X.assign rfl (F.ev 60 (Vi (min (tn : Int) ((y : Int) + sn : Int))))) ?_
     clear F ac
     intro ac F
     refine Y.nil ?_
     replace F : Fr ac 115 [(0, .agg #[Vi gq, Vi aw, Vi za, Vi pn, Vi qn]), (1, Vi sn), (2, Vi tn), (3, Vp w.heap.size), (6, .slice none 0 0), (7, .slice (some ⟨tb, 0, none⟩) (tn + 1) (tn + 1)), (8, Vi y), (9, Vi x), (10, Vi v), (11, Vp w12.heap.size), (12, Vi (min (tn : Int) ((y : Int) + sn : Int))), (20, .bool true), (38, .bool true), (55, .bool true)] := F.sub _
     refine X.thenN ?_
     refine Y.seq ?_
     refine Y.lit (by kernel_rfl) ?_
     refine Y.pval F (X.w0 rfl) rfl (X.move rfl (F.ev 12 (Vi (min (tn : Int) ((y : Int) + sn : Int))))) ?_
     clear F ac
     intro ac F
     refine Y.pval F (X.w0 rfl) rfl (X.move rfl (F.ev 8 (Vi y))) ?_
     clear F ac
     intro ac F
     refine Y.pval F (X.w0 rfl) rfl (X.binop rfl (F.ev 61 (Vi (min (tn : Int) ((y : Int) + sn : Int)))) (F.ev 62 (Vi y)) (X.subI Try.underlying3 rfl (by omega) (by omega))) ?_
     clear F ac
     intro ac F
     refine Y.pval F (X.w0 rfl) rfl (X.move rfl (F.ev 8 (Vi y))) ?_
     clear F ac
     intro ac F
     refine Y.pval F (X.w0 rfl) rfl (X.bs rfl (X.b1 (F.ev 64 (Vi y))) (Try.bs34_1 y _)) ?_
     clear F ac
     intro ac F
     have hq32 : w.heap.size < w21.heap.size := lt_cell (hC.at 0 rfl)
     have hq33 : tb < w21.heap.size := lt_cell (hC.at 5 rfl)
     have hq34 : rb13 < w21.heap.size := lt_cell (hC.at 7 rfl)
     have hq35 : tb < w21.heap.size := hT.lt
     have hq36 : rb < w21.heap.size := hR.lt
     have hq37 : H ≤ w21.heap.size := hBw
     have hq38 : w12.heap.size < w21.heap.size := hV14.lt
     have g := Gr.alloc w21 (.cells #[Vi y] 3)
     have hb := heap_alloc_new w21 (.cells #[Vi y] 3)
     have hbl : w21.heap.size < (w21.alloc (.cells #[Vi y] 3)).heap.size := by simp
     generalize w21.alloc (.cells #[Vi y] 3) = w39 at *
     replace G := G.trans g
     replace hC := hC.gr g
     replace hT := hT.gr g
     replace hR := hR.gr g
     replace hBw := hBw.gr g
     replace hxi := hxi.gr g
     replace hV14 := hV14.gr g
     have hO := ownR_one (B := H) hb (by omega)
     clear g hb hbl
     have hgH : H ≤ w21.heap.size := by omega
     refine Y.pval F (X.w0 rfl) rfl (Y.bd rfl (Y.bd2 (F.ev 63 (Vi (((min (tn : Int) ((y : Int) + sn : Int)) : Int) - y))) (F.ev 65 (.slice (some ⟨w21.heap.size, 0, none⟩) 1 1))) (Try.bd86 _ _ _ _ _)) ?_
     clear F ac
     intro ac F
     refine Y.pval F (X.w0 rfl) rfl (Y.al rfl (Try.new86 _)) ?_
     clear F ac
     intro ac F
     refine Y.punit F (X.w0 rfl) rfl (X.store rfl (F.ev 13 (Vp w39.heap.size)) (F.ev 66 (.agg #[Vi (((min (tn : Int) ((y : Int) + sn : Int)) : Int) - y), .slice (some ⟨w21.heap.size, 0, none⟩) 1 1])) (Y.stNew [Vi (((min (tn : Int) ((y : Int) + sn : Int)) : Int) - y), .slice (some ⟨w21.heap.size, 0, none⟩) 1 1] [Vi 0, .slice none 0 0] (Try.siz86 _) rfl rfl)) ?_
     clear F ac
     intro ac F
     have hq41 : w.heap.size < w39.heap.size := lt_cell (hC.at 0 rfl)
     have hq42 : tb < w39.heap.size := lt_cell (hC.at 5 rfl)
     have hq43 : rb13 < w39.heap.size := lt_cell (hC.at 7 rfl)
     have hq44 : tb < w39.heap.size := hT.lt
     have hq45 : rb < w39.heap.size := hR.lt
     have hq46 : H ≤ w39.heap.size := hBw
     have hq47 : w12.heap.size < w39.heap.size := hV14.lt
     have hq48 : w21.heap.size < w39.heap.size := (hO.ge rfl).2
     have g := Gr.alloc w39 (.cells #[Vi (((min (tn : Int) ((y : Int) + sn : Int)) : Int) - y), .slice (some ⟨w21.heap.size, 0, none⟩) 1 1] 86)
     have hb := heap_alloc_new w39 (.cells #[Vi (((min (tn : Int) ((y : Int) + sn : Int)) : Int) - y), .slice (some ⟨w21.heap.size, 0, none⟩) 1 1] 86)
     have hbl : w39.heap.size < (w39.alloc (.cells #[Vi (((min (tn : Int) ((y : Int) + sn : Int)) : Int) - y), .slice (some ⟨w21.heap.size, 0, none⟩) 1 1] 86)).heap.size := by simp
     generalize w39.alloc (.cells #[Vi (((min (tn : Int) ((y : Int) + sn : Int)) : Int) - y), .slice (some ⟨w21.heap.size, 0, none⟩) 1 1] 86) = w49 at *
     replace G := G.trans g
     replace hC := hC.gr g
     replace hT := hT.gr g
     replace hR := hR.gr g
     replace hBw := hBw.gr g
     replace hxi := hxi.gr g
     replace hV14 := hV14.gr g
     replace hO := hO.gr g
     have hV40 := ownP_2 hb
     clear g hb hbl
     have hwbhV40 : w.heap.size ≤ w39.heap.size := by omega
     refine Y.nil ?_
     replace F : Fr ac 115 [(0, .agg #[Vi gq, Vi aw, Vi za, Vi pn, Vi qn]), (1, Vi sn), (2, Vi tn), (3, Vp w.heap.size), (6, .slice none 0 0), (7, .slice (some ⟨tb, 0, none⟩) (tn + 1) (tn + 1)), (8, Vi y), (9, Vi x), (10, Vi v), (11, Vp w12.heap.size), (12, Vi (min (tn : Int) ((y : Int) + sn : Int))), (13, Vp w39.heap.size), (20, .bool true), (38, .bool true), (55, .bool true)] := F.sub _
     refine X.thenN ?_
     refine Y.seq ?_
     refine Y.seq ?_
     refine Y.lit (by kernel_rfl) ?_
     refine Y.pval F (X.w0 rfl) rfl (X.move rfl (F.ev 8 (Vi y))) ?_
     clear F ac
     intro ac F
     refine Y.pval F (X.w0 rfl) rfl (X.move rfl (F.ev 1 (Vi sn))) ?_
     clear F ac
     intro ac F
     refine Y.pval F (X.w0 rfl) rfl (X.binop rfl (F.ev 67 (Vi y)) (F.ev 68 (Vi sn)) (X.addI Try.underlying3 rfl (by omega) (by omega))) ?_
     clear F ac
     intro ac F
     refine Y.pval F (X.w0 rfl) rfl (X.binop rfl (F.ev 69 (Vi ((y : Int) + sn))) (X.kc (Vi 1) rfl) (X.addI Try.underlying3 rfl (by omega) (by omega))) ?_
     clear F ac
     intro ac F
     refine Y.pval F (X.w0 rfl) rfl (X.move rfl (F.ev 2 (Vi tn))) ?_
     clear F ac
     intro ac F
     refine Y.pval F (X.w0 rfl) rfl (X.binop rfl (F.ev 70 (Vi (((y : Int) + sn : Int) + 1))) (F.ev 71 (Vi tn)) (X.leqI Try.underlying3 rfl)) ?_
     clear F ac
     intro ac F
     refine Y.nil ?_
     replace F : Fr ac 115 [(0, .agg #[Vi gq, Vi aw, Vi za, Vi pn, Vi qn]), (1, Vi sn), (2, Vi tn), (3, Vp w.heap.size), (6, .slice none 0 0), (7, .slice (some ⟨tb, 0, none⟩) (tn + 1) (tn + 1)), (8, Vi y), (9, Vi x), (10, Vi v), (11, Vp w12.heap.size), (12, Vi (min (tn : Int) ((y : Int) + sn : Int))), (13, Vp w39.heap.size), (20, .bool true), (38, .bool true), (55, .bool true), (72, .bool (decide ((((y : Int) + sn : Int) + 1 : Int) ≤ tn)))] := F.sub _
     refine X.thenN ?_
     cases h50 : decide ((((y : Int) + sn : Int) + 1 : Int) ≤ tn) with
     | false =>
      try rw [h50] at F
      have h50p : ¬ ((((y : Int) + sn : Int) + 1 : Int) ≤ tn) := of_decide_eq_false h50
      refine Y.condF (F.ev 72 (.bool false)) ?_
      refine Y.skip ?_
      refine X.thenN ?_
      refine Y.seq ?_
      have hwk0 := wk_near (p := (onP pn qn sn tn)) (t := (y : Int)) (x := (x : Int)) hpk rfl rfl (by omega) (by show (y : Int) < (tn : Int); omega) (by show ¬ (y : Int) + (sn : Int) + 1 ≤ (tn : Int); omega)
      have hwo : wkO (onP pn qn sn tn) y x = (((min (tn : Int) ((y : Int) + sn : Int)) : Int) - y, ((1 : Nat) : Int)) := hwk0.1
      have hwf : (y : Int) + 1 + (wkN (onP pn qn sn tn) y : Int) = (tn : Int) := hwk0.2
      have hyI := hO.intsL rfl (by decide)
      have hyIb : ∀ ad, some (⟨w21.heap.size, 0, none⟩ : Addr) = some ad → ad.block = w21.heap.size := fun ad e => by injection e with e; subst e; rfl
      clear hO
      refine Y.lit (by kernel_rfl) ?_
      replace hC : RCells w49 [(Ad w.heap.size 0, Vi gq), (Ad w.heap.size 1, Vi aw), (Ad w.heap.size 2, Vi za), (Ad w.heap.size 3, Vi pn), (Ad w.heap.size 4, Vi qn), (⟨tb, y, none⟩, .slice (some ⟨rb, 0, none⟩) (pn + 1) (pn + 1)), (⟨tb, (y + 1), none⟩, .slice (some ⟨rb13, 0, none⟩) (pn + 1) (pn + 1)), (⟨rb13, v * 2, none⟩, Vi ((bestV (onP pn qn sn tn) ((y : Int) + 1) v).1)), (⟨rb13, v * 2 + 1, none⟩, .slice xa fn xc), (Ad w39.heap.size 0, Vi (((min (tn : Int) ((y : Int) + sn : Int)) : Int) - y))] := hC.append ((RCells.cons (hV40.cell (k := 0) (by decide)) (RCells.nil _)))
      replace hC : RCells w49 [(Ad w.heap.size 0, Vi gq), (Ad w.heap.size 1, Vi aw), (Ad w.heap.size 2, Vi za), (Ad w.heap.size 3, Vi pn), (Ad w.heap.size 4, Vi qn), (⟨tb, y, none⟩, .slice (some ⟨rb, 0, none⟩) (pn + 1) (pn + 1)), (⟨tb, (y + 1), none⟩, .slice (some ⟨rb13, 0, none⟩) (pn + 1) (pn + 1)), (⟨rb13, v * 2, none⟩, Vi ((bestV (onP pn qn sn tn) ((y : Int) + 1) v).1)), (⟨rb13, v * 2 + 1, none⟩, .slice xa fn xc), (Ad w39.heap.size 0, Vi (((min (tn : Int) ((y : Int) + sn : Int)) : Int) - y)), (Ad w39.heap.size 1, .slice (some ⟨w21.heap.size, 0, none⟩) 1 1)] := hC.append ((RCells.cons (hV40.cell (k := 1) (by decide)) (RCells.nil _)))
      refine Y.pval F (X.w0 rfl) rfl (X.load rfl (F.ev 13 (Vp w39.heap.size)) (X.ldN (Try.agg86 _) (Try.siz86 _) (Y.atz (⟨w39.heap.size, 0, none⟩) (Y.AtFrom.cons (hC.at 9 rfl) (Y.AtFrom.cons (hC.at 10 rfl) (Y.AtFrom.nil _ _ _)))))) ?_
      clear F ac
      intro ac F
      replace hC : RCells w49 [(Ad w.heap.size 0, Vi gq), (Ad w.heap.size 1, Vi aw), (Ad w.heap.size 2, Vi za), (Ad w.heap.size 3, Vi pn), (Ad w.heap.size 4, Vi qn), (⟨tb, y, none⟩, .slice (some ⟨rb, 0, none⟩) (pn + 1) (pn + 1)), (⟨tb, (y + 1), none⟩, .slice (some ⟨rb13, 0, none⟩) (pn + 1) (pn + 1)), (⟨rb13, v * 2, none⟩, Vi ((bestV (onP pn qn sn tn) ((y : Int) + 1) v).1)), (⟨rb13, v * 2 + 1, none⟩, .slice xa fn xc), (Ad w39.heap.size 0, Vi (((min (tn : Int) ((y : Int) + sn : Int)) : Int) - y)), (Ad w39.heap.size 1, .slice (some ⟨w21.heap.size, 0, none⟩) 1 1), (Ad w12.heap.size 0, Vi ((bestV (onP pn qn sn tn) ((y : Int) + 1) v).1))] := hC.append ((RCells.cons (hV14.cell (k := 0) (by decide)) (RCells.nil _)))
      replace hC : RCells w49 [(Ad w.heap.size 0, Vi gq), (Ad w.heap.size 1, Vi aw), (Ad w.heap.size 2, Vi za), (Ad w.heap.size 3, Vi pn), (Ad w.heap.size 4, Vi qn), (⟨tb, y, none⟩, .slice (some ⟨rb, 0, none⟩) (pn + 1) (pn + 1)), (⟨tb, (y + 1), none⟩, .slice (some ⟨rb13, 0, none⟩) (pn + 1) (pn + 1)), (⟨rb13, v * 2, none⟩, Vi ((bestV (onP pn qn sn tn) ((y : Int) + 1) v).1)), (⟨rb13, v * 2 + 1, none⟩, .slice xa fn xc), (Ad w39.heap.size 0, Vi (((min (tn : Int) ((y : Int) + sn : Int)) : Int) - y)), (Ad w39.heap.size 1, .slice (some ⟨w21.heap.size, 0, none⟩) 1 1), (Ad w12.heap.size 0, Vi ((bestV (onP pn qn sn tn) ((y : Int) + 1) v).1)), (Ad w12.heap.size 1, .slice xa fn xc)] := hC.append ((RCells.cons (hV14.cell (k := 1) (by decide)) (RCells.nil _)))
      refine Y.pval F (X.w0 rfl) rfl (X.load rfl (F.ev 11 (Vp w12.heap.size)) (X.ldN (Try.agg86 _) (Try.siz86 _) (Y.atz (⟨w12.heap.size, 0, none⟩) (Y.AtFrom.cons (hC.at 11 rfl) (Y.AtFrom.cons (hC.at 12 rfl) (Y.AtFrom.nil _ _ _)))))) ?_
      clear F ac
      intro ac F
      refine Y.pcall F (X.w0 rfl) rfl (X.enter (F := 88) rfl (X.kc (.func (.func 88) #[] #[]) rfl) (X.a2 (F.ev 103 (.agg #[Vi (((min (tn : Int) ((y : Int) + sn : Int)) : Int) - y), .slice (some ⟨w21.heap.size, 0, none⟩) 1 1])) (F.ev 104 (.agg #[Vi ((bestV (onP pn qn sn tn) ((y : Int) + 1) v).1), .slice xa fn xc]))) (enters_of Try.func88 (by kernel_rfl) rfl _)) (better_use (((min (tn : Int) ((y : Int) + sn : Int)) : Int) - y) ((bestV (onP pn qn sn tn) ((y : Int) + 1) v).1) (some ⟨w21.heap.size, 0, none⟩) xa 1 1 fn xc ([(y : Int)]) (noiV (onP pn qn sn tn) ((y : Int) + 1) v) (onP pn qn sn tn) (y : Int) (x : Int) w49 hyI hxi hpk (by omega) (by show (y : Int) < (tn : Int); omega) (by rw [hrv]; omega) (by omega) (by show (x : Int) ≤ (pn : Int); omega) hwo rfl (by omega) (by rw [hrv]) rfl (by rw [hrv])) ?_
      clear F ac
      rintro e w51 ⟨rfl, g⟩
      refine ⟨_, rfl, ?_⟩
      intro ac F
      replace G := G.trans g
      replace hC := hC.gr g
      replace hT := hT.gr g
      replace hR := hR.gr g
      replace hBw := hBw.gr g
      replace hxi := hxi.gr g
      replace hV14 := hV14.gr g
      replace hV40 := hV40.gr g
      replace hyI := hyI.gr g
      clear g
      refine Y.nil ?_
      replace F : Fr ac 115 [(0, .agg #[Vi gq, Vi aw, Vi za, Vi pn, Vi qn]), (1, Vi sn), (2, Vi tn), (3, Vp w.heap.size), (6, .slice none 0 0), (7, .slice (some ⟨tb, 0, none⟩) (tn + 1) (tn + 1)), (8, Vi y), (9, Vi x), (10, Vi v), (11, Vp w12.heap.size), (12, Vi (min (tn : Int) ((y : Int) + sn : Int))), (13, Vp w39.heap.size), (20, .bool true), (38, .bool true), (55, .bool true), (72, .bool false), (105, .bool (takeB (onP pn qn sn tn) y x))] := F.sub _
      refine X.thenN ?_
      cases h52 : takeB (onP pn qn sn tn) y x with
      | false =>
       try rw [h52] at F
       refine Y.condF (F.ev 105 (.bool false)) ?_
       refine Y.skip ?_
       refine X.thenN ?_
       have hq53 : w.heap.size < w51.heap.size := lt_cell (hC.at 0 rfl)
       have hq54 : tb < w51.heap.size := lt_cell (hC.at 5 rfl)
       have hq55 : rb13 < w51.heap.size := lt_cell (hC.at 7 rfl)
       have hq56 : w39.heap.size < w51.heap.size := lt_cell (hC.at 9 rfl)
       have hq57 : w12.heap.size < w51.heap.size := lt_cell (hC.at 11 rfl)
       have hq58 : tb < w51.heap.size := hT.lt
       have hq59 : rb < w51.heap.size := hR.lt
       have hq60 : H ≤ w51.heap.size := hBw
       have hq61 : w12.heap.size < w51.heap.size := hV14.lt
       have hq62 : w39.heap.size < w51.heap.size := hV40.lt
       have hA : ((bestV (onP pn qn sn tn) ((y : Int) + 1) v).1 : Int) = (bestV (onP pn qn sn tn) y x).1 := by rw [best_skip (by show (y : Int) < (tn : Int); omega) (by rw [hrv]; omega) h52]; unfold stO; rw [hrv]; simp only [add2]; show _ = _ + (0 : Int); omega
       have hL : (noiV (onP pn qn sn tn) ((y : Int) + 1) v) = noiV (onP pn qn sn tn) y x := by rw [noi_skip (by show (y : Int) < (tn : Int); omega) (by rw [hrv]; omega) h52, hrv]
       replace hR := hR.up hBw
       have hlb : ∀ ad : Addr, (xa : Option Addr) = some ad → w.heap.size ≤ ad.block ∧ ad.block < w51.heap.size ∧ ¬ ad.block = tb ∧ ¬ ad.block = rb := fun ad e => by have := hxib ad e; omega
       refine Y.regionS F [some (.slice (some ⟨tb, 0, none⟩) (tn + 1) (tn + 1)), some (Vi y), some (.pointer (some ⟨tb, y, none⟩)), some (.slice (some ⟨rb, 0, none⟩) (pn + 1) (pn + 1)), some (Vi x), some (.agg #[Vi ((bestV (onP pn qn sn tn) ((y : Int) + 1) v).1), .slice xa fn xc]), some (.pointer (some ⟨rb, x * 2, none⟩)), none] [] 7 (fun _ W => Only (fun z => z = rb) w51 W ∧ RowM W (onP pn qn sn tn) (pn + 1) w.heap.size tb w51.heap.size rb y (x + 1)) rfl ⟨by kernel_rfl, of_decide_eq_true (by kernel_rfl), by kernel_rfl, by kernel_rfl, by kernel_rfl⟩ (of_decide_eq_true (by kernel_rfl)) ⟨?_, ?_, ?_, ?_, ?_, ?_, ?_, ?_, trivial⟩ ?_
       ·intro ac done u W Sx hT_
        have hs := Sx.no 7 (by kernel_rfl)
        have hR_ := hT_.1 hs
        exact X.val (X.w0 rfl) rfl (X.move rfl (Sx.ev 7 (.slice (some ⟨tb, 0, none⟩) (tn + 1) (tn + 1)))) (Y.RT.of hs rfl (hR_.step (Gr.refl _) rfl))
       ·intro ac done u W Sx hT_
        have hs := Sx.no 7 (by kernel_rfl)
        have hR_ := hT_.1 hs
        exact X.val (X.w0 rfl) rfl (X.move rfl (Sx.ev 8 (Vi y))) (Y.RT.of hs rfl (hR_.step (Gr.refl _) rfl))
       ·intro ac done u W Sx hT_
        have hs := Sx.no 7 (by kernel_rfl)
        have hR_ := hT_.1 hs
        exact X.val (X.w0 rfl) rfl (X.index rfl (Sx.ev 107 (.slice (some ⟨tb, 0, none⟩) (tn + 1) (tn + 1))) (Sx.ev 108 (Vi y)) (X.idx (k := y) Try.underlying121 (Try.siz120 _) (by omega) (by omega) (addr_own _ _))) (Y.RT.of hs rfl (hR_.step (Gr.refl _) rfl))
       ·intro ac done u W Sx hT_
        have hs := Sx.no 7 (by kernel_rfl)
        have hR_ := hT_.1 hs
        have g : Gr w51 W := hR_.1
        exact X.val (X.w0 rfl) rfl (X.load rfl (Sx.ev 109 (.pointer (some ⟨tb, y, none⟩))) (X.ld1 (Try.agg120 _) ((hC.gr g).at 5 rfl))) (Y.RT.of hs rfl (hR_.step (Gr.refl _) rfl))
       ·intro ac done u W Sx hT_
        have hs := Sx.no 7 (by kernel_rfl)
        have hR_ := hT_.1 hs
        exact X.val (X.w0 rfl) rfl (X.move rfl (Sx.ev 9 (Vi x))) (Y.RT.of hs rfl (hR_.step (Gr.refl _) rfl))
       ·intro ac done u W Sx hT_
        have hs := Sx.no 7 (by kernel_rfl)
        have hR_ := hT_.1 hs
        have g : Gr w51 W := hR_.1
        exact X.val (X.w0 rfl) rfl (X.load rfl (Sx.ev 11 (Vp w12.heap.size)) (X.ldN (Try.agg86 _) (Try.siz86 _) (Y.atz (⟨w12.heap.size, 0, none⟩) (Y.AtFrom.cons ((hC.gr g).at 11 rfl) (Y.AtFrom.cons ((hC.gr g).at 12 rfl) (Y.AtFrom.nil _ _ _)))))) (Y.RT.of hs rfl (hR_.step (Gr.refl _) rfl))
       ·intro ac done u W Sx hT_
        have hs := Sx.no 7 (by kernel_rfl)
        have hR_ := hT_.1 hs
        exact X.val (X.w0 rfl) rfl (X.index rfl (Sx.ev 110 (.slice (some ⟨rb, 0, none⟩) (pn + 1) (pn + 1))) (Sx.ev 111 (Vi x)) (X.idx (k := x) Try.underlying120 (Try.siz86 _) (by omega) (by omega) (addr_add0 _ _))) (Y.RT.of hs rfl (hR_.step (Gr.refl _) rfl))
       ·intro ac done u W Sx hT_
        have hR_ := hT_.1 Sx.nd
        have g : Gr w51 W := hR_.1
        obtain ⟨W2, hrun, hR2, hon⟩ := (hR.gr g).put (by omega) hA hL (hxi.gr g).len.symm (hxi.gr g) hxn hlb
        exact X.unit (X.w0 rfl) rfl (X.store rfl (Sx.ev 113 (.pointer (some ⟨rb, x * 2, none⟩))) (Sx.ev 112 (.agg #[Vi ((bestV (onP pn qn sn tn) ((y : Int) + 1) v).1), .slice xa fn xc])) hrun) (Y.RT.fin ⟨(g.only _).trans hon, hR2⟩)
       rintro ac u w63 hs hd hl_ ho ⟨hon, hR2⟩
       replace F : Fr ac 115 [(0, .agg #[Vi gq, Vi aw, Vi za, Vi pn, Vi qn]), (1, Vi sn), (2, Vi tn), (3, Vp w.heap.size), (6, .slice none 0 0), (7, .slice (some ⟨tb, 0, none⟩) (tn + 1) (tn + 1)), (8, Vi y), (9, Vi x), (10, Vi v), (11, Vp w12.heap.size), (12, Vi (min (tn : Int) ((y : Int) + sn : Int))), (13, Vp w39.heap.size), (20, .bool true), (38, .bool true), (55, .bool true), (72, .bool false), (105, .bool false)] := X.fr hs hd hl_ _ (by kernel_rfl)
       clear hs hd hl_ ho hA hL hlb
       replace G := Y.Only.up G hon (by omega)
       replace hT := hT.only hon (by intro b_ h1_ h2_ e_; omega)
       replace hC := (hC.kc hon 0 rfl (hC.kc hon 1 rfl (hC.kc hon 2 rfl (hC.kc hon 3 rfl (hC.kc hon 4 rfl (hC.kc hon 5 rfl (RCells.nil _)))))))
       replace hR := hR2.up hon.size
       clear hR2 hon
       refine X.blockN ?_
       refine X.thenN ?_
       refine Y.lit (by kernel_rfl) ?_
       refine Y.pval F (X.w0 rfl) rfl (X.move rfl (F.ev 9 (Vi x))) ?_
       clear F ac
       intro ac F
       refine Y.pval F (X.w0 rfl) rfl (X.binop rfl (F.ev 39 (Vi x)) (X.kc (Vi 1) rfl) (X.addI Try.underlying3 rfl (by omega) (by omega))) ?_
       clear F ac
       intro ac F
       refine Y.pval F (X.w0 rfl) rfl (X.assign rfl (F.ev 40 (Vi ((x : Int) + 1)))) ?_
       clear F ac
       intro ac F
       refine Y.nil ?_
       replace F : Fr ac 115 [(0, .agg #[Vi gq, Vi aw, Vi za, Vi pn, Vi qn]), (1, Vi sn), (2, Vi tn), (3, Vp w.heap.size), (6, .slice none 0 0), (7, .slice (some ⟨tb, 0, none⟩) (tn + 1) (tn + 1)), (8, Vi y), (9, Vi ((x : Int) + 1)), (10, Vi v), (11, Vp w12.heap.size), (12, Vi (min (tn : Int) ((y : Int) + sn : Int))), (13, Vp w39.heap.size), (20, .bool true), (38, .bool true), (55, .bool true), (72, .bool false), (105, .bool false)] := F.sub _
       refine X.thenN ?_
       refine ⟨_, ?_, x + 1, rfl, by omega, G, hC, hT, hR, F.sub _⟩
       omega
      | true =>
       try rw [h52] at F
       refine Y.condT (F.ev 105 (.bool true)) ?_
       refine Y.lit (by kernel_rfl) ?_
       refine Y.pval F (X.w0 rfl) rfl (X.load rfl (F.ev 13 (Vp w39.heap.size)) (X.ldN (Try.agg86 _) (Try.siz86 _) (Y.atz (⟨w39.heap.size, 0, none⟩) (Y.AtFrom.cons (hC.at 9 rfl) (Y.AtFrom.cons (hC.at 10 rfl) (Y.AtFrom.nil _ _ _)))))) ?_
       clear F ac
       intro ac F
       obtain ⟨w64, hrun, hS2, hon⟩ := hV14.st2 (P := Try.prog) (t := 86) (x := Vi (((min (tn : Int) ((y : Int) + sn : Int)) : Int) - y)) (y := .slice (some ⟨w21.heap.size, 0, none⟩) 1 1) (fun W => Try.siz86 W) rfl rfl
       refine Y.punit F (X.w0 rfl) rfl (X.store rfl (F.ev 11 (Vp w12.heap.size)) (F.ev 106 (.agg #[Vi (((min (tn : Int) ((y : Int) + sn : Int)) : Int) - y), .slice (some ⟨w21.heap.size, 0, none⟩) 1 1])) hrun) ?_
       clear F ac hrun
       intro ac F
       replace G := Y.Only.up G hon (by omega)
       replace hT := hT.only hon (by intro b_ h1_ h2_ e_; omega)
       replace hR := hR.only hon (by show ¬ rb = w12.heap.size; omega) (by intro b_ h1_ h2_ h3_ e_; omega)
       replace hBw := hBw.only hon
       replace hxi := hxi.onlyAt hon (fun ad e h => by have := hxib ad e; omega)
       replace hV40 := hV40.only hon (by show ¬ w39.heap.size = w12.heap.size; omega)
       replace hyI := hyI.onlyAt hon (fun ad e h => by have := hyIb ad e; omega)
       replace hC := (hC.kc hon 0 rfl (hC.kc hon 1 rfl (hC.kc hon 2 rfl (hC.kc hon 3 rfl (hC.kc hon 4 rfl (hC.kc hon 5 rfl (RCells.nil _)))))))
       replace hV14 := hS2
       clear hS2 hon
       refine Y.nil ?_
       replace F : Fr ac 115 [(0, .agg #[Vi gq, Vi aw, Vi za, Vi pn, Vi qn]), (1, Vi sn), (2, Vi tn), (3, Vp w.heap.size), (6, .slice none 0 0), (7, .slice (some ⟨tb, 0, none⟩) (tn + 1) (tn + 1)), (8, Vi y), (9, Vi x), (10, Vi v), (11, Vp w12.heap.size), (12, Vi (min (tn : Int) ((y : Int) + sn : Int))), (13, Vp w39.heap.size), (20, .bool true), (38, .bool true), (55, .bool true), (72, .bool false), (105, .bool true)] := F.sub _
       refine X.thenN ?_
       replace hC : RCells w64 [(Ad w.heap.size 0, Vi gq), (Ad w.heap.size 1, Vi aw), (Ad w.heap.size 2, Vi za), (Ad w.heap.size 3, Vi pn), (Ad w.heap.size 4, Vi qn), (⟨tb, y, none⟩, .slice (some ⟨rb, 0, none⟩) (pn + 1) (pn + 1)), (Ad w12.heap.size 0, Vi (((min (tn : Int) ((y : Int) + sn : Int)) : Int) - y))] := hC.append ((RCells.cons (hV14.cell (k := 0) (by decide)) (RCells.nil _)))
       replace hC : RCells w64 [(Ad w.heap.size 0, Vi gq), (Ad w.heap.size 1, Vi aw), (Ad w.heap.size 2, Vi za), (Ad w.heap.size 3, Vi pn), (Ad w.heap.size 4, Vi qn), (⟨tb, y, none⟩, .slice (some ⟨rb, 0, none⟩) (pn + 1) (pn + 1)), (Ad w12.heap.size 0, Vi (((min (tn : Int) ((y : Int) + sn : Int)) : Int) - y)), (Ad w12.heap.size 1, .slice (some ⟨w21.heap.size, 0, none⟩) 1 1)] := hC.append ((RCells.cons (hV14.cell (k := 1) (by decide)) (RCells.nil _)))
       have hq65 : w.heap.size < w64.heap.size := lt_cell (hC.at 0 rfl)
       have hq66 : tb < w64.heap.size := lt_cell (hC.at 5 rfl)
       have hq67 : w12.heap.size < w64.heap.size := lt_cell (hC.at 6 rfl)
       have hq68 : tb < w64.heap.size := hT.lt
       have hq69 : rb < w64.heap.size := hR.lt
       have hq70 : H ≤ w64.heap.size := hBw
       have hq71 : w12.heap.size < w64.heap.size := hV14.lt
       have hq72 : w39.heap.size < w64.heap.size := hV40.lt
       have hA : (((min (tn : Int) ((y : Int) + sn : Int)) : Int) - y : Int) = (bestV (onP pn qn sn tn) y x).1 := by rw [best_take h52, hwo]
       have hL : [(y : Int)] = noiV (onP pn qn sn tn) y x := by rw [noi_take (by show (y : Int) < (tn : Int); omega) (by rw [hrv]; omega) h52, noi_done (by rw [hwf]; exact Int.le_refl _)]
       replace hR := hR.up hBw
       have hlb : ∀ ad : Addr, ((some ⟨w21.heap.size, 0, none⟩) : Option Addr) = some ad → w.heap.size ≤ ad.block ∧ ad.block < w64.heap.size ∧ ¬ ad.block = tb ∧ ¬ ad.block = rb := fun ad e => by have := hyIb ad e; omega
       refine Y.regionS F [some (.slice (some ⟨tb, 0, none⟩) (tn + 1) (tn + 1)), some (Vi y), some (.pointer (some ⟨tb, y, none⟩)), some (.slice (some ⟨rb, 0, none⟩) (pn + 1) (pn + 1)), some (Vi x), some (.agg #[Vi (((min (tn : Int) ((y : Int) + sn : Int)) : Int) - y), .slice (some ⟨w21.heap.size, 0, none⟩) 1 1]), some (.pointer (some ⟨rb, x * 2, none⟩)), none] [] 7 (fun _ W => Only (fun z => z = rb) w64 W ∧ RowM W (onP pn qn sn tn) (pn + 1) w.heap.size tb w64.heap.size rb y (x + 1)) rfl ⟨by kernel_rfl, of_decide_eq_true (by kernel_rfl), by kernel_rfl, by kernel_rfl, by kernel_rfl⟩ (of_decide_eq_true (by kernel_rfl)) ⟨?_, ?_, ?_, ?_, ?_, ?_, ?_, ?_, trivial⟩ ?_
       ·intro ac done u W Sx hT_
        have hs := Sx.no 7 (by kernel_rfl)
        have hR_ := hT_.1 hs
        exact X.val (X.w0 rfl) rfl (X.move rfl (Sx.ev 7 (.slice (some ⟨tb, 0, none⟩) (tn + 1) (tn + 1)))) (Y.RT.of hs rfl (hR_.step (Gr.refl _) rfl))
       ·intro ac done u W Sx hT_
        have hs := Sx.no 7 (by kernel_rfl)
        have hR_ := hT_.1 hs
        exact X.val (X.w0 rfl) rfl (X.move rfl (Sx.ev 8 (Vi y))) (Y.RT.of hs rfl (hR_.step (Gr.refl _) rfl))
       ·intro ac done u W Sx hT_
        have hs := Sx.no 7 (by kernel_rfl)
        have hR_ := hT_.1 hs
        exact X.val (X.w0 rfl) rfl (X.index rfl (Sx.ev 107 (.slice (some ⟨tb, 0, none⟩) (tn + 1) (tn + 1))) (Sx.ev 108 (Vi y)) (X.idx (k := y) Try.underlying121 (Try.siz120 _) (by omega) (by omega) (addr_own _ _))) (Y.RT.of hs rfl (hR_.step (Gr.refl _) rfl))
       ·intro ac done u W Sx hT_
        have hs := Sx.no 7 (by kernel_rfl)
        have hR_ := hT_.1 hs
        have g : Gr w64 W := hR_.1
        exact X.val (X.w0 rfl) rfl (X.load rfl (Sx.ev 109 (.pointer (some ⟨tb, y, none⟩))) (X.ld1 (Try.agg120 _) ((hC.gr g).at 5 rfl))) (Y.RT.of hs rfl (hR_.step (Gr.refl _) rfl))
       ·intro ac done u W Sx hT_
        have hs := Sx.no 7 (by kernel_rfl)
        have hR_ := hT_.1 hs
        exact X.val (X.w0 rfl) rfl (X.move rfl (Sx.ev 9 (Vi x))) (Y.RT.of hs rfl (hR_.step (Gr.refl _) rfl))
       ·intro ac done u W Sx hT_
        have hs := Sx.no 7 (by kernel_rfl)
        have hR_ := hT_.1 hs
        have g : Gr w64 W := hR_.1
        exact X.val (X.w0 rfl) rfl (X.load rfl (Sx.ev 11 (Vp w12.heap.size)) (X.ldN (Try.agg86 _) (Try.siz86 _) (Y.atz (⟨w12.heap.size, 0, none⟩) (Y.AtFrom.cons ((hC.gr g).at 6 rfl) (Y.AtFrom.cons ((hC.gr g).at 7 rfl) (Y.AtFrom.nil _ _ _)))))) (Y.RT.of hs rfl (hR_.step (Gr.refl _) rfl))
       ·intro ac done u W Sx hT_
        have hs := Sx.no 7 (by kernel_rfl)
        have hR_ := hT_.1 hs
        exact X.val (X.w0 rfl) rfl (X.index rfl (Sx.ev 110 (.slice (some ⟨rb, 0, none⟩) (pn + 1) (pn + 1))) (Sx.ev 111 (Vi x)) (X.idx (k := x) Try.underlying120 (Try.siz86 _) (by omega) (by omega) (addr_add0 _ _))) (Y.RT.of hs rfl (hR_.step (Gr.refl _) rfl))
       ·intro ac done u W Sx hT_
        have hR_ := hT_.1 Sx.nd
        have g : Gr w64 W := hR_.1
        obtain ⟨W2, hrun, hR2, hon⟩ := (hR.gr g).put (by omega) hA hL (hyI.gr g).len.symm (hyI.gr g) (fun e => by cases e) hlb
        exact X.unit (X.w0 rfl) rfl (X.store rfl (Sx.ev 113 (.pointer (some ⟨rb, x * 2, none⟩))) (Sx.ev 112 (.agg #[Vi (((min (tn : Int) ((y : Int) + sn : Int)) : Int) - y), .slice (some ⟨w21.heap.size, 0, none⟩) 1 1])) hrun) (Y.RT.fin ⟨(g.only _).trans hon, hR2⟩)
       rintro ac u w73 hs hd hl_ ho ⟨hon, hR2⟩
       replace F : Fr ac 115 [(0, .agg #[Vi gq, Vi aw, Vi za, Vi pn, Vi qn]), (1, Vi sn), (2, Vi tn), (3, Vp w.heap.size), (6, .slice none 0 0), (7, .slice (some ⟨tb, 0, none⟩) (tn + 1) (tn + 1)), (8, Vi y), (9, Vi x), (10, Vi v), (11, Vp w12.heap.size), (12, Vi (min (tn : Int) ((y : Int) + sn : Int))), (13, Vp w39.heap.size), (20, .bool true), (38, .bool true), (55, .bool true), (72, .bool false), (105, .bool true)] := X.fr hs hd hl_ _ (by kernel_rfl)
       clear hs hd hl_ ho hA hL hlb
       replace G := Y.Only.up G hon (by omega)
       replace hT := hT.only hon (by intro b_ h1_ h2_ e_; omega)
       replace hC := (hC.kc hon 0 rfl (hC.kc hon 1 rfl (hC.kc hon 2 rfl (hC.kc hon 3 rfl (hC.kc hon 4 rfl (hC.kc hon 5 rfl (RCells.nil _)))))))
       replace hR := hR2.up hon.size
       clear hR2 hon
       refine X.blockN ?_
       refine X.thenN ?_
       refine Y.lit (by kernel_rfl) ?_
       refine Y.pval F (X.w0 rfl) rfl (X.move rfl (F.ev 9 (Vi x))) ?_
       clear F ac
       intro ac F
       refine Y.pval F (X.w0 rfl) rfl (X.binop rfl (F.ev 39 (Vi x)) (X.kc (Vi 1) rfl) (X.addI Try.underlying3 rfl (by omega) (by omega))) ?_
       clear F ac
       intro ac F
       refine Y.pval F (X.w0 rfl) rfl (X.assign rfl (F.ev 40 (Vi ((x : Int) + 1)))) ?_
       clear F ac
       intro ac F
       refine Y.nil ?_
       replace F : Fr ac 115 [(0, .agg #[Vi gq, Vi aw, Vi za, Vi pn, Vi qn]), (1, Vi sn), (2, Vi tn), (3, Vp w.heap.size), (6, .slice none 0 0), (7, .slice (some ⟨tb, 0, none⟩) (tn + 1) (tn + 1)), (8, Vi y), (9, Vi ((x : Int) + 1)), (10, Vi v), (11, Vp w12.heap.size), (12, Vi (min (tn : Int) ((y : Int) + sn : Int))), (13, Vp w39.heap.size), (20, .bool true), (38, .bool true), (55, .bool true), (72, .bool false), (105, .bool true)] := F.sub _
       refine X.thenN ?_
       refine ⟨_, ?_, x + 1, rfl, by omega, G, hC, hT, hR, F.sub _⟩
       omega
     | true =>
      try rw [h50] at F
      have h50p : ((((y : Int) + sn : Int) + 1 : Int) ≤ tn) := of_decide_eq_true h50
      refine Y.condT (F.ev 72 (.bool true)) ?_
      refine Y.seq ?_
      obtain ⟨rb74, hr74, hrl74, hrt74, hrr74⟩ := hT.row (t := (y + sn + 1)) (by omega) (by omega)
      replace hC : RCells w49 [(Ad w.heap.size 0, Vi gq), (Ad w.heap.size 1, Vi aw), (Ad w.heap.size 2, Vi za), (Ad w.heap.size 3, Vi pn), (Ad w.heap.size 4, Vi qn), (⟨tb, y, none⟩, .slice (some ⟨rb, 0, none⟩) (pn + 1) (pn + 1)), (⟨tb, (y + 1), none⟩, .slice (some ⟨rb13, 0, none⟩) (pn + 1) (pn + 1)), (⟨rb13, v * 2, none⟩, Vi ((bestV (onP pn qn sn tn) ((y : Int) + 1) v).1)), (⟨rb13, v * 2 + 1, none⟩, .slice xa fn xc), (⟨tb, (y + sn + 1), none⟩, .slice (some ⟨rb74, 0, none⟩) (pn + 1) (pn + 1))] := hC.append ((RCells.cons hr74 (RCells.nil _)))
      obtain ⟨ya, yc, hyc0, hyc1, hyi, hyn, hyib⟩ := hrr74.cells (k := q) (by omega)
      rw [show ((y + sn + 1 : Nat) : Int) = ((y : Int) + sn + 1) by omega] at hyc0 hyc1 hyi
      have hyl0 : (noiV (onP pn qn sn tn) ((y : Int) + sn + 1) q).length = (noiV (onP pn qn sn tn) ((y : Int) + sn + 1) q).length := rfl
      obtain ⟨cn, hyl⟩ : ∃ z, (noiV (onP pn qn sn tn) ((y : Int) + sn + 1) q).length = z := ⟨_, rfl⟩
      rw [show (noiV (onP pn qn sn tn) ((y : Int) + sn + 1) q).length = cn from hyl] at hyc1 hyi
      clear hyl0
      have hybb := bestV_bd hpk (t := ((y : Int) + sn + 1)) (x := (q : Int)) (by omega) (by omega) (by show (q : Int) ≤ (pn : Int); omega)
      have hyle : cn ≤ 1001 := by
       have h9 := best_len hpk ((tn : Int) - ((y : Int) + sn + 1)).toNat ((y : Int) + sn + 1) q (by omega) (by show (tn : Int) - ((y : Int) + sn + 1) = _; omega) (by omega) (by show (q : Int) ≤ (pn : Int); omega)
       rw [hyl] at h9
       omega
      replace hC : RCells w49 [(Ad w.heap.size 0, Vi gq), (Ad w.heap.size 1, Vi aw), (Ad w.heap.size 2, Vi za), (Ad w.heap.size 3, Vi pn), (Ad w.heap.size 4, Vi qn), (⟨tb, y, none⟩, .slice (some ⟨rb, 0, none⟩) (pn + 1) (pn + 1)), (⟨tb, (y + 1), none⟩, .slice (some ⟨rb13, 0, none⟩) (pn + 1) (pn + 1)), (⟨rb13, v * 2, none⟩, Vi ((bestV (onP pn qn sn tn) ((y : Int) + 1) v).1)), (⟨rb13, v * 2 + 1, none⟩, .slice xa fn xc), (⟨tb, (y + sn + 1), none⟩, .slice (some ⟨rb74, 0, none⟩) (pn + 1) (pn + 1)), (⟨rb74, q * 2, none⟩, Vi ((bestV (onP pn qn sn tn) ((y : Int) + sn + 1) q).1)), (⟨rb74, q * 2 + 1, none⟩, .slice ya cn yc)] := hC.append ((RCells.cons hyc0 (RCells.cons hyc1 (RCells.nil _))))
      have hq75 : w.heap.size < w49.heap.size := lt_cell (hC.at 0 rfl)
      have hq76 : tb < w49.heap.size := lt_cell (hC.at 5 rfl)
      have hq77 : rb13 < w49.heap.size := lt_cell (hC.at 7 rfl)
      have hq78 : rb74 < w49.heap.size := lt_cell (hC.at 10 rfl)
      have hq79 : tb < w49.heap.size := hT.lt
      have hq80 : rb < w49.heap.size := hR.lt
      have hq81 : H ≤ w49.heap.size := hBw
      have hq82 : w12.heap.size < w49.heap.size := hV14.lt
      have hq83 : w21.heap.size < w49.heap.size := (hO.ge rfl).2
      have hq84 : w39.heap.size < w49.heap.size := hV40.lt
      refine region_xi F [some (.slice (some ⟨tb, 0, none⟩) (tn + 1) (tn + 1)), some (Vi y), some (Vi sn), some (Vi ((y : Int) + sn)), some (Vi (((y : Int) + sn : Int) + 1)), some (.pointer (some ⟨tb, (y + sn + 1), none⟩)), some (.slice (some ⟨rb74, 0, none⟩) (pn + 1) (pn + 1)), some (.agg #[Vi gq, Vi aw, Vi za, Vi pn, Vi qn]), some (Vi v), some (Vi ((v : Int) - 1)), some (Vi y), some (Vi ((y : Int) + 1)), some (Vi y), some (Vi sn), some (Vi ((y : Int) + sn)), some (Vi q), some (.pointer (some ⟨rb74, q * 2, none⟩)), some (.agg #[Vi ((bestV (onP pn qn sn tn) ((y : Int) + sn + 1) q).1), .slice ya cn yc]), none, none] (RTk w49 (fun _ => False) (fun _ => True) 18 19 (VL [Vi 0, .slice none 0 0]) (VL [Vi ((bestV (onP pn qn sn tn) ((y : Int) + sn + 1) q).1), .slice ya cn yc])) rfl ⟨by kernel_rfl, of_decide_eq_true (by kernel_rfl), by kernel_rfl, by kernel_rfl, by kernel_rfl⟩ (fun _ => ⟨RTk.start (Gr.refl _) trivial, RTk.start (Gr.drew _) trivial⟩) ⟨?_, ?_, ?_, ?_, ?_, ?_, ?_, ?_, ?_, ?_, ?_, ?_, ?_, ?_, ?_, ?_, ?_, ?_, ?_, ?_, trivial⟩ ?_
      ·intro ac done u W Sx hR_
       exact X.val (X.w0 rfl) rfl (X.move rfl (Sx.ev 7 (.slice (some ⟨tb, 0, none⟩) (tn + 1) (tn + 1)))) (hR_.quiet (by decide))
      ·intro ac done u W Sx hR_
       exact X.val (X.w0 rfl) rfl (X.move rfl (Sx.ev 8 (Vi y))) (hR_.quiet (by decide))
      ·intro ac done u W Sx hR_
       exact X.val (X.w0 rfl) rfl (X.move rfl (Sx.ev 1 (Vi sn))) (hR_.quiet (by decide))
      ·intro ac done u W Sx hR_
       exact X.val (X.w0 rfl) rfl (X.binop rfl (Sx.ev 74 (Vi y)) (Sx.ev 75 (Vi sn)) (X.addI Try.underlying3 rfl (by omega) (by omega))) (hR_.quiet (by decide))
      ·intro ac done u W Sx hR_
       exact X.val (X.w0 rfl) rfl (X.binop rfl (Sx.ev 76 (Vi ((y : Int) + sn))) (X.kc (Vi 1) rfl) (X.addI Try.underlying3 rfl (by omega) (by omega))) (hR_.quiet (by decide))
      ·intro ac done u W Sx hR_
       exact X.val (X.w0 rfl) rfl (X.index rfl (Sx.ev 73 (.slice (some ⟨tb, 0, none⟩) (tn + 1) (tn + 1))) (Sx.ev 77 (Vi (((y : Int) + sn : Int) + 1))) (X.idx (k := (y + sn + 1)) Try.underlying121 (Try.siz120 _) (by omega) (by omega) (addr_own _ _))) (hR_.quiet (by decide))
      ·intro ac done u W Sx hR_
       exact X.val (X.w0 rfl) rfl (X.load rfl (Sx.ev 78 (.pointer (some ⟨tb, (y + sn + 1), none⟩))) (X.ld1 (Try.agg120 _) (hR_.o.cell (hC.at 9 rfl) (fun h => h)))) (hR_.quiet (by decide))
      ·intro ac done u W Sx hR_
       exact X.val (X.w0 rfl) rfl (X.load rfl (Sx.ev 3 (Vp w.heap.size)) (X.ldN (Try.agg31 _) (Try.siz31 _) (Y.atz (⟨w.heap.size, 0, none⟩) (Y.AtFrom.cons (hR_.o.cell (hC.at 0 rfl) (fun h => h)) (Y.AtFrom.cons (hR_.o.cell (hC.at 1 rfl) (fun h => h)) (Y.AtFrom.cons (hR_.o.cell (hC.at 2 rfl) (fun h => h)) (Y.AtFrom.cons (hR_.o.cell (hC.at 3 rfl) (fun h => h)) (Y.AtFrom.cons (hR_.o.cell (hC.at 4 rfl) (fun h => h)) (Y.AtFrom.nil _ _ _))))))))) (hR_.quiet (by decide))
      ·intro ac done u W Sx hR_
       exact X.val (X.w0 rfl) rfl (X.move rfl (Sx.ev 10 (Vi v))) (hR_.quiet (by decide))
      ·intro ac done u W Sx hR_
       exact X.val (X.w0 rfl) rfl (X.binop rfl (Sx.ev 81 (Vi v)) (X.kc (Vi 1) rfl) (X.subI Try.underlying3 rfl (by omega) (by omega))) (hR_.quiet (by decide))
      ·intro ac done u W Sx hR_
       exact X.val (X.w0 rfl) rfl (X.move rfl (Sx.ev 8 (Vi y))) (hR_.quiet (by decide))
      ·intro ac done u W Sx hR_
       exact X.val (X.w0 rfl) rfl (X.binop rfl (Sx.ev 83 (Vi y)) (X.kc (Vi 1) rfl) (X.addI Try.underlying3 rfl (by omega) (by omega))) (hR_.quiet (by decide))
      ·intro ac done u W Sx hR_
       exact X.val (X.w0 rfl) rfl (X.move rfl (Sx.ev 8 (Vi y))) (hR_.quiet (by decide))
      ·intro ac done u W Sx hR_
       exact X.val (X.w0 rfl) rfl (X.move rfl (Sx.ev 1 (Vi sn))) (hR_.quiet (by decide))
      ·intro ac done u W Sx hR_
       exact X.val (X.w0 rfl) rfl (X.binop rfl (Sx.ev 85 (Vi y)) (Sx.ev 86 (Vi sn)) (X.addI Try.underlying3 rfl (by omega) (by omega))) (hR_.quiet (by decide))
      ·intro ac done u W Sx hR_
       refine X.call (X.w0 rfl) (X.enter (F := 87) rfl (X.kc (.func (.func 87) #[] #[]) rfl) (X.a4 (Sx.ev 80 (.agg #[Vi gq, Vi aw, Vi za, Vi pn, Vi qn])) (Sx.ev 82 (Vi ((v : Int) - 1))) (Sx.ev 84 (Vi ((y : Int) + 1))) (Sx.ev 87 (Vi ((y : Int) + sn)))) (enters_of Try.func87 (by kernel_rfl) rfl _)) (by have hq := gain_any gq aw za (onP pn qn sn tn) ((v : Int) - 1) ((y : Int) + 1) ((y : Int) + sn) sn W hpk ⟨by omega, by show (v : Int) - 1 ≤ (pn : Int); omega⟩ (by omega) (by omega) (by omega); rw [hgu] at hq; exact hq) ?_
       rintro e W2 ⟨rfl, g2⟩
       exact ⟨_, rfl, X.kn rfl, hR_.call (by decide) (fun b e => e.elim) (g2.only _) trivial⟩
      ·intro ac done u W Sx hR_
       exact X.val (X.w0 rfl) rfl (X.index rfl (Sx.ev 79 (.slice (some ⟨rb74, 0, none⟩) (pn + 1) (pn + 1))) (Sx.ev 88 (Vi q)) (X.idx (k := q) Try.underlying120 (Try.siz86 _) (by omega) (by omega) (addr_add0 _ _))) (hR_.quiet (by decide))
      ·intro ac done u W Sx hR_
       exact X.val (X.w0 rfl) rfl (X.load rfl (Sx.ev 89 (.pointer (some ⟨rb74, q * 2, none⟩))) (X.ldN (Try.agg86 _) (Try.siz86 _) (Y.atz (⟨rb74, q * 2, none⟩) (Y.AtFrom.cons (hR_.o.cell (hC.at 10 rfl) (fun h => h)) (Y.AtFrom.cons (hR_.o.cell (hC.at 11 rfl) (fun h => h)) (Y.AtFrom.nil _ _ _)))))) (hR_.quiet (by decide))
      ·intro ac done u W Sx hR_
       exact X.valN (X.w0 rfl) rfl (Y.al rfl (Try.new86 _)) (hR_.alloc (by decide) (Sx.no 19 (by kernel_rfl)) hR_.o.size (Gr.alloc _ _) trivial (ownP_2 (World.alloc_heap_new _ _)))
      ·intro ac done u W Sx hR_
       obtain ⟨b_, eb, hge, hz, -⟩ := hR_.q (Sx.an 18 (by kernel_rfl))
       obtain ⟨W2, hrun, hS2, hon⟩ := (hz Sx.nd).st2 (P := Try.prog) (t := 86) (x := Vi ((bestV (onP pn qn sn tn) ((y : Int) + sn + 1) q).1)) (y := .slice ya cn yc) (fun W => Try.siz86 W) rfl rfl
       exact X.unit (X.w0 rfl) rfl (X.store rfl ((Sx.own 18 14 rfl).trans eb) (Sx.ev 90 (.agg #[Vi ((bestV (onP pn qn sn tn) ((y : Int) + sn + 1) q).1), .slice ya cn yc])) hrun) (hR_.st (by decide) eb hge trivial hon hS2)
      rintro ac u w85 hs hd hl_ ho hR_
      replace F : Fr ac 115 [(0, .agg #[Vi gq, Vi aw, Vi za, Vi pn, Vi qn]), (1, Vi sn), (2, Vi tn), (3, Vp w.heap.size), (6, .slice none 0 0), (7, .slice (some ⟨tb, 0, none⟩) (tn + 1) (tn + 1)), (8, Vi y), (9, Vi x), (10, Vi v), (11, Vp w12.heap.size), (12, Vi (min (tn : Int) ((y : Int) + sn : Int))), (13, Vp w39.heap.size), (20, .bool true), (38, .bool true), (55, .bool true), (72, .bool true)] := X.fr hs hd hl_ _ (by kernel_rfl)
      obtain ⟨bk86, eb, hge86, -, hn_⟩ := hR_.q rfl
      have hV86 := hn_ rfl
      replace F := F.add (ho 18 14 rfl) eb
      replace F : Fr ac 115 [(0, .agg #[Vi gq, Vi aw, Vi za, Vi pn, Vi qn]), (1, Vi sn), (2, Vi tn), (3, Vp w.heap.size), (6, .slice none 0 0), (7, .slice (some ⟨tb, 0, none⟩) (tn + 1) (tn + 1)), (8, Vi y), (9, Vi x), (10, Vi v), (11, Vp w12.heap.size), (12, Vi (min (tn : Int) ((y : Int) + sn : Int))), (13, Vp w39.heap.size), (14, Vp bk86), (20, .bool true), (38, .bool true), (55, .bool true), (72, .bool true)] := F.sub _
      clear eb hn_
      have hon := hR_.o
      replace G := G.trans (hon.gr (fun i hi e => e))
      replace hT := hT.only hon (fun _ _ _ h => h)
      replace hR := hR.only hon (fun h => h) (fun _ _ _ _ h => h)
      replace hBw := hBw.only hon
      replace hxi := hxi.onlyAt hon (fun _ _ h => h)
      replace hV14 := hV14.only hon (fun h => h)
      replace hO := hO.only hon (fun _ _ h => h)
      replace hV40 := hV40.only hon (fun h => h)
      replace hyi := hyi.onlyAt hon (fun _ _ h => h)
      replace hC := (RCells.cons (hon.cell (hC.at 0 rfl) (fun h => h)) (RCells.cons (hon.cell (hC.at 1 rfl) (fun h => h)) (RCells.cons (hon.cell (hC.at 2 rfl) (fun h => h)) (RCells.cons (hon.cell (hC.at 3 rfl) (fun h => h)) (RCells.cons (hon.cell (hC.at 4 rfl) (fun h => h)) (RCells.cons (hon.cell (hC.at 5 rfl) (fun h => h)) (RCells.nil _)))))))
      clear hs hd hl_ ho hR_ hon
      refine X.thenN ?_
      refine Y.seq ?_
      refine Y.lit (by kernel_rfl) ?_
      refine Y.pval F (X.w0 rfl) rfl (X.field rfl (F.ev 13 (Vp w39.heap.size)) (X.fld Try.underlying86 rfl (Try.siz3 _) rfl rfl)) ?_
      clear F ac
      intro ac F
      replace hC : RCells w85 [(Ad w.heap.size 0, Vi gq), (Ad w.heap.size 1, Vi aw), (Ad w.heap.size 2, Vi za), (Ad w.heap.size 3, Vi pn), (Ad w.heap.size 4, Vi qn), (⟨tb, y, none⟩, .slice (some ⟨rb, 0, none⟩) (pn + 1) (pn + 1)), (Ad w39.heap.size 0, Vi (((min (tn : Int) ((y : Int) + sn : Int)) : Int) - y))] := hC.append ((RCells.cons (hV40.cell (k := 0) (by decide)) (RCells.nil _)))
      refine Y.pval F (X.w0 rfl) rfl (X.load rfl (F.ev 91 (Vp w39.heap.size)) (X.ld1 (Try.agg3 _) (hC.at 6 rfl))) ?_
      clear F ac
      intro ac F
      refine Y.pval F (X.w0 rfl) rfl (X.field rfl (F.ev 14 (Vp bk86)) (X.fld Try.underlying86 rfl (Try.siz3 _) rfl rfl)) ?_
      clear F ac
      intro ac F
      replace hC : RCells w85 [(Ad w.heap.size 0, Vi gq), (Ad w.heap.size 1, Vi aw), (Ad w.heap.size 2, Vi za), (Ad w.heap.size 3, Vi pn), (Ad w.heap.size 4, Vi qn), (⟨tb, y, none⟩, .slice (some ⟨rb, 0, none⟩) (pn + 1) (pn + 1)), (Ad w39.heap.size 0, Vi (((min (tn : Int) ((y : Int) + sn : Int)) : Int) - y)), (Ad bk86 0, Vi ((bestV (onP pn qn sn tn) ((y : Int) + sn + 1) q).1))] := hC.append ((RCells.cons (hV86.cell (k := 0) (by decide)) (RCells.nil _)))
      refine Y.pval F (X.w0 rfl) rfl (X.load rfl (F.ev 93 (Vp bk86)) (X.ld1 (Try.agg3 _) (hC.at 7 rfl))) ?_
      clear F ac
      intro ac F
      refine Y.pval F (X.w0 rfl) rfl (X.binop rfl (F.ev 92 (Vi (((min (tn : Int) ((y : Int) + sn : Int)) : Int) - y))) (F.ev 94 (Vi ((bestV (onP pn qn sn tn) ((y : Int) + sn + 1) q).1))) (X.addI Try.underlying3 rfl (by omega) (by omega))) ?_
      clear F ac
      intro ac F
      refine Y.pval F (X.w0 rfl) rfl (X.field rfl (F.ev 13 (Vp w39.heap.size)) (X.fld Try.underlying86 rfl (Try.siz3 _) rfl rfl)) ?_
      clear F ac
      intro ac F
      refine Y.punit F (X.w0 rfl) rfl (X.store rfl (F.ev 96 (Vp w39.heap.size)) (F.ev 95 (Vi ((((min (tn : Int) ((y : Int) + sn : Int)) : Int) - y : Int) + ((bestV (onP pn qn sn tn) ((y : Int) + sn + 1) q).1)))) (hV40.st1 (Try.siz3 _) rfl rfl (by decide))) ?_
      clear F ac
      intro ac F
      have hon := Y.set_only w85 (w39.heap.size) 0 (Vi ((((min (tn : Int) ((y : Int) + sn : Int)) : Int) - y : Int) + ((bestV (onP pn qn sn tn) ((y : Int) + sn + 1) q).1)))
      have hS2 := (hV40.set (k := 0) (Vi ((((min (tn : Int) ((y : Int) + sn : Int)) : Int) - y : Int) + ((bestV (onP pn qn sn tn) ((y : Int) + sn + 1) q).1)))).congr (VL_set0 _ _ _)
      generalize w85.setCell ⟨w39.heap.size, 0, none⟩ (Vi ((((min (tn : Int) ((y : Int) + sn : Int)) : Int) - y : Int) + ((bestV (onP pn qn sn tn) ((y : Int) + sn + 1) q).1))) = w87 at *
      replace G := Y.Only.up G hon (by omega)
      replace hT := hT.only hon (by intro b_ h1_ h2_ e_; omega)
      replace hR := hR.only hon (by show ¬ rb = w39.heap.size; omega) (by intro b_ h1_ h2_ h3_ e_; omega)
      replace hBw := hBw.only hon
      replace hxi := hxi.onlyAt hon (fun ad e h => by have := hxib ad e; omega)
      replace hV14 := hV14.only hon (by show ¬ w12.heap.size = w39.heap.size; omega)
      replace hO := hO.only hon (fun b_ e h => by simp [Value.ownBlock] at e; omega)
      replace hyi := hyi.onlyAt hon (fun ad e h => by have := hyib ad e; omega)
      replace hV86 := hV86.only hon (by show ¬ bk86 = w39.heap.size; omega)
      replace hC := (hC.kc hon 0 rfl (hC.kc hon 1 rfl (hC.kc hon 2 rfl (hC.kc hon 3 rfl (hC.kc hon 4 rfl (hC.kc hon 5 rfl (RCells.nil _)))))))
      replace hV40 := hS2
      clear hS2 hon
      refine Y.nil ?_
      replace F : Fr ac 115 [(0, .agg #[Vi gq, Vi aw, Vi za, Vi pn, Vi qn]), (1, Vi sn), (2, Vi tn), (3, Vp w.heap.size), (6, .slice none 0 0), (7, .slice (some ⟨tb, 0, none⟩) (tn + 1) (tn + 1)), (8, Vi y), (9, Vi x), (10, Vi v), (11, Vp w12.heap.size), (12, Vi (min (tn : Int) ((y : Int) + sn : Int))), (13, Vp w39.heap.size), (14, Vp bk86), (20, .bool true), (38, .bool true), (55, .bool true), (72, .bool true)] := F.sub _
      refine X.thenN ?_
      refine Y.lit (by kernel_rfl) ?_
      refine Y.pval F (X.w0 rfl) rfl (X.field rfl (F.ev 13 (Vp w39.heap.size)) (X.fld Try.underlying86 rfl (Try.siz34 _) rfl rfl)) ?_
      clear F ac
      intro ac F
      replace hC : RCells w87 [(Ad w.heap.size 0, Vi gq), (Ad w.heap.size 1, Vi aw), (Ad w.heap.size 2, Vi za), (Ad w.heap.size 3, Vi pn), (Ad w.heap.size 4, Vi qn), (⟨tb, y, none⟩, .slice (some ⟨rb, 0, none⟩) (pn + 1) (pn + 1)), (Ad w39.heap.size 1, .slice (some ⟨w21.heap.size, 0, none⟩) 1 1)] := hC.append ((RCells.cons (hV40.cell (k := 1) (by decide)) (RCells.nil _)))
      refine Y.pval F (X.w0 rfl) rfl (X.load rfl (F.ev 97 (.pointer (some ⟨w39.heap.size, 1, none⟩))) (X.ld1 (Try.agg34 _) (hC.at 6 rfl))) ?_
      clear F ac
      intro ac F
      refine Y.pval F (X.w0 rfl) rfl (X.field rfl (F.ev 14 (Vp bk86)) (X.fld Try.underlying86 rfl (Try.siz34 _) rfl rfl)) ?_
      clear F ac
      intro ac F
      replace hC : RCells w87 [(Ad w.heap.size 0, Vi gq), (Ad w.heap.size 1, Vi aw), (Ad w.heap.size 2, Vi za), (Ad w.heap.size 3, Vi pn), (Ad w.heap.size 4, Vi qn), (⟨tb, y, none⟩, .slice (some ⟨rb, 0, none⟩) (pn + 1) (pn + 1)), (Ad w39.heap.size 1, .slice (some ⟨w21.heap.size, 0, none⟩) 1 1), (Ad bk86 1, .slice ya cn yc)] := hC.append ((RCells.cons (hV86.cell (k := 1) (by decide)) (RCells.nil _)))
      refine Y.pval F (X.w0 rfl) rfl (X.load rfl (F.ev 99 (.pointer (some ⟨bk86, 1, none⟩))) (X.ld1 (Try.agg34 _) (hC.at 7 rfl))) ?_
      clear F ac
      intro ac F
      have hq89 : w.heap.size < w87.heap.size := lt_cell (hC.at 0 rfl)
      have hq90 : tb < w87.heap.size := lt_cell (hC.at 5 rfl)
      have hq91 : w39.heap.size < w87.heap.size := lt_cell (hC.at 6 rfl)
      have hq92 : bk86 < w87.heap.size := lt_cell (hC.at 7 rfl)
      have hq93 : tb < w87.heap.size := hT.lt
      have hq94 : rb < w87.heap.size := hR.lt
      have hq95 : H ≤ w87.heap.size := hBw
      have hq96 : w12.heap.size < w87.heap.size := hV14.lt
      have hq97 : w21.heap.size < w87.heap.size := (hO.ge rfl).2
      have hq98 : w39.heap.size < w87.heap.size := hV40.lt
      have hq99 : bk86 < w87.heap.size := hV86.lt
      refine Y.wpL_plain rfl fun _ hK => wp_pushI rfl (F.ev 98 (.slice (some ⟨w21.heap.size, 0, none⟩) 1 1)) (F.ev 100 (.slice ya cn yc)) hO (xs := (noiV (onP pn qn sn tn) ((y : Int) + sn + 1) q)) hyi hyn (by omega) hBw (fun v2 w88 hO2 hon hat => hK _ _ ?_)
      refine Y.pput F rfl ?_
      clear F ac
      intro ac F
      obtain ⟨g2, c2, rfl, hg2, hg2l⟩ : ∃ g2 c2, v2 = .slice (some ⟨g2, 0, none⟩) (1 + cn) c2 ∧ (g2 = w21.heap.size ∨ g2 = w87.heap.size) ∧ g2 < w88.heap.size := by
       rcases hO2.shape with ⟨_, h0⟩ | ⟨g2, c2, e, _, hl⟩
       ·omega
       ·subst e
        exact ⟨g2, c2, rfl, by simpa [Value.ownBlock] using hat, hl⟩
      clear hat hO
      replace G := Y.Only.up G hon (by omega)
      replace hT := hT.only hon (by intro b_ h1_ h2_ e_; omega)
      replace hR := hR.only hon (by show ¬ rb = w21.heap.size; omega) (by intro b_ h1_ h2_ h3_ e_; omega)
      replace hBw := hBw.only hon
      replace hxi := hxi.onlyAt hon (fun ad e h => by have := hxib ad e; omega)
      replace hV14 := hV14.only hon (by show ¬ w12.heap.size = w21.heap.size; omega)
      replace hV40 := hV40.only hon (by show ¬ w39.heap.size = w21.heap.size; omega)
      replace hyi := hyi.onlyAt hon (fun ad e h => by have := hyib ad e; omega)
      replace hV86 := hV86.only hon (by show ¬ bk86 = w21.heap.size; omega)
      replace hC := (hC.kc hon 0 rfl (hC.kc hon 1 rfl (hC.kc hon 2 rfl (hC.kc hon 3 rfl (hC.kc hon 4 rfl (hC.kc hon 5 rfl (RCells.nil _)))))))
      have hyI := hO2.intsL (by simp [hyl]; omega) (by omega)
      have hyIb : ∀ ad, some (⟨g2, 0, none⟩ : Addr) = some ad → ad.block = g2 := fun ad e => by injection e with e; subst e; rfl
      clear hO2 hon
      refine Y.pval F (X.w0 rfl) rfl (X.field rfl (F.ev 13 (Vp w39.heap.size)) (X.fld Try.underlying86 rfl (Try.siz34 _) rfl rfl)) ?_
      clear F ac
      intro ac F
      refine Y.punit F (X.w0 rfl) rfl (X.store rfl (F.ev 102 (.pointer (some ⟨w39.heap.size, 1, none⟩))) (F.ev 101 (.slice (some ⟨g2, 0, none⟩) (1 + cn) c2)) (hV40.st1 (Try.siz34 _) rfl rfl (by decide))) ?_
      clear F ac
      intro ac F
      have hon := Y.set_only w88 (w39.heap.size) 1 (.slice (some ⟨g2, 0, none⟩) (1 + cn) c2)
      have hS2 := (hV40.set (k := 1) (.slice (some ⟨g2, 0, none⟩) (1 + cn) c2)).congr (VL_set1 _ _ _)
      generalize w88.setCell ⟨w39.heap.size, 1, none⟩ (.slice (some ⟨g2, 0, none⟩) (1 + cn) c2) = w100 at *
      replace G := Y.Only.up G hon (by omega)
      replace hT := hT.only hon (by intro b_ h1_ h2_ e_; omega)
      replace hR := hR.only hon (by show ¬ rb = w39.heap.size; omega) (by intro b_ h1_ h2_ h3_ e_; omega)
      replace hBw := hBw.only hon
      replace hxi := hxi.onlyAt hon (fun ad e h => by have := hxib ad e; omega)
      replace hV14 := hV14.only hon (by show ¬ w12.heap.size = w39.heap.size; omega)
      replace hyi := hyi.onlyAt hon (fun ad e h => by have := hyib ad e; omega)
      replace hV86 := hV86.only hon (by show ¬ bk86 = w39.heap.size; omega)
      replace hyI := hyI.onlyAt hon (fun ad e h => by have := hyIb ad e; omega)
      replace hC := (hC.kc hon 0 rfl (hC.kc hon 1 rfl (hC.kc hon 2 rfl (hC.kc hon 3 rfl (hC.kc hon 4 rfl (hC.kc hon 5 rfl (RCells.nil _)))))))
      replace hV40 := hS2
      clear hS2 hon
      refine Y.nil ?_
      replace F : Fr ac 115 [(0, .agg #[Vi gq, Vi aw, Vi za, Vi pn, Vi qn]), (1, Vi sn), (2, Vi tn), (3, Vp w.heap.size), (6, .slice none 0 0), (7, .slice (some ⟨tb, 0, none⟩) (tn + 1) (tn + 1)), (8, Vi y), (9, Vi x), (10, Vi v), (11, Vp w12.heap.size), (12, Vi (min (tn : Int) ((y : Int) + sn : Int))), (13, Vp w39.heap.size), (14, Vp bk86), (20, .bool true), (38, .bool true), (55, .bool true), (72, .bool true)] := F.sub _
      refine X.thenN ?_
      refine Y.seq ?_
      have hwk0 := wk_far (p := (onP pn qn sn tn)) (t := (y : Int)) (x := (x : Int)) (v := v) (hN := sn) hpk rfl rfl (by omega) (by omega) (by show (x : Int) ≤ (pn : Int); omega) rfl hrv (by omega) (by show (y : Int) + (sn : Int) + 1 ≤ (tn : Int); omega)
      have hwo : wkO (onP pn qn sn tn) y x = ((((min (tn : Int) ((y : Int) + sn : Int)) : Int) - y : Int) + ((bestV (onP pn qn sn tn) ((y : Int) + sn + 1) q).1), ((1 + cn : Nat) : Int)) := by
       rw [hwk0.1, hgu]
       show (_, ((1 + (noiV (onP pn qn sn tn) ((y : Int) + sn + 1) q).length : Nat) : Int)) = _
       rw [hyl]
       rfl
      have hwf : (y : Int) + 1 + (wkN (onP pn qn sn tn) y : Int) = (y : Int) + sn + 1 ∧ (wkV (onP pn qn sn tn) y (refV (onP pn qn sn tn) y x) (wkN (onP pn qn sn tn) y)).1 = q := ⟨hwk0.2.1, by rw [hwk0.2.2, hgu]⟩
      refine Y.lit (by kernel_rfl) ?_
      replace hC : RCells w100 [(Ad w.heap.size 0, Vi gq), (Ad w.heap.size 1, Vi aw), (Ad w.heap.size 2, Vi za), (Ad w.heap.size 3, Vi pn), (Ad w.heap.size 4, Vi qn), (⟨tb, y, none⟩, .slice (some ⟨rb, 0, none⟩) (pn + 1) (pn + 1)), (Ad w39.heap.size 0, Vi ((((min (tn : Int) ((y : Int) + sn : Int)) : Int) - y : Int) + ((bestV (onP pn qn sn tn) ((y : Int) + sn + 1) q).1)))] := hC.append ((RCells.cons (hV40.cell (k := 0) (by decide)) (RCells.nil _)))
      replace hC : RCells w100 [(Ad w.heap.size 0, Vi gq), (Ad w.heap.size 1, Vi aw), (Ad w.heap.size 2, Vi za), (Ad w.heap.size 3, Vi pn), (Ad w.heap.size 4, Vi qn), (⟨tb, y, none⟩, .slice (some ⟨rb, 0, none⟩) (pn + 1) (pn + 1)), (Ad w39.heap.size 0, Vi ((((min (tn : Int) ((y : Int) + sn : Int)) : Int) - y : Int) + ((bestV (onP pn qn sn tn) ((y : Int) + sn + 1) q).1))), (Ad w39.heap.size 1, .slice (some ⟨g2, 0, none⟩) (1 + cn) c2)] := hC.append ((RCells.cons (hV40.cell (k := 1) (by decide)) (RCells.nil _)))
      refine Y.pval F (X.w0 rfl) rfl (X.load rfl (F.ev 13 (Vp w39.heap.size)) (X.ldN (Try.agg86 _) (Try.siz86 _) (Y.atz (⟨w39.heap.size, 0, none⟩) (Y.AtFrom.cons (hC.at 6 rfl) (Y.AtFrom.cons (hC.at 7 rfl) (Y.AtFrom.nil _ _ _)))))) ?_
      clear F ac
      intro ac F
      replace hC : RCells w100 [(Ad w.heap.size 0, Vi gq), (Ad w.heap.size 1, Vi aw), (Ad w.heap.size 2, Vi za), (Ad w.heap.size 3, Vi pn), (Ad w.heap.size 4, Vi qn), (⟨tb, y, none⟩, .slice (some ⟨rb, 0, none⟩) (pn + 1) (pn + 1)), (Ad w39.heap.size 0, Vi ((((min (tn : Int) ((y : Int) + sn : Int)) : Int) - y : Int) + ((bestV (onP pn qn sn tn) ((y : Int) + sn + 1) q).1))), (Ad w39.heap.size 1, .slice (some ⟨g2, 0, none⟩) (1 + cn) c2), (Ad w12.heap.size 0, Vi ((bestV (onP pn qn sn tn) ((y : Int) + 1) v).1))] := hC.append ((RCells.cons (hV14.cell (k := 0) (by decide)) (RCells.nil _)))
      replace hC : RCells w100 [(Ad w.heap.size 0, Vi gq), (Ad w.heap.size 1, Vi aw), (Ad w.heap.size 2, Vi za), (Ad w.heap.size 3, Vi pn), (Ad w.heap.size 4, Vi qn), (⟨tb, y, none⟩, .slice (some ⟨rb, 0, none⟩) (pn + 1) (pn + 1)), (Ad w39.heap.size 0, Vi ((((min (tn : Int) ((y : Int) + sn : Int)) : Int) - y : Int) + ((bestV (onP pn qn sn tn) ((y : Int) + sn + 1) q).1))), (Ad w39.heap.size 1, .slice (some ⟨g2, 0, none⟩) (1 + cn) c2), (Ad w12.heap.size 0, Vi ((bestV (onP pn qn sn tn) ((y : Int) + 1) v).1)), (Ad w12.heap.size 1, .slice xa fn xc)] := hC.append ((RCells.cons (hV14.cell (k := 1) (by decide)) (RCells.nil _)))
      refine Y.pval F (X.w0 rfl) rfl (X.load rfl (F.ev 11 (Vp w12.heap.size)) (X.ldN (Try.agg86 _) (Try.siz86 _) (Y.atz (⟨w12.heap.size, 0, none⟩) (Y.AtFrom.cons (hC.at 8 rfl) (Y.AtFrom.cons (hC.at 9 rfl) (Y.AtFrom.nil _ _ _)))))) ?_
      clear F ac
      intro ac F
      refine Y.pcall F (X.w0 rfl) rfl (X.enter (F := 88) rfl (X.kc (.func (.func 88) #[] #[]) rfl) (X.a2 (F.ev 103 (.agg #[Vi ((((min (tn : Int) ((y : Int) + sn : Int)) : Int) - y : Int) + ((bestV (onP pn qn sn tn) ((y : Int) + sn + 1) q).1)), .slice (some ⟨g2, 0, none⟩) (1 + cn) c2])) (F.ev 104 (.agg #[Vi ((bestV (onP pn qn sn tn) ((y : Int) + 1) v).1), .slice xa fn xc]))) (enters_of Try.func88 (by kernel_rfl) rfl _)) (better_use ((((min (tn : Int) ((y : Int) + sn : Int)) : Int) - y : Int) + ((bestV (onP pn qn sn tn) ((y : Int) + sn + 1) q).1)) ((bestV (onP pn qn sn tn) ((y : Int) + 1) v).1) (some ⟨g2, 0, none⟩) xa (1 + cn) c2 fn xc ([(y : Int)] ++ (noiV (onP pn qn sn tn) ((y : Int) + sn + 1) q)) (noiV (onP pn qn sn tn) ((y : Int) + 1) v) (onP pn qn sn tn) (y : Int) (x : Int) w100 hyI hxi hpk (by omega) (by show (y : Int) < (tn : Int); omega) (by rw [hrv]; omega) (by omega) (by show (x : Int) ≤ (pn : Int); omega) hwo rfl (by omega) (by rw [hrv]) rfl (by rw [hrv])) ?_
      clear F ac
      rintro e w101 ⟨rfl, g⟩
      refine ⟨_, rfl, ?_⟩
      intro ac F
      replace G := G.trans g
      replace hC := hC.gr g
      replace hT := hT.gr g
      replace hR := hR.gr g
      replace hBw := hBw.gr g
      replace hxi := hxi.gr g
      replace hV14 := hV14.gr g
      replace hV40 := hV40.gr g
      replace hyi := hyi.gr g
      replace hV86 := hV86.gr g
      replace hyI := hyI.gr g
      clear g
      refine Y.nil ?_
      replace F : Fr ac 115 [(0, .agg #[Vi gq, Vi aw, Vi za, Vi pn, Vi qn]), (1, Vi sn), (2, Vi tn), (3, Vp w.heap.size), (6, .slice none 0 0), (7, .slice (some ⟨tb, 0, none⟩) (tn + 1) (tn + 1)), (8, Vi y), (9, Vi x), (10, Vi v), (11, Vp w12.heap.size), (12, Vi (min (tn : Int) ((y : Int) + sn : Int))), (13, Vp w39.heap.size), (14, Vp bk86), (20, .bool true), (38, .bool true), (55, .bool true), (72, .bool true), (105, .bool (takeB (onP pn qn sn tn) y x))] := F.sub _
      refine X.thenN ?_
      cases h102 : takeB (onP pn qn sn tn) y x with
      | false =>
       try rw [h102] at F
       refine Y.condF (F.ev 105 (.bool false)) ?_
       refine Y.skip ?_
       refine X.thenN ?_
       have hq103 : w.heap.size < w101.heap.size := lt_cell (hC.at 0 rfl)
       have hq104 : tb < w101.heap.size := lt_cell (hC.at 5 rfl)
       have hq105 : w39.heap.size < w101.heap.size := lt_cell (hC.at 6 rfl)
       have hq106 : w12.heap.size < w101.heap.size := lt_cell (hC.at 8 rfl)
       have hq107 : tb < w101.heap.size := hT.lt
       have hq108 : rb < w101.heap.size := hR.lt
       have hq109 : H ≤ w101.heap.size := hBw
       have hq110 : w12.heap.size < w101.heap.size := hV14.lt
       have hq111 : w39.heap.size < w101.heap.size := hV40.lt
       have hq112 : bk86 < w101.heap.size := hV86.lt
       have hA : ((bestV (onP pn qn sn tn) ((y : Int) + 1) v).1 : Int) = (bestV (onP pn qn sn tn) y x).1 := by rw [best_skip (by show (y : Int) < (tn : Int); omega) (by rw [hrv]; omega) h102]; unfold stO; rw [hrv]; simp only [add2]; show _ = _ + (0 : Int); omega
       have hL : (noiV (onP pn qn sn tn) ((y : Int) + 1) v) = noiV (onP pn qn sn tn) y x := by rw [noi_skip (by show (y : Int) < (tn : Int); omega) (by rw [hrv]; omega) h102, hrv]
       replace hR := hR.up hBw
       have hlb : ∀ ad : Addr, (xa : Option Addr) = some ad → w.heap.size ≤ ad.block ∧ ad.block < w101.heap.size ∧ ¬ ad.block = tb ∧ ¬ ad.block = rb := fun ad e => by have := hxib ad e; omega
       refine Y.regionS F [some (.slice (some ⟨tb, 0, none⟩) (tn + 1) (tn + 1)), some (Vi y), some (.pointer (some ⟨tb, y, none⟩)), some (.slice (some ⟨rb, 0, none⟩) (pn + 1) (pn + 1)), some (Vi x), some (.agg #[Vi ((bestV (onP pn qn sn tn) ((y : Int) + 1) v).1), .slice xa fn xc]), some (.pointer (some ⟨rb, x * 2, none⟩)), none] [] 7 (fun _ W => Only (fun z => z = rb) w101 W ∧ RowM W (onP pn qn sn tn) (pn + 1) w.heap.size tb w101.heap.size rb y (x + 1)) rfl ⟨by kernel_rfl, of_decide_eq_true (by kernel_rfl), by kernel_rfl, by kernel_rfl, by kernel_rfl⟩ (of_decide_eq_true (by kernel_rfl)) ⟨?_, ?_, ?_, ?_, ?_, ?_, ?_, ?_, trivial⟩ ?_
       ·intro ac done u W Sx hT_
        have hs := Sx.no 7 (by kernel_rfl)
        have hR_ := hT_.1 hs
        exact X.val (X.w0 rfl) rfl (X.move rfl (Sx.ev 7 (.slice (some ⟨tb, 0, none⟩) (tn + 1) (tn + 1)))) (Y.RT.of hs rfl (hR_.step (Gr.refl _) rfl))
       ·intro ac done u W Sx hT_
        have hs := Sx.no 7 (by kernel_rfl)
        have hR_ := hT_.1 hs
        exact X.val (X.w0 rfl) rfl (X.move rfl (Sx.ev 8 (Vi y))) (Y.RT.of hs rfl (hR_.step (Gr.refl _) rfl))
       ·intro ac done u W Sx hT_
        have hs := Sx.no 7 (by kernel_rfl)
        have hR_ := hT_.1 hs
        exact X.val (X.w0 rfl) rfl (X.index rfl (Sx.ev 107 (.slice (some ⟨tb, 0, none⟩) (tn + 1) (tn + 1))) (Sx.ev 108 (Vi y)) (X.idx (k := y) Try.underlying121 (Try.siz120 _) (by omega) (by omega) (addr_own _ _))) (Y.RT.of hs rfl (hR_.step (Gr.refl _) rfl))
       ·intro ac done u W Sx hT_
        have hs := Sx.no 7 (by kernel_rfl)
        have hR_ := hT_.1 hs
        have g : Gr w101 W := hR_.1
        exact X.val (X.w0 rfl) rfl (X.load rfl (Sx.ev 109 (.pointer (some ⟨tb, y, none⟩))) (X.ld1 (Try.agg120 _) ((hC.gr g).at 5 rfl))) (Y.RT.of hs rfl (hR_.step (Gr.refl _) rfl))
       ·intro ac done u W Sx hT_
        have hs := Sx.no 7 (by kernel_rfl)
        have hR_ := hT_.1 hs
        exact X.val (X.w0 rfl) rfl (X.move rfl (Sx.ev 9 (Vi x))) (Y.RT.of hs rfl (hR_.step (Gr.refl _) rfl))
       ·intro ac done u W Sx hT_
        have hs := Sx.no 7 (by kernel_rfl)
        have hR_ := hT_.1 hs
        have g : Gr w101 W := hR_.1
        exact X.val (X.w0 rfl) rfl (X.load rfl (Sx.ev 11 (Vp w12.heap.size)) (X.ldN (Try.agg86 _) (Try.siz86 _) (Y.atz (⟨w12.heap.size, 0, none⟩) (Y.AtFrom.cons ((hC.gr g).at 8 rfl) (Y.AtFrom.cons ((hC.gr g).at 9 rfl) (Y.AtFrom.nil _ _ _)))))) (Y.RT.of hs rfl (hR_.step (Gr.refl _) rfl))
       ·intro ac done u W Sx hT_
        have hs := Sx.no 7 (by kernel_rfl)
        have hR_ := hT_.1 hs
        exact X.val (X.w0 rfl) rfl (X.index rfl (Sx.ev 110 (.slice (some ⟨rb, 0, none⟩) (pn + 1) (pn + 1))) (Sx.ev 111 (Vi x)) (X.idx (k := x) Try.underlying120 (Try.siz86 _) (by omega) (by omega) (addr_add0 _ _))) (Y.RT.of hs rfl (hR_.step (Gr.refl _) rfl))
       ·intro ac done u W Sx hT_
        have hR_ := hT_.1 Sx.nd
        have g : Gr w101 W := hR_.1
        obtain ⟨W2, hrun, hR2, hon⟩ := (hR.gr g).put (by omega) hA hL (hxi.gr g).len.symm (hxi.gr g) hxn hlb
        exact X.unit (X.w0 rfl) rfl (X.store rfl (Sx.ev 113 (.pointer (some ⟨rb, x * 2, none⟩))) (Sx.ev 112 (.agg #[Vi ((bestV (onP pn qn sn tn) ((y : Int) + 1) v).1), .slice xa fn xc])) hrun) (Y.RT.fin ⟨(g.only _).trans hon, hR2⟩)
       rintro ac u w113 hs hd hl_ ho ⟨hon, hR2⟩
       replace F : Fr ac 115 [(0, .agg #[Vi gq, Vi aw, Vi za, Vi pn, Vi qn]), (1, Vi sn), (2, Vi tn), (3, Vp w.heap.size), (6, .slice none 0 0), (7, .slice (some ⟨tb, 0, none⟩) (tn + 1) (tn + 1)), (8, Vi y), (9, Vi x), (10, Vi v), (11, Vp w12.heap.size), (12, Vi (min (tn : Int) ((y : Int) + sn : Int))), (13, Vp w39.heap.size), (14, Vp bk86), (20, .bool true), (38, .bool true), (55, .bool true), (72, .bool true), (105, .bool false)] := X.fr hs hd hl_ _ (by kernel_rfl)
       clear hs hd hl_ ho hA hL hlb
       replace G := Y.Only.up G hon (by omega)
       replace hT := hT.only hon (by intro b_ h1_ h2_ e_; omega)
       replace hC := (hC.kc hon 0 rfl (hC.kc hon 1 rfl (hC.kc hon 2 rfl (hC.kc hon 3 rfl (hC.kc hon 4 rfl (hC.kc hon 5 rfl (RCells.nil _)))))))
       replace hR := hR2.up hon.size
       clear hR2 hon
       refine X.blockN ?_
       refine X.thenN ?_
       refine Y.lit (by kernel_rfl) ?_
       refine Y.pval F (X.w0 rfl) rfl (X.move rfl (F.ev 9 (Vi x))) ?_
       clear F ac
       intro ac F
       refine Y.pval F (X.w0 rfl) rfl (X.binop rfl (F.ev 39 (Vi x)) (X.kc (Vi 1) rfl) (X.addI Try.underlying3 rfl (by omega) (by omega))) ?_
       clear F ac
       intro ac F
       refine Y.pval F (X.w0 rfl) rfl (X.assign rfl (F.ev 40 (Vi ((x : Int) + 1)))) ?_
       clear F ac
       intro ac F
       refine Y.nil ?_
       replace F : Fr ac 115 [(0, .agg #[Vi gq, Vi aw, Vi za, Vi pn, Vi qn]), (1, Vi sn), (2, Vi tn), (3, Vp w.heap.size), (6, .slice none 0 0), (7, .slice (some ⟨tb, 0, none⟩) (tn + 1) (tn + 1)), (8, Vi y), (9, Vi ((x : Int) + 1)), (10, Vi v), (11, Vp w12.heap.size), (12, Vi (min (tn : Int) ((y : Int) + sn : Int))), (13, Vp w39.heap.size), (14, Vp bk86), (20, .bool true), (38, .bool true), (55, .bool true), (72, .bool true), (105, .bool false)] := F.sub _
       refine X.thenN ?_
       refine ⟨_, ?_, x + 1, rfl, by omega, G, hC, hT, hR, F.sub _⟩
       omega
      | true =>
       try rw [h102] at F
       refine Y.condT (F.ev 105 (.bool true)) ?_
       refine Y.lit (by kernel_rfl) ?_
       refine Y.pval F (X.w0 rfl) rfl (X.load rfl (F.ev 13 (Vp w39.heap.size)) (X.ldN (Try.agg86 _) (Try.siz86 _) (Y.atz (⟨w39.heap.size, 0, none⟩) (Y.AtFrom.cons (hC.at 6 rfl) (Y.AtFrom.cons (hC.at 7 rfl) (Y.AtFrom.nil _ _ _)))))) ?_
       clear F ac
       intro ac F
       obtain ⟨w114, hrun, hS2, hon⟩ := hV14.st2 (P := Try.prog) (t := 86) (x := Vi ((((min (tn : Int) ((y : Int) + sn : Int)) : Int) - y : Int) + ((bestV (onP pn qn sn tn) ((y : Int) + sn + 1) q).1))) (y := .slice (some ⟨g2, 0, none⟩) (1 + cn) c2) (fun W => Try.siz86 W) rfl rfl
       refine Y.punit F (X.w0 rfl) rfl (X.store rfl (F.ev 11 (Vp w12.heap.size)) (F.ev 106 (.agg #[Vi ((((min (tn : Int) ((y : Int) + sn : Int)) : Int) - y : Int) + ((bestV (onP pn qn sn tn) ((y : Int) + sn + 1) q).1)), .slice (some ⟨g2, 0, none⟩) (1 + cn) c2])) hrun) ?_
       clear F ac hrun
       intro ac F
       replace G := Y.Only.up G hon (by omega)
       replace hT := hT.only hon (by intro b_ h1_ h2_ e_; omega)
       replace hR := hR.only hon (by show ¬ rb = w12.heap.size; omega) (by intro b_ h1_ h2_ h3_ e_; omega)
       replace hBw := hBw.only hon
       replace hxi := hxi.onlyAt hon (fun ad e h => by have := hxib ad e; omega)
       replace hV40 := hV40.only hon (by show ¬ w39.heap.size = w12.heap.size; omega)
       replace hyi := hyi.onlyAt hon (fun ad e h => by have := hyib ad e; omega)
       replace hV86 := hV86.only hon (by show ¬ bk86 = w12.heap.size; omega)
       replace hyI := hyI.onlyAt hon (fun ad e h => by have := hyIb ad e; omega)
       replace hC := (hC.kc hon 0 rfl (hC.kc hon 1 rfl (hC.kc hon 2 rfl (hC.kc hon 3 rfl (hC.kc hon 4 rfl (hC.kc hon 5 rfl (RCells.nil _)))))))
       replace hV14 := hS2
       clear hS2 hon
       refine Y.nil ?_
       replace F : Fr ac 115 [(0, .agg #[Vi gq, Vi aw, Vi za, Vi pn, Vi qn]), (1, Vi sn), (2, Vi tn), (3, Vp w.heap.size), (6, .slice none 0 0), (7, .slice (some ⟨tb, 0, none⟩) (tn + 1) (tn + 1)), (8, Vi y), (9, Vi x), (10, Vi v), (11, Vp w12.heap.size), (12, Vi (min (tn : Int) ((y : Int) + sn : Int))), (13, Vp w39.heap.size), (14, Vp bk86), (20, .bool true), (38, .bool true), (55, .bool true), (72, .bool true), (105, .bool true)] := F.sub _
       refine X.thenN ?_
       replace hC : RCells w114 [(Ad w.heap.size 0, Vi gq), (Ad w.heap.size 1, Vi aw), (Ad w.heap.size 2, Vi za), (Ad w.heap.size 3, Vi pn), (Ad w.heap.size 4, Vi qn), (⟨tb, y, none⟩, .slice (some ⟨rb, 0, none⟩) (pn + 1) (pn + 1)), (Ad w12.heap.size 0, Vi ((((min (tn : Int) ((y : Int) + sn : Int)) : Int) - y : Int) + ((bestV (onP pn qn sn tn) ((y : Int) + sn + 1) q).1)))] := hC.append ((RCells.cons (hV14.cell (k := 0) (by decide)) (RCells.nil _)))
       replace hC : RCells w114 [(Ad w.heap.size 0, Vi gq), (Ad w.heap.size 1, Vi aw), (Ad w.heap.size 2, Vi za), (Ad w.heap.size 3, Vi pn), (Ad w.heap.size 4, Vi qn), (⟨tb, y, none⟩, .slice (some ⟨rb, 0, none⟩) (pn + 1) (pn + 1)), (Ad w12.heap.size 0, Vi ((((min (tn : Int) ((y : Int) + sn : Int)) : Int) - y : Int) + ((bestV (onP pn qn sn tn) ((y : Int) + sn + 1) q).1))), (Ad w12.heap.size 1, .slice (some ⟨g2, 0, none⟩) (1 + cn) c2)] := hC.append ((RCells.cons (hV14.cell (k := 1) (by decide)) (RCells.nil _)))
       have hq115 : w.heap.size < w114.heap.size := lt_cell (hC.at 0 rfl)
       have hq116 : tb < w114.heap.size := lt_cell (hC.at 5 rfl)
       have hq117 : w12.heap.size < w114.heap.size := lt_cell (hC.at 6 rfl)
       have hq118 : tb < w114.heap.size := hT.lt
       have hq119 : rb < w114.heap.size := hR.lt
       have hq120 : H ≤ w114.heap.size := hBw
       have hq121 : w12.heap.size < w114.heap.size := hV14.lt
       have hq122 : w39.heap.size < w114.heap.size := hV40.lt
       have hq123 : bk86 < w114.heap.size := hV86.lt
       have hA : ((((min (tn : Int) ((y : Int) + sn : Int)) : Int) - y : Int) + ((bestV (onP pn qn sn tn) ((y : Int) + sn + 1) q).1) : Int) = (bestV (onP pn qn sn tn) y x).1 := by rw [best_take h102, hwo]
       have hL : ([(y : Int)] ++ (noiV (onP pn qn sn tn) ((y : Int) + sn + 1) q)) = noiV (onP pn qn sn tn) y x := by rw [noi_take (by show (y : Int) < (tn : Int); omega) (by rw [hrv]; omega) h102, hwf.1, hwf.2]; rfl
       replace hR := hR.up hBw
       have hg2z : g2 < w114.heap.size := by obtain ⟨ad, e, hl_, _⟩ := hyI.at (j := 0) (by omega); injection e with e; subst e; exact hl_
       have hlb : ∀ ad : Addr, ((some ⟨g2, 0, none⟩) : Option Addr) = some ad → w.heap.size ≤ ad.block ∧ ad.block < w114.heap.size ∧ ¬ ad.block = tb ∧ ¬ ad.block = rb := fun ad e => by have := hyIb ad e; omega
       refine Y.regionS F [some (.slice (some ⟨tb, 0, none⟩) (tn + 1) (tn + 1)), some (Vi y), some (.pointer (some ⟨tb, y, none⟩)), some (.slice (some ⟨rb, 0, none⟩) (pn + 1) (pn + 1)), some (Vi x), some (.agg #[Vi ((((min (tn : Int) ((y : Int) + sn : Int)) : Int) - y : Int) + ((bestV (onP pn qn sn tn) ((y : Int) + sn + 1) q).1)), .slice (some ⟨g2, 0, none⟩) (1 + cn) c2]), some (.pointer (some ⟨rb, x * 2, none⟩)), none] [] 7 (fun _ W => Only (fun z => z = rb) w114 W ∧ RowM W (onP pn qn sn tn) (pn + 1) w.heap.size tb w114.heap.size rb y (x + 1)) rfl ⟨by kernel_rfl, of_decide_eq_true (by kernel_rfl), by kernel_rfl, by kernel_rfl, by kernel_rfl⟩ (of_decide_eq_true (by kernel_rfl)) ⟨?_, ?_, ?_, ?_, ?_, ?_, ?_, ?_, trivial⟩ ?_
       ·intro ac done u W Sx hT_
        have hs := Sx.no 7 (by kernel_rfl)
        have hR_ := hT_.1 hs
        exact X.val (X.w0 rfl) rfl (X.move rfl (Sx.ev 7 (.slice (some ⟨tb, 0, none⟩) (tn + 1) (tn + 1)))) (Y.RT.of hs rfl (hR_.step (Gr.refl _) rfl))
       ·intro ac done u W Sx hT_
        have hs := Sx.no 7 (by kernel_rfl)
        have hR_ := hT_.1 hs
        exact X.val (X.w0 rfl) rfl (X.move rfl (Sx.ev 8 (Vi y))) (Y.RT.of hs rfl (hR_.step (Gr.refl _) rfl))
       ·intro ac done u W Sx hT_
        have hs := Sx.no 7 (by kernel_rfl)
        have hR_ := hT_.1 hs
        exact X.val (X.w0 rfl) rfl (X.index rfl (Sx.ev 107 (.slice (some ⟨tb, 0, none⟩) (tn + 1) (tn + 1))) (Sx.ev 108 (Vi y)) (X.idx (k := y) Try.underlying121 (Try.siz120 _) (by omega) (by omega) (addr_own _ _))) (Y.RT.of hs rfl (hR_.step (Gr.refl _) rfl))
       ·intro ac done u W Sx hT_
        have hs := Sx.no 7 (by kernel_rfl)
        have hR_ := hT_.1 hs
        have g : Gr w114 W := hR_.1
        exact X.val (X.w0 rfl) rfl (X.load rfl (Sx.ev 109 (.pointer (some ⟨tb, y, none⟩))) (X.ld1 (Try.agg120 _) ((hC.gr g).at 5 rfl))) (Y.RT.of hs rfl (hR_.step (Gr.refl _) rfl))
       ·intro ac done u W Sx hT_
        have hs := Sx.no 7 (by kernel_rfl)
        have hR_ := hT_.1 hs
        exact X.val (X.w0 rfl) rfl (X.move rfl (Sx.ev 9 (Vi x))) (Y.RT.of hs rfl (hR_.step (Gr.refl _) rfl))
       ·intro ac done u W Sx hT_
        have hs := Sx.no 7 (by kernel_rfl)
        have hR_ := hT_.1 hs
        have g : Gr w114 W := hR_.1
        exact X.val (X.w0 rfl) rfl (X.load rfl (Sx.ev 11 (Vp w12.heap.size)) (X.ldN (Try.agg86 _) (Try.siz86 _) (Y.atz (⟨w12.heap.size, 0, none⟩) (Y.AtFrom.cons ((hC.gr g).at 6 rfl) (Y.AtFrom.cons ((hC.gr g).at 7 rfl) (Y.AtFrom.nil _ _ _)))))) (Y.RT.of hs rfl (hR_.step (Gr.refl _) rfl))
       ·intro ac done u W Sx hT_
        have hs := Sx.no 7 (by kernel_rfl)
        have hR_ := hT_.1 hs
        exact X.val (X.w0 rfl) rfl (X.index rfl (Sx.ev 110 (.slice (some ⟨rb, 0, none⟩) (pn + 1) (pn + 1))) (Sx.ev 111 (Vi x)) (X.idx (k := x) Try.underlying120 (Try.siz86 _) (by omega) (by omega) (addr_add0 _ _))) (Y.RT.of hs rfl (hR_.step (Gr.refl _) rfl))
       ·intro ac done u W Sx hT_
        have hR_ := hT_.1 Sx.nd
        have g : Gr w114 W := hR_.1
        obtain ⟨W2, hrun, hR2, hon⟩ := (hR.gr g).put (by omega) hA hL (hyI.gr g).len.symm (hyI.gr g) (fun e => by cases e) hlb
        exact X.unit (X.w0 rfl) rfl (X.store rfl (Sx.ev 113 (.pointer (some ⟨rb, x * 2, none⟩))) (Sx.ev 112 (.agg #[Vi ((((min (tn : Int) ((y : Int) + sn : Int)) : Int) - y : Int) + ((bestV (onP pn qn sn tn) ((y : Int) + sn + 1) q).1)), .slice (some ⟨g2, 0, none⟩) (1 + cn) c2])) hrun) (Y.RT.fin ⟨(g.only _).trans hon, hR2⟩)
       rintro ac u w124 hs hd hl_ ho ⟨hon, hR2⟩
       replace F : Fr ac 115 [(0, .agg #[Vi gq, Vi aw, Vi za, Vi pn, Vi qn]), (1, Vi sn), (2, Vi tn), (3, Vp w.heap.size), (6, .slice none 0 0), (7, .slice (some ⟨tb, 0, none⟩) (tn + 1) (tn + 1)), (8, Vi y), (9, Vi x), (10, Vi v), (11, Vp w12.heap.size), (12, Vi (min (tn : Int) ((y : Int) + sn : Int))), (13, Vp w39.heap.size), (14, Vp bk86), (20, .bool true), (38, .bool true), (55, .bool true), (72, .bool true), (105, .bool true)] := X.fr hs hd hl_ _ (by kernel_rfl)
       clear hs hd hl_ ho hA hL hlb
       replace G := Y.Only.up G hon (by omega)
       replace hT := hT.only hon (by intro b_ h1_ h2_ e_; omega)
       replace hC := (hC.kc hon 0 rfl (hC.kc hon 1 rfl (hC.kc hon 2 rfl (hC.kc hon 3 rfl (hC.kc hon 4 rfl (hC.kc hon 5 rfl (RCells.nil _)))))))
       replace hR := hR2.up hon.size
       clear hR2 hon
       refine X.blockN ?_
       refine X.thenN ?_
       refine Y.lit (by kernel_rfl) ?_
       refine Y.pval F (X.w0 rfl) rfl (X.move rfl (F.ev 9 (Vi x))) ?_
       clear F ac
       intro ac F
       refine Y.pval F (X.w0 rfl) rfl (X.binop rfl (F.ev 39 (Vi x)) (X.kc (Vi 1) rfl) (X.addI Try.underlying3 rfl (by omega) (by omega))) ?_
       clear F ac
       intro ac F
       refine Y.pval F (X.w0 rfl) rfl (X.assign rfl (F.ev 40 (Vi ((x : Int) + 1)))) ?_
       clear F ac
       intro ac F
       refine Y.nil ?_
       replace F : Fr ac 115 [(0, .agg #[Vi gq, Vi aw, Vi za, Vi pn, Vi qn]), (1, Vi sn), (2, Vi tn), (3, Vp w.heap.size), (6, .slice none 0 0), (7, .slice (some ⟨tb, 0, none⟩) (tn + 1) (tn + 1)), (8, Vi y), (9, Vi ((x : Int) + 1)), (10, Vi v), (11, Vp w12.heap.size), (12, Vi (min (tn : Int) ((y : Int) + sn : Int))), (13, Vp w39.heap.size), (14, Vp bk86), (20, .bool true), (38, .bool true), (55, .bool true), (72, .bool true), (105, .bool true)] := F.sub _
       refine X.thenN ?_
       refine ⟨_, ?_, x + 1, rfl, by omega, G, hC, hT, hR, F.sub _⟩
       omega
end Go.Proofs.Ytoalamakhjbedaa
