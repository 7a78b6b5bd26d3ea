/- Several texts of this claim in one file. (1) Contract: the greatest number of awake ticks, by a table. (2) Contract: the reference's energy. -/
import Derived.Test.YtoalamakhjbedaaBd13
import Derived.Test.YtoalamakhjbedaaBd7
namespace Go.Proofs.Ytoalamakhjbedaa
section
open Go.RowKit

/-- a row in the making -/
def rowF (p : Nd) (y x : Nat) : Nat → Int := fun k => if k < x then mvV p y k else 0
theorem row_zero (p : Nd) (y : Nat) {N : Nat} : ∀ k, k < N → EV (fun _ => 0) k = EV (rowF p y 0) k := fun k _ => by simp [EV, rowF]
theorem row_up {p : Nd} {y x N : Nat} {v : Int} (h : v = mvV p y x) : ∀ k, k < N → EV (fun z_ => if z_ = x then v else rowF p y x z_) k = EV (rowF p y (x + 1)) k := fun k _ => by
  subst h
  show Value.int .i64 (if k = x then mvV p y x else if k < x then mvV p y k else 0) = Value.int .i64 (if k < x + 1 then mvV p y k else 0)
  by_cases e : k = x
  · subst e; rw [if_pos rfl, if_pos (by omega)]
  · rw [if_neg e]
    by_cases e2 : k < x
    · rw [if_pos e2, if_pos (by omega)]
    · rw [if_neg e2, if_neg (by omega)]
theorem row_done {p : Nd} {y x N : Nat} (h : x = N ∨ p.T ≤ y) : ∀ k, k < N → EV (rowF p y x) k = EV (fun k => mvV p y k) k := fun k hk => by
  show Value.int .i64 (if k < x then mvV p y k else 0) = Value.int .i64 (mvV p y k)
  by_cases e : k < x
  · rw [if_pos e]
  · rw [if_neg e]
    rcases h with h | h
    · omega
    · rw [mv_done _ h]

set_option maxRecDepth 100000 in
set_option maxHeartbeats 1000000 in
theorem most_any (gq aw za : Int) (pn qn sn tn : Nat) (w : World) (hpn : pn ≤ 20) (hqn : 1 ≤ qn) (hqn2 : qn ≤ 1000) (hsn : 1 ≤ sn) (hsn2 : sn ≤ 100) (htn : tn ≤ 1000) :
  Calls Try.prog 76 #[.agg #[Vi gq, Vi aw, Vi za, Vi pn, Vi qn], Vi sn, Vi tn] w fun e w' => e = .returned (Vi (mvV (onP pn qn sn tn) 0 pn)) ∧ Gr w w' := by
 have G := Gr.refl w
 have hpk := onP_ok hpn hqn hqn2 hsn hsn2 htn
 refine Y.calls 102 Try.func76 rfl rfl ?_
 intro ac F0
 have F : Fr ac 102 [(0, .agg #[Vi gq, Vi aw, Vi za, Vi pn, Vi qn]), (1, Vi sn), (2, Vi tn)] := F0.sub _
 clear F0
 refine Y.seq ?_
 refine Y.lit (by kernel_rfl) ?_
 refine Y.pval F (X.w0 rfl) rfl (X.box rfl (F.e 0 rfl) X.bx) ?_
 clear F ac
 intro ac F
 have g := Gr.alloc w (.cells #[Vi gq, Vi aw, Vi za, Vi pn, Vi qn] 31)
 have hb := heap_alloc_new w (.cells #[Vi gq, Vi aw, Vi za, Vi pn, Vi qn] 31)
 have hbl : w.heap.size < (w.alloc (.cells #[Vi gq, Vi aw, Vi za, Vi pn, Vi qn] 31)).heap.size := by simp
 have hC2 : RCells (w.alloc (.cells #[Vi gq, Vi aw, Vi za, Vi pn, Vi qn] 31)) [(Ad w.heap.size 0, Vi gq), (Ad w.heap.size 1, Vi aw), (Ad w.heap.size 2, Vi za), (Ad w.heap.size 3, Vi pn), (Ad w.heap.size 4, Vi qn)] := (RCells.nil w).box (b := w.heap.size) #[Vi gq, Vi aw, Vi za, Vi pn, Vi qn] 31 rfl
 generalize w.alloc (.cells #[Vi gq, Vi aw, Vi za, Vi pn, Vi qn] 31) = w3 at *
 replace G := G.trans g
 have hC := hC2
 clear hC2
 clear g hb hbl
 have hsb : w.heap.size < w3.heap.size := lt_cell (hC.at 0 rfl)
 refine Y.pval F (X.w0 rfl) rfl (X.assign rfl (X.kc (Vi 0) rfl)) ?_
 clear F ac
 intro ac F
 refine Y.nil ?_
 replace F : Fr ac 102 [(0, .agg #[Vi gq, Vi aw, Vi za, Vi pn, Vi qn]), (1, Vi sn), (2, Vi tn), (3, Vp w.heap.size), (6, Vi 0)] := F.sub _
 refine X.thenN ?_
 refine Y.seq ?_
 refine Y.lit (by kernel_rfl) ?_
 refine Y.pval F (X.w0 rfl) rfl (X.move rfl (F.e 2 rfl)) ?_
 clear F ac
 intro ac F
 refine Y.pval F (X.w0 rfl) rfl (X.binop rfl (F.e 13 rfl) (X.kc (Vi 1) rfl) (X.addI Try.underlying3 rfl (by omega) (by omega))) ?_
 clear F ac
 intro ac F
 obtain ⟨w4, hmk, hTo, g⟩ := make138 w3 (N := tn + 1) (x := (tn : Int) + 1) (by omega) (by omega)
 have htb : w.heap.size ≤ w3.heap.size := G.size
 refine Y.pval F (X.w0 rfl) rfl (Y.mk rfl (F.e 14 rfl) (F.e 14 rfl) hmk) ?_
 clear F ac hmk
 intro ac F
 replace G := G.trans g
 replace hC := hC.gr g
 clear g
 have hT : TbH w4 w3.heap.size tn (pn + 1) (onP pn qn sn tn) (tn + 1) (w4.heap.size) w.heap.size := TbH.new hTo htb hTo.lt
 clear hTo
 obtain ⟨tb, htbe⟩ : ∃ tb, w3.heap.size = tb := ⟨_, rfl⟩
 rw [htbe] at F hT htb
 have hsb2 : ¬ w.heap.size = tb := by omega
 refine Y.pval F (X.w0 rfl) rfl (X.assign rfl (F.e 15 rfl)) ?_
 clear F ac
 intro ac F
 refine Y.nil ?_
 replace F : Fr ac 102 [(0, .agg #[Vi gq, Vi aw, Vi za, Vi pn, Vi qn]), (1, Vi sn), (2, Vi tn), (3, Vp w.heap.size), (6, Vi 0), (7, .slice (some ⟨tb, 0, none⟩) (tn + 1) (tn + 1))] := F.sub _
 refine X.thenN ?_
 refine Y.seq ?_
 refine Y.seq ?_
 refine Y.lit (by kernel_rfl) ?_
 refine Y.pval F (X.w0 rfl) rfl (X.move rfl (F.e 2 rfl)) ?_
 clear F ac
 intro ac F
 refine Y.pval F (X.w0 rfl) rfl (X.assign rfl (F.e 16 rfl)) ?_
 clear F ac
 intro ac F
 refine Y.nil ?_
 replace F : Fr ac 102 [(0, .agg #[Vi gq, Vi aw, Vi za, Vi pn, Vi qn]), (1, Vi sn), (2, Vi tn), (3, Vp w.heap.size), (6, Vi 0), (7, .slice (some ⟨tb, 0, none⟩) (tn + 1) (tn + 1)), (8, Vi tn)] := F.sub _
 refine X.thenN ?_
 refine Y.block ?_
 refine Y.loop (fun me_ ac wr => ∃ (z : Nat), me_ = z + 1 ∧ z ≤ tn + 1 ∧ Gr w wr ∧ RCells wr [(Ad w.heap.size 0, Vi gq), (Ad w.heap.size 1, Vi aw), (Ad w.heap.size 2, Vi za), (Ad w.heap.size 3, Vi pn), (Ad w.heap.size 4, Vi qn)] ∧ TbH wr tb tn (pn + 1) (onP pn qn sn tn) z (wr.heap.size) w.heap.size ∧ Fr ac 102 [(0, .agg #[Vi gq, Vi aw, Vi za, Vi pn, Vi qn]), (1, Vi sn), (2, Vi tn), (3, Vp w.heap.size), (6, Vi 0), (7, .slice (some ⟨tb, 0, none⟩) (tn + 1) (tn + 1)), (8, Vi ((z : Int) - 1))]) _ ⟨tn + 1, rfl, Nat.le_refl _, G, hC, hT, (by rw [show ((tn + 1 : Nat) : Int) - 1 = (tn : Int) by omega]; exact F.sub _)⟩ ?_
 clear F hC hT G ac
 intro me_ ac w5 hI
 obtain ⟨z, rfl, hz, G, hC, hT, F⟩ := hI
 refine Y.seq ?_
 refine Y.seq ?_
 refine Y.lit (by kernel_rfl) ?_
 refine Y.pval F (X.w0 rfl) rfl (X.move rfl (F.e 8 rfl)) ?_
 clear F ac
 intro ac F
 refine Y.pval F (X.w0 rfl) rfl (X.binop rfl (F.e 17 rfl) (X.kc (Vi 0) rfl) (X.geqI Try.underlying3 rfl)) ?_
 clear F ac
 intro ac F
 refine Y.nil ?_
 replace F : Fr ac 102 [(0, .agg #[Vi gq, Vi aw, Vi za, Vi pn, Vi qn]), (1, Vi sn), (2, Vi tn), (3, Vp w.heap.size), (6, Vi 0), (7, .slice (some ⟨tb, 0, none⟩) (tn + 1) (tn + 1)), (8, Vi ((z : Int) - 1)), (18, .bool (decide ((0 : Int) ≤ ((z : Int) - 1))))] := F.sub _
 refine X.thenN ?_
 cases h6 : decide ((0 : Int) ≤ ((z : Int) - 1)) with
 | false =>
  try rw [h6] at F
  have h6p : ¬ ((0 : Int) ≤ ((z : Int) - 1)) := of_decide_eq_false h6
  obtain rfl : z = 0 := by omega
  refine Y.condF (F.e 18 rfl) ?_
  refine Y.exit ?_
  refine X.thenX ?_
  refine X.thenX ?_
  refine X.blockX ?_
  refine X.thenN ?_
  refine Y.seq ?_
  obtain ⟨rb7, hr7, hrl7, hrr7⟩ := hT.row (t := 0) (by omega) (by omega)
  replace hC : RCells w5 [(Ad w.heap.size 0, Vi gq), (Ad w.heap.size 1, Vi aw), (Ad w.heap.size 2, Vi za), (Ad w.heap.size 3, Vi pn), (Ad w.heap.size 4, Vi qn), (Ad tb 0, .slice (some ⟨rb7, 0, none⟩) (pn + 1) (pn + 1))] := hC.append ((RCells.cons hr7 (RCells.nil _)))
  replace hC : RCells w5 [(Ad w.heap.size 0, Vi gq), (Ad w.heap.size 1, Vi aw), (Ad w.heap.size 2, Vi za), (Ad w.heap.size 3, Vi pn), (Ad w.heap.size 4, Vi qn), (Ad tb 0, .slice (some ⟨rb7, 0, none⟩) (pn + 1) (pn + 1)), (⟨rb7, pn, none⟩, Vi (mvV (onP pn qn sn tn) 0 pn))] := hC.append ((RCells.cons (hrr7.cell (k := pn) (by omega)) (RCells.nil _)))
  refine Y.region F [some (.slice (some ⟨tb, 0, none⟩) (tn + 1) (tn + 1)), some (Vp tb), some (.slice (some ⟨rb7, 0, none⟩) (pn + 1) (pn + 1)), some (.pointer (some ⟨w.heap.size, 3, none⟩)), some (Vi pn), some (.pointer (some ⟨rb7, pn, none⟩)), some (Vi (mvV (onP pn qn sn tn) 0 pn)), some (Vi (mvV (onP pn qn sn tn) 0 pn))] [] rfl ⟨by kernel_rfl, of_decide_eq_true (by kernel_rfl), by kernel_rfl, by kernel_rfl, by kernel_rfl⟩ ⟨?_, ?_, ?_, ?_, ?_, ?_, ?_, ?_, trivial⟩ ?_
  ·intro ac done u W Sx hR
   exact X.val (X.w0 rfl) rfl (X.move rfl (Sx.ev 7 (.slice (some ⟨tb, 0, none⟩) (tn + 1) (tn + 1)))) (hR.step (Gr.refl _) rfl)
  ·intro ac done u W Sx hR
   exact X.val (X.w0 rfl) rfl (X.index rfl (Sx.ev 95 (.slice (some ⟨tb, 0, none⟩) (tn + 1) (tn + 1))) (X.kc (Vi 0) rfl) (X.idx (k := 0) Try.underlying138 (Try.siz34 _) (by omega) (by omega) (addr_own _ _))) (hR.step (Gr.refl _) rfl)
  ·intro ac done u W Sx hR
   have g : Gr w5 W := hR.1
   exact X.val (X.w0 rfl) rfl (X.load rfl (Sx.ev 96 (Vp tb)) (X.ld1 (Try.agg34 _) ((hC.gr g).at 5 rfl))) (hR.step (Gr.refl _) rfl)
  ·intro ac done u W Sx hR
   exact X.val (X.w0 rfl) rfl (X.field rfl (Sx.ev 3 (Vp w.heap.size)) (X.fld Try.underlying31 rfl (Try.siz3 _) rfl rfl)) (hR.step (Gr.refl _) rfl)
  ·intro ac done u W Sx hR
   have g : Gr w5 W := hR.1
   exact X.val (X.w0 rfl) rfl (X.load rfl (Sx.ev 98 (.pointer (some ⟨w.heap.size, 3, none⟩))) (X.ld1 (Try.agg3 _) ((hC.gr g).at 3 rfl))) (hR.step (Gr.refl _) rfl)
  ·intro ac done u W Sx hR
   exact X.val (X.w0 rfl) rfl (X.index rfl (Sx.ev 97 (.slice (some ⟨rb7, 0, none⟩) (pn + 1) (pn + 1))) (Sx.ev 99 (Vi pn)) (X.idx (k := pn) Try.underlying34 (Try.siz3 _) (by omega) (by omega) (addr_own _ _))) (hR.step (Gr.refl _) rfl)
  ·intro ac done u W Sx hR
   have g : Gr w5 W := hR.1
   exact X.val (X.w0 rfl) rfl (X.load rfl (Sx.ev 100 (.pointer (some ⟨rb7, pn, none⟩))) (X.ld1 (Try.agg3 _) ((hC.gr g).at 6 rfl))) (hR.step (Gr.refl _) rfl)
  ·intro ac done u W Sx hR
   exact X.val (X.w0 rfl) rfl (X.assign rfl (Sx.ev 101 (Vi (mvV (onP pn qn sn tn) 0 pn)))) (hR.step (Gr.refl _) rfl)
  intro ac u w8 hs hd hl ho hR
  have g : Gr w5 w8 := hR.1
  replace F : Fr ac 102 [(0, .agg #[Vi gq, Vi aw, Vi za, Vi pn, Vi qn]), (1, Vi sn), (2, Vi tn), (3, Vp w.heap.size), (6, Vi (mvV (onP pn qn sn tn) 0 pn)), (7, .slice (some ⟨tb, 0, none⟩) (tn + 1) (tn + 1)), (8, Vi ((0 : Int) - 1)), (18, .bool false)] := X.fr hs hd hl _ (by kernel_rfl)
  clear hs hd hl ho hR
  replace G := G.trans g
  replace hC := hC.gr g
  replace hT := hT.gr g
  replace hrr7 := hrr7.gr g
  clear g
  refine X.thenN ?_
  refine Y.ret ?_
  exact Y.ret0 (v := Vi (mvV (onP pn qn sn tn) 0 pn)) F (Y.rs1 F rfl (by kernel_rfl)) ⟨rfl, G⟩
 | true =>
  try rw [h6] at F
  have h6p : ((0 : Int) ≤ ((z : Int) - 1)) := of_decide_eq_true h6
  obtain ⟨y, rfl⟩ : ∃ y, z = y + 1 := ⟨z - 1, by omega⟩
  rw [show ((y + 1 : Nat) : Int) - 1 = (y : Int) by omega] at F
  refine Y.condT (F.e 18 rfl) ?_
  refine Y.skip ?_
  refine X.thenN ?_
  refine Y.seq ?_
  refine Y.block ?_
  refine Y.seq ?_
  refine Y.lit (by kernel_rfl) ?_
  refine Y.pval F (X.w0 rfl) rfl (X.move rfl (F.e 7 rfl)) ?_
  clear F ac
  intro ac F
  refine Y.pval F (X.w0 rfl) rfl (X.move rfl (F.e 8 rfl)) ?_
  clear F ac
  intro ac F
  refine Y.pval F (X.w0 rfl) rfl (X.field rfl (F.e 3 rfl) (X.fld Try.underlying31 rfl (Try.siz3 _) rfl rfl)) ?_
  clear F ac
  intro ac F
  refine Y.pval F (X.w0 rfl) rfl (X.load rfl (F.e 23 rfl) (X.ld1 (Try.agg3 _) (hC.at 3 rfl))) ?_
  clear F ac
  intro ac F
  refine Y.pval F (X.w0 rfl) rfl (X.binop rfl (F.e 24 rfl) (X.kc (Vi 1) rfl) (X.addI Try.underlying3 rfl (by omega) (by omega))) ?_
  clear F ac
  intro ac F
  obtain ⟨w9, hmk, hR, g⟩ := make34 w5 (N := pn + 1) (x := (pn : Int) + 1) (by omega) (by omega)
  have hrb : w.heap.size ≤ w5.heap.size := G.size
  have hTl := hT.lt
  have hsl : w.heap.size < w5.heap.size := lt_cell (hC.at 0 rfl)
  refine Y.pval F (X.w0 rfl) rfl (Y.mk rfl (F.e 25 rfl) (F.e 25 rfl) hmk) ?_
  clear F ac hmk
  intro ac F
  replace G := G.trans g
  replace hC := hC.gr g
  replace hT := hT.gr g
  clear g
  obtain ⟨rb, hrbe⟩ : ∃ rb, w5.heap.size = rb := ⟨_, rfl⟩
  rw [hrbe] at F hT hR hrb hTl hsl
  clear hrbe
  refine Y.pval F (X.w0 rfl) rfl (X.index rfl (F.e 21 rfl) (F.e 22 rfl) (X.idx (k := y) Try.underlying138 (Try.siz34 _) (by omega) (by omega) (addr_own _ _))) ?_
  clear F ac
  intro ac F
  refine Y.punit F (X.w0 rfl) rfl (X.store rfl (F.e 27 rfl) (F.e 26 rfl) (hT.st (by omega) rfl rfl)) ?_
  clear F ac
  intro ac F
  have hon := Y.set_only w9 tb y (.slice (some ⟨rb, 0, none⟩) (pn + 1) (pn + 1))
  obtain ⟨hT2, hR2, hyc⟩ := hT.lay (z := y) (rb := rb) (by omega) hR
  replace hyc := hyc (by omega)
  generalize w9.setCell ⟨tb, y, none⟩ (.slice (some ⟨rb, 0, none⟩) (pn + 1) (pn + 1)) = w10 at *
  clear hT hR
  have hT := hT2
  have hR := hR2
  clear hT2 hR2
  replace G := Y.Only.up G hon (by omega)
  replace hC := (hC.kc hon 0 rfl (hC.kc hon 1 rfl (hC.kc hon 2 rfl (hC.kc hon 3 rfl (hC.kc hon 4 rfl (RCells.nil _))))))
  replace hC : RCells w10 [(Ad w.heap.size 0, Vi gq), (Ad w.heap.size 1, Vi aw), (Ad w.heap.size 2, Vi za), (Ad w.heap.size 3, Vi pn), (Ad w.heap.size 4, Vi qn), (⟨tb, y, none⟩, .slice (some ⟨rb, 0, none⟩) (pn + 1) (pn + 1))] := hC.append ((RCells.cons hyc (RCells.nil _)))
  clear hon hyc
  refine Y.nil ?_
  replace F : Fr ac 102 [(0, .agg #[Vi gq, Vi aw, Vi za, Vi pn, Vi qn]), (1, Vi sn), (2, Vi tn), (3, Vp w.heap.size), (6, Vi 0), (7, .slice (some ⟨tb, 0, none⟩) (tn + 1) (tn + 1)), (8, Vi y), (18, .bool true)] := F.sub _
  refine X.thenN ?_
  refine Y.seq ?_
  refine Y.lit (by kernel_rfl) ?_
  refine Y.pval F (X.w0 rfl) rfl (X.assign rfl (X.kc (Vi 0) rfl)) ?_
  clear F ac
  intro ac F
  refine Y.nil ?_
  replace F : Fr ac 102 [(0, .agg #[Vi gq, Vi aw, Vi za, Vi pn, Vi qn]), (1, Vi sn), (2, Vi tn), (3, Vp w.heap.size), (6, Vi 0), (7, .slice (some ⟨tb, 0, none⟩) (tn + 1) (tn + 1)), (8, Vi y), (9, Vi 0), (18, .bool true)] := F.sub _
  refine X.thenN ?_
  refine Y.block ?_
  refine Y.loop (fun me_ ac wr => ∃ (x : Nat), me_ = pn + 1 - x ∧ x ≤ pn + 1 ∧ Gr w wr ∧ RCells wr [(Ad w.heap.size 0, Vi gq), (Ad w.heap.size 1, Vi aw), (Ad w.heap.size 2, Vi za), (Ad w.heap.size 3, Vi pn), (Ad w.heap.size 4, Vi qn), (⟨tb, y, none⟩, .slice (some ⟨rb, 0, none⟩) (pn + 1) (pn + 1))] ∧ TbH wr tb tn (pn + 1) (onP pn qn sn tn) (y + 1) (rb) w.heap.size ∧ OwnP wr rb (pn + 1) (EV (rowF (onP pn qn sn tn) y x)) ∧ Fr ac 102 [(0, .agg #[Vi gq, Vi aw, Vi za, Vi pn, Vi qn]), (1, Vi sn), (2, Vi tn), (3, Vp w.heap.size), (6, Vi 0), (7, .slice (some ⟨tb, 0, none⟩) (tn + 1) (tn + 1)), (8, Vi y), (9, Vi x), (18, .bool true)]) _ ⟨0, rfl, Nat.zero_le _, G, hC, hT, (hR.congr (row_zero _ _)), F.sub _⟩ ?_
  clear F hC hT G ac hR
  intro me_ ac w11 hI
  obtain ⟨x, rfl, hx, G, hC, hT, hR, F⟩ := hI
  refine Y.seq ?_
  refine Y.seq ?_
  refine Y.lit (by kernel_rfl) ?_
  refine Y.pval F (X.w0 rfl) rfl (X.move rfl (F.e 9 rfl)) ?_
  clear F ac
  intro ac F
  refine Y.pval F (X.w0 rfl) rfl (X.field rfl (F.e 3 rfl) (X.fld Try.underlying31 rfl (Try.siz3 _) rfl rfl)) ?_
  clear F ac
  intro ac F
  refine Y.pval F (X.w0 rfl) rfl (X.load rfl (F.e 29 rfl) (X.ld1 (Try.agg3 _) (hC.at 3 rfl))) ?_
  clear F ac
  intro ac F
  refine Y.pval F (X.w0 rfl) rfl (X.binop rfl (F.e 28 rfl) (F.e 30 rfl) (X.leqI Try.underlying3 rfl)) ?_
  clear F ac
  intro ac F
  refine Y.pval F (X.w0 rfl) rfl (X.move rfl (F.e 31 rfl)) ?_
  clear F ac
  intro ac F
  cases h12 : decide ((x : Int) ≤ pn) with
  | false =>
   try rw [h12] at F
   have h12p : ¬ ((x : Int) ≤ pn) := of_decide_eq_false h12
   refine Y.pskip F (X.w2 rfl (F.yl (j := 4) (d := 32) (b := false) rfl (by kernel_rfl)) rfl) rfl ?_
   clear F ac
   intro ac F
   refine Y.pskip F (X.w2 rfl (F.yl (j := 4) (d := 32) (b := false) rfl (by kernel_rfl)) rfl) rfl ?_
   clear F ac
   intro ac F
   refine Y.pskip F (X.w2 rfl (F.yl (j := 4) (d := 32) (b := false) rfl (by kernel_rfl)) rfl) rfl ?_
   clear F ac
   intro ac F
   refine Y.pval F (X.w0 rfl) rfl (X.pickF rfl (F.e 32 rfl) (X.kc (.bool false) rfl)) ?_
   clear F ac
   intro ac F
   refine Y.nil ?_
   replace F : Fr ac 102 [(0, .agg #[Vi gq, Vi aw, Vi za, Vi pn, Vi qn]), (1, Vi sn), (2, Vi tn), (3, Vp w.heap.size), (6, Vi 0), (7, .slice (some ⟨tb, 0, none⟩) (tn + 1) (tn + 1)), (8, Vi y), (9, Vi x), (18, .bool true), (36, .bool false)] := F.sub _
   refine X.thenN ?_
   refine Y.condF (F.e 36 rfl) ?_
   refine Y.exit ?_
   refine X.thenX ?_
   refine X.thenX ?_
   refine X.blockX ?_
   refine X.blockN ?_
   refine X.thenN ?_
   refine Y.lit (by kernel_rfl) ?_
   refine Y.pval F (X.w0 rfl) rfl (X.move rfl (F.e 8 rfl)) ?_
   clear F ac
   intro ac F
   refine Y.pval F (X.w0 rfl) rfl (X.binop rfl (F.e 19 rfl) (X.kc (Vi 1) rfl) (X.subI Try.underlying3 rfl (by omega) (by omega))) ?_
   clear F ac
   intro ac F
   refine Y.pval F (X.w0 rfl) rfl (X.assign rfl (F.e 20 rfl)) ?_
   clear F ac
   intro ac F
   refine Y.nil ?_
   replace F : Fr ac 102 [(0, .agg #[Vi gq, Vi aw, Vi za, Vi pn, Vi qn]), (1, Vi sn), (2, Vi tn), (3, Vp w.heap.size), (6, Vi 0), (7, .slice (some ⟨tb, 0, none⟩) (tn + 1) (tn + 1)), (8, Vi ((y : Int) - 1)), (9, Vi x), (18, .bool true), (36, .bool false)] := F.sub _
   refine X.thenN ?_
   have hRd := hR.congr (row_done (.inl (by omega)))
   replace hT := (hT.up (hi' := w11.heap.size) (by have := hR.lt; omega)).done (rb := rb) (by omega) hrb hR.lt (by omega) (hC.at 5 rfl) hRd
   replace hC : RCells w11 [(Ad w.heap.size 0, Vi gq), (Ad w.heap.size 1, Vi aw), (Ad w.heap.size 2, Vi za), (Ad w.heap.size 3, Vi pn), (Ad w.heap.size 4, Vi qn)] := (RCells.cons (hC.at 0 rfl) (RCells.cons (hC.at 1 rfl) (RCells.cons (hC.at 2 rfl) (RCells.cons (hC.at 3 rfl) (RCells.cons (hC.at 4 rfl) (RCells.nil _))))))
   refine ⟨_, ?_, y, rfl, by omega, G, hC, hT, F.sub _⟩
   omega
  | true =>
   try rw [h12] at F
   have h12p : ((x : Int) ≤ pn) := of_decide_eq_true h12
   refine Y.pval F (X.w1 rfl (F.yl (j := 4) (d := 32) (b := true) rfl (by kernel_rfl))) rfl (X.move rfl (F.e 8 rfl)) ?_
   clear F ac
   intro ac F
   refine Y.pval F (X.w1 rfl (F.yl (j := 4) (d := 32) (b := true) rfl (by kernel_rfl))) rfl (X.move rfl (F.e 2 rfl)) ?_
   clear F ac
   intro ac F
   refine Y.pval F (X.w1 rfl (F.yl (j := 4) (d := 32) (b := true) rfl (by kernel_rfl))) rfl (X.binop rfl (F.e 33 rfl) (F.e 34 rfl) (X.lssI Try.underlying3 rfl)) ?_
   clear F ac
   intro ac F
   refine Y.pval F (X.w0 rfl) rfl (X.pickT rfl (F.e 32 rfl) (F.e 35 rfl)) ?_
   clear F ac
   intro ac F
   refine Y.nil ?_
   replace F : Fr ac 102 [(0, .agg #[Vi gq, Vi aw, Vi za, Vi pn, Vi qn]), (1, Vi sn), (2, Vi tn), (3, Vp w.heap.size), (6, Vi 0), (7, .slice (some ⟨tb, 0, none⟩) (tn + 1) (tn + 1)), (8, Vi y), (9, Vi x), (18, .bool true), (36, .bool (decide ((y : Int) < tn)))] := F.sub _
   refine X.thenN ?_
   cases h13 : decide ((y : Int) < tn) with
   | false =>
    try rw [h13] at F
    have h13p : ¬ ((y : Int) < tn) := of_decide_eq_false h13
    refine Y.condF (F.e 36 rfl) ?_
    refine Y.exit ?_
    refine X.thenX ?_
    refine X.thenX ?_
    refine X.blockX ?_
    refine X.blockN ?_
    refine X.thenN ?_
    refine Y.lit (by kernel_rfl) ?_
    refine Y.pval F (X.w0 rfl) rfl (X.move rfl (F.e 8 rfl)) ?_
    clear F ac
    intro ac F
    refine Y.pval F (X.w0 rfl) rfl (X.binop rfl (F.e 19 rfl) (X.kc (Vi 1) rfl) (X.subI Try.underlying3 rfl (by omega) (by omega))) ?_
    clear F ac
    intro ac F
    refine Y.pval F (X.w0 rfl) rfl (X.assign rfl (F.e 20 rfl)) ?_
    clear F ac
    intro ac F
    refine Y.nil ?_
    replace F : Fr ac 102 [(0, .agg #[Vi gq, Vi aw, Vi za, Vi pn, Vi qn]), (1, Vi sn), (2, Vi tn), (3, Vp w.heap.size), (6, Vi 0), (7, .slice (some ⟨tb, 0, none⟩) (tn + 1) (tn + 1)), (8, Vi ((y : Int) - 1)), (9, Vi x), (18, .bool true), (36, .bool false)] := F.sub _
    refine X.thenN ?_
    have hRd := hR.congr (row_done (.inr (by show (tn : Int) ≤ (y : Int); omega)))
    replace hT := (hT.up (hi' := w11.heap.size) (by have := hR.lt; omega)).done (rb := rb) (by omega) hrb hR.lt (by omega) (hC.at 5 rfl) hRd
    replace hC : RCells w11 [(Ad w.heap.size 0, Vi gq), (Ad w.heap.size 1, Vi aw), (Ad w.heap.size 2, Vi za), (Ad w.heap.size 3, Vi pn), (Ad w.heap.size 4, Vi qn)] := (RCells.cons (hC.at 0 rfl) (RCells.cons (hC.at 1 rfl) (RCells.cons (hC.at 2 rfl) (RCells.cons (hC.at 3 rfl) (RCells.cons (hC.at 4 rfl) (RCells.nil _))))))
    refine ⟨_, ?_, y, rfl, by omega, G, hC, hT, F.sub _⟩
    omega
   | true =>
    try rw [h13] at F
    have h13p : ((y : Int) < tn) := of_decide_eq_true h13
    have hgb := gnV_bd hpk (x := (x : Int)) (a := (y : Int)) (by omega) (by show (x : Int) ≤ (pn : Int); omega) 1
    obtain ⟨v, hgv⟩ : ∃ v : Nat, gnV (onP pn qn sn tn) x y 1 = v := ⟨(gnV (onP pn qn sn tn) x y 1).toNat, by omega⟩
    rw [hgv] at hgb
    have hvb : v ≤ pn := by have h9 : (v : Int) ≤ (pn : Int) := hgb.2; omega
    have hrv : refV (onP pn qn sn tn) y x = v := by rw [← hgv]; simp only [gnV]; rw [show (y : Int) + ((0 : Nat) : Int) = y by omega]
    clear hgb
    refine Y.condT (F.e 36 rfl) ?_
    refine Y.skip ?_
    refine X.thenN ?_
    refine Y.seq ?_
    refine Y.block ?_
    refine Y.seq ?_
    refine Y.lit (by kernel_rfl) ?_
    refine Y.pval F (X.w0 rfl) rfl (X.load rfl (F.e 3 rfl) (X.ldN (Try.agg31 _) (Try.siz31 _) (Y.atz (⟨w.heap.size, 0, none⟩) (Y.AtFrom.cons (hC.at 0 rfl) (Y.AtFrom.cons (hC.at 1 rfl) (Y.AtFrom.cons (hC.at 2 rfl) (Y.AtFrom.cons (hC.at 3 rfl) (Y.AtFrom.cons (hC.at 4 rfl) (Y.AtFrom.nil _ _ _))))))))) ?_
    clear F ac
    intro ac F
    refine Y.pval F (X.w0 rfl) rfl (X.move rfl (F.e 9 rfl)) ?_
    clear F ac
    intro ac F
    refine Y.pval F (X.w0 rfl) rfl (X.move rfl (F.e 8 rfl)) ?_
    clear F ac
    intro ac F
    refine Y.pval F (X.w0 rfl) rfl (X.move rfl (F.e 8 rfl)) ?_
    clear F ac
    intro ac F
    refine Y.pcall F (X.w0 rfl) rfl (X.enter (F := 87) rfl (X.kc (.func (.func 87) #[] #[]) rfl) (X.a4 (F.e 39 rfl) (F.e 40 rfl) (F.e 41 rfl) (F.e 42 rfl)) (enters_of Try.func87 (by kernel_rfl) rfl _)) (by have hq := gain_any gq aw za (onP pn qn sn tn) (x : Int) (y : Int) (y : Int) 1 w11 hpk ⟨by omega, by show (x : Int) ≤ (pn : Int); omega⟩ (by omega) (by omega) (by omega); rw [hgv] at hq; exact hq) ?_
    clear F ac
    rintro e w14 ⟨rfl, g⟩
    refine ⟨_, rfl, ?_⟩
    intro ac F
    replace G := G.trans g
    replace hC := hC.gr g
    replace hT := hT.gr g
    replace hR := hR.gr g
    clear g
    refine Y.pval F (X.w0 rfl) rfl (X.assign rfl (F.e 43 rfl)) ?_
    clear F ac
    intro ac F
    refine Y.nil ?_
    replace F : Fr ac 102 [(0, .agg #[Vi gq, Vi aw, Vi za, Vi pn, Vi qn]), (1, Vi sn), (2, Vi tn), (3, Vp w.heap.size), (6, Vi 0), (7, .slice (some ⟨tb, 0, none⟩) (tn + 1) (tn + 1)), (8, Vi y), (9, Vi x), (10, Vi v), (18, .bool true), (36, .bool true)] := F.sub _
    refine X.thenN ?_
    refine Y.seq ?_
    refine Y.lit (by kernel_rfl) ?_
    refine Y.pval F (X.w0 rfl) rfl (X.move rfl (F.e 7 rfl)) ?_
    clear F ac
    intro ac F
    refine Y.pval F (X.w0 rfl) rfl (X.move rfl (F.e 8 rfl)) ?_
    clear F ac
    intro ac F
    refine Y.pval F (X.w0 rfl) rfl (X.binop rfl (F.e 45 rfl) (X.kc (Vi 1) rfl) (X.addI Try.underlying3 rfl (by omega) (by omega))) ?_
    clear F ac
    intro ac F
    refine Y.pval F (X.w0 rfl) rfl (X.index rfl (F.e 44 rfl) (F.e 46 rfl) (X.idx (k := (y + 1)) Try.underlying138 (Try.siz34 _) (by omega) (by omega) (addr_own _ _))) ?_
    clear F ac
    intro ac F
    obtain ⟨rb15, hr15, hrl15, hrr15⟩ := hT.row (t := (y + 1)) (by omega) (by omega)
    replace hC : RCells w14 [(Ad w.heap.size 0, Vi gq), (Ad w.heap.size 1, Vi aw), (Ad w.heap.size 2, Vi za), (Ad w.heap.size 3, Vi pn), (Ad w.heap.size 4, Vi qn), (⟨tb, y, none⟩, .slice (some ⟨rb, 0, none⟩) (pn + 1) (pn + 1)), (⟨tb, (y + 1), none⟩, .slice (some ⟨rb15, 0, none⟩) (pn + 1) (pn + 1))] := hC.append ((RCells.cons hr15 (RCells.nil _)))
    refine Y.pval F (X.w0 rfl) rfl (X.load rfl (F.e 47 rfl) (X.ld1 (Try.agg34 _) (hC.at 6 rfl))) ?_
    clear F ac
    intro ac F
    refine Y.pval F (X.w0 rfl) rfl (X.move rfl (F.e 10 rfl)) ?_
    clear F ac
    intro ac F
    refine Y.pval F (X.w0 rfl) rfl (X.index rfl (F.e 48 rfl) (F.e 49 rfl) (X.idx (k := v) Try.underlying34 (Try.siz3 _) (by omega) (by omega) (addr_own _ _))) ?_
    clear F ac
    intro ac F
    replace hC : RCells w14 [(Ad w.heap.size 0, Vi gq), (Ad w.heap.size 1, Vi aw), (Ad w.heap.size 2, Vi za), (Ad w.heap.size 3, Vi pn), (Ad w.heap.size 4, Vi qn), (⟨tb, y, none⟩, .slice (some ⟨rb, 0, none⟩) (pn + 1) (pn + 1)), (⟨tb, (y + 1), none⟩, .slice (some ⟨rb15, 0, none⟩) (pn + 1) (pn + 1)), (⟨rb15, v, none⟩, Vi (mvV (onP pn qn sn tn) ((y : Int) + 1) v))] := hC.append ((RCells.cons (hrr15.cell (k := v) (by omega)) (RCells.nil _)))
    refine Y.pval F (X.w0 rfl) rfl (X.load rfl (F.e 50 rfl) (X.ld1 (Try.agg3 _) (hC.at 7 rfl))) ?_
    clear F ac
    intro ac F
    refine Y.pval F (X.w0 rfl) rfl (X.assign rfl (F.e 51 rfl)) ?_
    clear F ac
    intro ac F
    refine Y.nil ?_
    replace F : Fr ac 102 [(0, .agg #[Vi gq, Vi aw, Vi za, Vi pn, Vi qn]), (1, Vi sn), (2, Vi tn), (3, Vp w.heap.size), (6, Vi 0), (7, .slice (some ⟨tb, 0, none⟩) (tn + 1) (tn + 1)), (8, Vi y), (9, Vi x), (10, Vi v), (11, Vi (mvV (onP pn qn sn tn) ((y : Int) + 1) v)), (18, .bool true), (36, .bool true)] := F.sub _
    refine X.thenN ?_
    refine Y.seq ?_
    refine Y.seq ?_
    refine Y.lit (by kernel_rfl) ?_
    refine Y.pval F (X.w0 rfl) rfl (X.move rfl (F.e 10 rfl)) ?_
    clear F ac
    intro ac F
    refine Y.pval F (X.w0 rfl) rfl (X.binop rfl (F.e 52 rfl) (X.kc (Vi 0) rfl) (X.gtrI Try.underlying3 rfl)) ?_
    clear F ac
    intro ac F
    refine Y.nil ?_
    replace F : Fr ac 102 [(0, .agg #[Vi gq, Vi aw, Vi za, Vi pn, Vi qn]), (1, Vi sn), (2, Vi tn), (3, Vp w.heap.size), (6, Vi 0), (7, .slice (some ⟨tb, 0, none⟩) (tn + 1) (tn + 1)), (8, Vi y), (9, Vi x), (10, Vi v), (11, Vi (mvV (onP pn qn sn tn) ((y : Int) + 1) v)), (18, .bool true), (36, .bool true), (53, .bool (decide ((0 : Int) < v)))] := F.sub _
    refine X.thenN ?_
    cases h16 : decide ((0 : Int) < v) with
    | false =>
     try rw [h16] at F
     have h16p : ¬ ((0 : Int) < v) := of_decide_eq_false h16
     refine Y.condF (F.e 53 rfl) ?_
     refine Y.skip ?_
     refine X.thenN ?_
     refine Y.lit (by kernel_rfl) ?_
     refine Y.pval F (X.w0 rfl) rfl (X.move rfl (F.e 7 rfl)) ?_
     clear F ac
     intro ac F
     refine Y.pval F (X.w0 rfl) rfl (X.move rfl (F.e 8 rfl)) ?_
     clear F ac
     intro ac F
     refine Y.pval F (X.w0 rfl) rfl (X.index rfl (F.e 88 rfl) (F.e 89 rfl) (X.idx (k := y) Try.underlying138 (Try.siz34 _) (by omega) (by omega) (addr_own _ _))) ?_
     clear F ac
     intro ac F
     refine Y.pval F (X.w0 rfl) rfl (X.load rfl (F.e 90 rfl) (X.ld1 (Try.agg34 _) (hC.at 5 rfl))) ?_
     clear F ac
     intro ac F
     refine Y.pval F (X.w0 rfl) rfl (X.move rfl (F.e 9 rfl)) ?_
     clear F ac
     intro ac F
     refine Y.pval F (X.w0 rfl) rfl (X.move rfl (F.e 11 rfl)) ?_
     clear F ac
     intro ac F
     refine Y.pval F (X.w0 rfl) rfl (X.index rfl (F.e 91 rfl) (F.e 92 rfl) (X.idx (k := x) Try.underlying34 (Try.siz3 _) (by omega) (by omega) (addr_own _ _))) ?_
     clear F ac
     intro ac F
     have hval : (mvV (onP pn qn sn tn) ((y : Int) + 1) v : Int) = mvV (onP pn qn sn tn) y x := by rw [mv_stay (t := (y : Int)) (x := (x : Int)) rfl (by show (y : Int) < (tn : Int); omega) (by rw [hrv]; omega), hrv]
     refine Y.punit F (X.w0 rfl) rfl (X.store rfl (F.e 94 rfl) (F.e 93 rfl) (hR.st1 (Try.siz3 _) rfl rfl (by omega))) ?_
     clear F ac
     intro ac F
     have hon := Y.set_only w14 rb x (Vi (mvV (onP pn qn sn tn) ((y : Int) + 1) v))
     have hR2 := hR.set (k := x) (Vi (mvV (onP pn qn sn tn) ((y : Int) + 1) v))
     rw [EV_up] at hR2
     generalize w14.setCell ⟨rb, x, none⟩ (Vi (mvV (onP pn qn sn tn) ((y : Int) + 1) v)) = w17 at *
     clear hR
     replace hT := hT.only hon (by intro b h1 h2; omega)
     replace G := Y.Only.up G hon (by omega)
     replace hC := (hC.kc hon 0 rfl (hC.kc hon 1 rfl (hC.kc hon 2 rfl (hC.kc hon 3 rfl (hC.kc hon 4 rfl (hC.kc hon 5 rfl (RCells.nil _)))))))
     have hR := hR2.congr (row_up hval)
     clear hR2 hon hval
     refine Y.nil ?_
     replace F : Fr ac 102 [(0, .agg #[Vi gq, Vi aw, Vi za, Vi pn, Vi qn]), (1, Vi sn), (2, Vi tn), (3, Vp w.heap.size), (6, Vi 0), (7, .slice (some ⟨tb, 0, none⟩) (tn + 1) (tn + 1)), (8, Vi y), (9, Vi x), (10, Vi v), (11, Vi (mvV (onP pn qn sn tn) ((y : Int) + 1) v)), (18, .bool true), (36, .bool true), (53, .bool false)] := F.sub _
     refine X.blockN ?_
     refine X.thenN ?_
     refine Y.lit (by kernel_rfl) ?_
     refine Y.pval F (X.w0 rfl) rfl (X.move rfl (F.e 9 rfl)) ?_
     clear F ac
     intro ac F
     refine Y.pval F (X.w0 rfl) rfl (X.binop rfl (F.e 37 rfl) (X.kc (Vi 1) rfl) (X.addI Try.underlying3 rfl (by omega) (by omega))) ?_
     clear F ac
     intro ac F
     refine Y.pval F (X.w0 rfl) rfl (X.assign rfl (F.e 38 rfl)) ?_
     clear F ac
     intro ac F
     refine Y.nil ?_
     replace F : Fr ac 102 [(0, .agg #[Vi gq, Vi aw, Vi za, Vi pn, Vi qn]), (1, Vi sn), (2, Vi tn), (3, Vp w.heap.size), (6, Vi 0), (7, .slice (some ⟨tb, 0, none⟩) (tn + 1) (tn + 1)), (8, Vi y), (9, Vi ((x : Int) + 1)), (10, Vi v), (11, Vi (mvV (onP pn qn sn tn) ((y : Int) + 1) v)), (18, .bool true), (36, .bool true), (53, .bool false)] := F.sub _
     refine X.thenN ?_
     refine ⟨_, ?_, x + 1, rfl, by omega, G, hC, hT, hR, F.sub _⟩
     omega
    | true =>
     try rw [h16] at F
     have h16p : ((0 : Int) < v) := of_decide_eq_true h16
     have hgb := gnV_bd hpk (x := (v : Int) - 1) (a := (y : Int) + 1) (by omega) (by show (v : Int) - 1 ≤ (pn : Int); omega) sn
     obtain ⟨q, hgu⟩ : ∃ q : Nat, gnV (onP pn qn sn tn) ((v : Int) - 1) ((y : Int) + 1) sn = q := ⟨(gnV (onP pn qn sn tn) ((v : Int) - 1) ((y : Int) + 1) sn).toNat, by omega⟩
     rw [hgu] at hgb
     have hub : q ≤ pn := by have h9 : (q : Int) ≤ (pn : Int) := hgb.2; omega
     clear hgb
     refine Y.condT (F.e 53 rfl) ?_
     refine Y.seq ?_
     refine Y.lit (by kernel_rfl) ?_
     refine Y.pval F (X.w0 rfl) rfl (X.move rfl (F.e 1 rfl)) ?_
     clear F ac
     intro ac F
     refine Y.pval F (X.w0 rfl) rfl (X.move rfl (F.e 2 rfl)) ?_
     clear F ac
     intro ac F
     refine Y.pval F (X.w0 rfl) rfl (X.move rfl (F.e 8 rfl)) ?_
     clear F ac
     intro ac F
     refine Y.pval F (X.w0 rfl) rfl (X.binop rfl (F.e 55 rfl) (F.e 56 rfl) (X.subI Try.underlying3 rfl (by omega) (by omega))) ?_
     clear F ac
     intro ac F
     refine Y.pval F (X.w0 rfl) rfl (Y.min2 rfl (F.e 54 rfl) (F.e 57 rfl)) ?_
     clear F ac
     intro ac F
     refine Y.pval F (X.w0 rfl) rfl (X.assign rfl (F.e 58 rfl)) ?_
     clear F ac
     intro ac F
     refine Y.nil ?_
     replace F : Fr ac 102 [(0, .agg #[Vi gq, Vi aw, Vi za, Vi pn, Vi qn]), (1, Vi sn), (2, Vi tn), (3, Vp w.heap.size), (6, Vi 0), (7, .slice (some ⟨tb, 0, none⟩) (tn + 1) (tn + 1)), (8, Vi y), (9, Vi x), (10, Vi v), (11, Vi (mvV (onP pn qn sn tn) ((y : Int) + 1) v)), (12, Vi (min (sn : Int) ((tn : Int) - y : Int))), (18, .bool true), (36, .bool true), (53, .bool true)] := F.sub _
     refine X.thenN ?_
     refine Y.seq ?_
     refine Y.seq ?_
     refine Y.lit (by kernel_rfl) ?_
     refine Y.pval F (X.w0 rfl) rfl (X.move rfl (F.e 8 rfl)) ?_
     clear F ac
     intro ac F
     refine Y.pval F (X.w0 rfl) rfl (X.move rfl (F.e 1 rfl)) ?_
     clear F ac
     intro ac F
     refine Y.pval F (X.w0 rfl) rfl (X.binop rfl (F.e 59 rfl) (F.e 60 rfl) (X.addI Try.underlying3 rfl (by omega) (by omega))) ?_
     clear F ac
     intro ac F
     refine Y.pval F (X.w0 rfl) rfl (X.binop rfl (F.e 61 rfl) (X.kc (Vi 1) rfl) (X.addI Try.underlying3 rfl (by omega) (by omega))) ?_
     clear F ac
     intro ac F
     refine Y.pval F (X.w0 rfl) rfl (X.move rfl (F.e 2 rfl)) ?_
     clear F ac
     intro ac F
     refine Y.pval F (X.w0 rfl) rfl (X.binop rfl (F.e 62 rfl) (F.e 63 rfl) (X.leqI Try.underlying3 rfl)) ?_
     clear F ac
     intro ac F
     refine Y.nil ?_
     replace F : Fr ac 102 [(0, .agg #[Vi gq, Vi aw, Vi za, Vi pn, Vi qn]), (1, Vi sn), (2, Vi tn), (3, Vp w.heap.size), (6, Vi 0), (7, .slice (some ⟨tb, 0, none⟩) (tn + 1) (tn + 1)), (8, Vi y), (9, Vi x), (10, Vi v), (11, Vi (mvV (onP pn qn sn tn) ((y : Int) + 1) v)), (12, Vi (min (sn : Int) ((tn : Int) - y : Int))), (18, .bool true), (36, .bool true), (53, .bool true), (64, .bool (decide ((((y : Int) + sn : Int) + 1 : Int) ≤ tn)))] := F.sub _
     refine X.thenN ?_
     cases h18 : decide ((((y : Int) + sn : Int) + 1 : Int) ≤ tn) with
     | false =>
      try rw [h18] at F
      have h18p : ¬ ((((y : Int) + sn : Int) + 1 : Int) ≤ tn) := of_decide_eq_false h18
      refine Y.condF (F.e 64 rfl) ?_
      refine Y.skip ?_
      refine X.thenN ?_
      refine Y.lit (by kernel_rfl) ?_
      refine Y.pval F (X.w0 rfl) rfl (X.move rfl (F.e 11 rfl)) ?_
      clear F ac
      intro ac F
      refine Y.pval F (X.w0 rfl) rfl (X.move rfl (F.e 12 rfl)) ?_
      clear F ac
      intro ac F
      refine Y.pval F (X.w0 rfl) rfl (Y.max2 rfl (F.e 85 rfl) (F.e 86 rfl)) ?_
      clear F ac
      intro ac F
      refine Y.pval F (X.w0 rfl) rfl (X.assign rfl (F.e 87 rfl)) ?_
      clear F ac
      intro ac F
      refine Y.nil ?_
      replace F : Fr ac 102 [(0, .agg #[Vi gq, Vi aw, Vi za, Vi pn, Vi qn]), (1, Vi sn), (2, Vi tn), (3, Vp w.heap.size), (6, Vi 0), (7, .slice (some ⟨tb, 0, none⟩) (tn + 1) (tn + 1)), (8, Vi y), (9, Vi x), (10, Vi v), (11, Vi (max (mvV (onP pn qn sn tn) ((y : Int) + 1) v : Int) ((min (sn : Int) ((tn : Int) - y : Int)) : Int))), (12, Vi (min (sn : Int) ((tn : Int) - y : Int))), (18, .bool true), (36, .bool true), (53, .bool true), (64, .bool false)] := F.sub _
      refine X.thenN ?_
      refine Y.lit (by kernel_rfl) ?_
      refine Y.pval F (X.w0 rfl) rfl (X.move rfl (F.e 7 rfl)) ?_
      clear F ac
      intro ac F
      refine Y.pval F (X.w0 rfl) rfl (X.move rfl (F.e 8 rfl)) ?_
      clear F ac
      intro ac F
      refine Y.pval F (X.w0 rfl) rfl (X.index rfl (F.e 88 rfl) (F.e 89 rfl) (X.idx (k := y) Try.underlying138 (Try.siz34 _) (by omega) (by omega) (addr_own _ _))) ?_
      clear F ac
      intro ac F
      refine Y.pval F (X.w0 rfl) rfl (X.load rfl (F.e 90 rfl) (X.ld1 (Try.agg34 _) (hC.at 5 rfl))) ?_
      clear F ac
      intro ac F
      refine Y.pval F (X.w0 rfl) rfl (X.move rfl (F.e 9 rfl)) ?_
      clear F ac
      intro ac F
      refine Y.pval F (X.w0 rfl) rfl (X.move rfl (F.e 11 rfl)) ?_
      clear F ac
      intro ac F
      refine Y.pval F (X.w0 rfl) rfl (X.index rfl (F.e 91 rfl) (F.e 92 rfl) (X.idx (k := x) Try.underlying34 (Try.siz3 _) (by omega) (by omega) (addr_own _ _))) ?_
      clear F ac
      intro ac F
      have hval : ((max (mvV (onP pn qn sn tn) ((y : Int) + 1) v : Int) ((min (sn : Int) ((tn : Int) - y : Int)) : Int)) : Int) = mvV (onP pn qn sn tn) y x := by rw [mv_wake (t := (y : Int)) (x := (x : Int)) hpk rfl rfl (by show (y : Int) < (tn : Int); omega) (by rw [hrv]; omega), hrv]; unfold wakeV; rw [if_neg (by show ¬ (y : Int) + (sn : Int) + 1 ≤ (tn : Int); omega), Int.add_zero]; rfl
      refine Y.punit F (X.w0 rfl) rfl (X.store rfl (F.e 94 rfl) (F.e 93 rfl) (hR.st1 (Try.siz3 _) rfl rfl (by omega))) ?_
      clear F ac
      intro ac F
      have hon := Y.set_only w14 rb x (Vi (max (mvV (onP pn qn sn tn) ((y : Int) + 1) v : Int) ((min (sn : Int) ((tn : Int) - y : Int)) : Int)))
      have hR2 := hR.set (k := x) (Vi (max (mvV (onP pn qn sn tn) ((y : Int) + 1) v : Int) ((min (sn : Int) ((tn : Int) - y : Int)) : Int)))
      rw [EV_up] at hR2
      generalize w14.setCell ⟨rb, x, none⟩ (Vi (max (mvV (onP pn qn sn tn) ((y : Int) + 1) v : Int) ((min (sn : Int) ((tn : Int) - y : Int)) : Int))) = w19 at *
      clear hR
      replace hT := hT.only hon (by intro b h1 h2; omega)
      replace G := Y.Only.up G hon (by omega)
      replace hC := (hC.kc hon 0 rfl (hC.kc hon 1 rfl (hC.kc hon 2 rfl (hC.kc hon 3 rfl (hC.kc hon 4 rfl (hC.kc hon 5 rfl (RCells.nil _)))))))
      have hR := hR2.congr (row_up hval)
      clear hR2 hon hval
      refine Y.nil ?_
      replace F : Fr ac 102 [(0, .agg #[Vi gq, Vi aw, Vi za, Vi pn, Vi qn]), (1, Vi sn), (2, Vi tn), (3, Vp w.heap.size), (6, Vi 0), (7, .slice (some ⟨tb, 0, none⟩) (tn + 1) (tn + 1)), (8, Vi y), (9, Vi x), (10, Vi v), (11, Vi (max (mvV (onP pn qn sn tn) ((y : Int) + 1) v : Int) ((min (sn : Int) ((tn : Int) - y : Int)) : Int))), (12, Vi (min (sn : Int) ((tn : Int) - y : Int))), (18, .bool true), (36, .bool true), (53, .bool true), (64, .bool false)] := F.sub _
      refine X.blockN ?_
      refine X.thenN ?_
      refine Y.lit (by kernel_rfl) ?_
      refine Y.pval F (X.w0 rfl) rfl (X.move rfl (F.e 9 rfl)) ?_
      clear F ac
      intro ac F
      refine Y.pval F (X.w0 rfl) rfl (X.binop rfl (F.e 37 rfl) (X.kc (Vi 1) rfl) (X.addI Try.underlying3 rfl (by omega) (by omega))) ?_
      clear F ac
      intro ac F
      refine Y.pval F (X.w0 rfl) rfl (X.assign rfl (F.e 38 rfl)) ?_
      clear F ac
      intro ac F
      refine Y.nil ?_
      replace F : Fr ac 102 [(0, .agg #[Vi gq, Vi aw, Vi za, Vi pn, Vi qn]), (1, Vi sn), (2, Vi tn), (3, Vp w.heap.size), (6, Vi 0), (7, .slice (some ⟨tb, 0, none⟩) (tn + 1) (tn + 1)), (8, Vi y), (9, Vi ((x : Int) + 1)), (10, Vi v), (11, Vi (max (mvV (onP pn qn sn tn) ((y : Int) + 1) v : Int) ((min (sn : Int) ((tn : Int) - y : Int)) : Int))), (12, Vi (min (sn : Int) ((tn : Int) - y : Int))), (18, .bool true), (36, .bool true), (53, .bool true), (64, .bool false)] := F.sub _
      refine X.thenN ?_
      refine ⟨_, ?_, x + 1, rfl, by omega, G, hC, hT, hR, F.sub _⟩
      omega
     | true =>
      try rw [h18] at F
      have h18p : ((((y : Int) + sn : Int) + 1 : Int) ≤ tn) := of_decide_eq_true h18
      have hmb : 0 ≤ mvV (onP pn qn sn tn) ((y : Int) + sn + 1) q ∧ mvV (onP pn qn sn tn) ((y : Int) + sn + 1) q ≤ (tn : Int) - ((y : Int) + sn + 1) := mv_bd rfl rfl ((y : Int) + sn + 1) q (by show (y : Int) + sn + 1 ≤ (tn : Int); omega)
      refine Y.condT (F.e 64 rfl) ?_
      obtain ⟨rb20, hr20, hrl20, hrr20⟩ := hT.row (t := (y + sn + 1)) (by omega) (by omega)
      replace hC : RCells w14 [(Ad w.heap.size 0, Vi gq), (Ad w.heap.size 1, Vi aw), (Ad w.heap.size 2, Vi za), (Ad w.heap.size 3, Vi pn), (Ad w.heap.size 4, Vi qn), (⟨tb, y, none⟩, .slice (some ⟨rb, 0, none⟩) (pn + 1) (pn + 1)), (⟨tb, (y + 1), none⟩, .slice (some ⟨rb15, 0, none⟩) (pn + 1) (pn + 1)), (⟨rb15, v, none⟩, Vi (mvV (onP pn qn sn tn) ((y : Int) + 1) v)), (⟨tb, (y + sn + 1), none⟩, .slice (some ⟨rb20, 0, none⟩) (pn + 1) (pn + 1))] := hC.append ((RCells.cons hr20 (RCells.nil _)))
      replace hC : RCells w14 [(Ad w.heap.size 0, Vi gq), (Ad w.heap.size 1, Vi aw), (Ad w.heap.size 2, Vi za), (Ad w.heap.size 3, Vi pn), (Ad w.heap.size 4, Vi qn), (⟨tb, y, none⟩, .slice (some ⟨rb, 0, none⟩) (pn + 1) (pn + 1)), (⟨tb, (y + 1), none⟩, .slice (some ⟨rb15, 0, none⟩) (pn + 1) (pn + 1)), (⟨rb15, v, none⟩, Vi (mvV (onP pn qn sn tn) ((y : Int) + 1) v)), (⟨tb, (y + sn + 1), none⟩, .slice (some ⟨rb20, 0, none⟩) (pn + 1) (pn + 1)), (⟨rb20, q, none⟩, Vi (mvV (onP pn qn sn tn) ((y : Int) + sn + 1) q))] := hC.append ((RCells.cons (hrr20.cell (k := q) (by omega)) (RCells.nil _)))
      refine Y.region F [some (Vi (min (sn : Int) ((tn : Int) - y : Int))), some (.slice (some ⟨tb, 0, none⟩) (tn + 1) (tn + 1)), some (Vi y), some (Vi sn), some (Vi ((y : Int) + sn)), some (Vi (((y : Int) + sn : Int) + 1)), some (.pointer (some ⟨tb, (y + sn + 1), none⟩)), some (.slice (some ⟨rb20, 0, none⟩) (pn + 1) (pn + 1)), some (.agg #[Vi gq, Vi aw, Vi za, Vi pn, Vi qn]), some (Vi v), some (Vi ((v : Int) - 1)), some (Vi y), some (Vi ((y : Int) + 1)), some (Vi y), some (Vi sn), some (Vi ((y : Int) + sn)), some (Vi q), some (.pointer (some ⟨rb20, q, none⟩)), some (Vi (mvV (onP pn qn sn tn) ((y : Int) + sn + 1) q)), some (Vi (((min (sn : Int) ((tn : Int) - y : Int)) : Int) + (mvV (onP pn qn sn tn) ((y : Int) + sn + 1) q))), some (Vi (((min (sn : Int) ((tn : Int) - y : Int)) : Int) + (mvV (onP pn qn sn tn) ((y : Int) + sn + 1) q)))] [] rfl ⟨by kernel_rfl, of_decide_eq_true (by kernel_rfl), by kernel_rfl, by kernel_rfl, by kernel_rfl⟩ ⟨?_, ?_, ?_, ?_, ?_, ?_, ?_, ?_, ?_, ?_, ?_, ?_, ?_, ?_, ?_, ?_, ?_, ?_, ?_, ?_, ?_, trivial⟩ ?_
      ·intro ac done u W Sx hR
       exact X.val (X.w0 rfl) rfl (X.move rfl (Sx.ev 12 (Vi (min (sn : Int) ((tn : Int) - y : Int))))) (hR.step (Gr.refl _) rfl)
      ·intro ac done u W Sx hR
       exact X.val (X.w0 rfl) rfl (X.move rfl (Sx.ev 7 (.slice (some ⟨tb, 0, none⟩) (tn + 1) (tn + 1)))) (hR.step (Gr.refl _) rfl)
      ·intro ac done u W Sx hR
       exact X.val (X.w0 rfl) rfl (X.move rfl (Sx.ev 8 (Vi y))) (hR.step (Gr.refl _) rfl)
      ·intro ac done u W Sx hR
       exact X.val (X.w0 rfl) rfl (X.move rfl (Sx.ev 1 (Vi sn))) (hR.step (Gr.refl _) rfl)
      ·intro ac done u W Sx hR
       exact X.val (X.w0 rfl) rfl (X.binop rfl (Sx.ev 67 (Vi y)) (Sx.ev 68 (Vi sn)) (X.addI Try.underlying3 rfl (by omega) (by omega))) (hR.step (Gr.refl _) rfl)
      ·intro ac done u W Sx hR
       exact X.val (X.w0 rfl) rfl (X.binop rfl (Sx.ev 69 (Vi ((y : Int) + sn))) (X.kc (Vi 1) rfl) (X.addI Try.underlying3 rfl (by omega) (by omega))) (hR.step (Gr.refl _) rfl)
      ·intro ac done u W Sx hR
       exact X.val (X.w0 rfl) rfl (X.index rfl (Sx.ev 66 (.slice (some ⟨tb, 0, none⟩) (tn + 1) (tn + 1))) (Sx.ev 70 (Vi (((y : Int) + sn : Int) + 1))) (X.idx (k := (y + sn + 1)) Try.underlying138 (Try.siz34 _) (by omega) (by omega) (addr_own _ _))) (hR.step (Gr.refl _) rfl)
      ·intro ac done u W Sx hR
       have g : Gr w14 W := hR.1
       exact X.val (X.w0 rfl) rfl (X.load rfl (Sx.ev 71 (.pointer (some ⟨tb, (y + sn + 1), none⟩))) (X.ld1 (Try.agg34 _) ((hC.gr g).at 8 rfl))) (hR.step (Gr.refl _) rfl)
      ·intro ac done u W Sx hR
       have g : Gr w14 W := hR.1
       exact X.val (X.w0 rfl) rfl (X.load rfl (Sx.ev 3 (Vp w.heap.size)) (X.ldN (Try.agg31 _) (Try.siz31 _) (Y.atz (⟨w.heap.size, 0, none⟩) (Y.AtFrom.cons ((hC.gr g).at 0 rfl) (Y.AtFrom.cons ((hC.gr g).at 1 rfl) (Y.AtFrom.cons ((hC.gr g).at 2 rfl) (Y.AtFrom.cons ((hC.gr g).at 3 rfl) (Y.AtFrom.cons ((hC.gr g).at 4 rfl) (Y.AtFrom.nil _ _ _))))))))) (hR.step (Gr.refl _) rfl)
      ·intro ac done u W Sx hR
       exact X.val (X.w0 rfl) rfl (X.move rfl (Sx.ev 10 (Vi v))) (hR.step (Gr.refl _) rfl)
      ·intro ac done u W Sx hR
       exact X.val (X.w0 rfl) rfl (X.binop rfl (Sx.ev 74 (Vi v)) (X.kc (Vi 1) rfl) (X.subI Try.underlying3 rfl (by omega) (by omega))) (hR.step (Gr.refl _) rfl)
      ·intro ac done u W Sx hR
       exact X.val (X.w0 rfl) rfl (X.move rfl (Sx.ev 8 (Vi y))) (hR.step (Gr.refl _) rfl)
      ·intro ac done u W Sx hR
       exact X.val (X.w0 rfl) rfl (X.binop rfl (Sx.ev 76 (Vi y)) (X.kc (Vi 1) rfl) (X.addI Try.underlying3 rfl (by omega) (by omega))) (hR.step (Gr.refl _) rfl)
      ·intro ac done u W Sx hR
       exact X.val (X.w0 rfl) rfl (X.move rfl (Sx.ev 8 (Vi y))) (hR.step (Gr.refl _) rfl)
      ·intro ac done u W Sx hR
       exact X.val (X.w0 rfl) rfl (X.move rfl (Sx.ev 1 (Vi sn))) (hR.step (Gr.refl _) rfl)
      ·intro ac done u W Sx hR
       exact X.val (X.w0 rfl) rfl (X.binop rfl (Sx.ev 78 (Vi y)) (Sx.ev 79 (Vi sn)) (X.addI Try.underlying3 rfl (by omega) (by omega))) (hR.step (Gr.refl _) rfl)
      ·intro ac done u W Sx hR
       refine X.call (X.w0 rfl) (X.enter (F := 87) rfl (X.kc (.func (.func 87) #[] #[]) rfl) (X.a4 (Sx.ev 73 (.agg #[Vi gq, Vi aw, Vi za, Vi pn, Vi qn])) (Sx.ev 75 (Vi ((v : Int) - 1))) (Sx.ev 77 (Vi ((y : Int) + 1))) (Sx.ev 80 (Vi ((y : Int) + sn)))) (enters_of Try.func87 (by kernel_rfl) rfl _)) (by have hq := gain_any gq aw za (onP pn qn sn tn) ((v : Int) - 1) ((y : Int) + 1) ((y : Int) + sn) sn W hpk ⟨by omega, by show (v : Int) - 1 ≤ (pn : Int); omega⟩ (by omega) (by omega) (by omega); rw [hgu] at hq; exact hq) ?_
       rintro e W2 ⟨rfl, g2⟩
       exact ⟨_, rfl, X.kn rfl, hR.step g2 rfl⟩
      ·intro ac done u W Sx hR
       exact X.val (X.w0 rfl) rfl (X.index rfl (Sx.ev 72 (.slice (some ⟨rb20, 0, none⟩) (pn + 1) (pn + 1))) (Sx.ev 81 (Vi q)) (X.idx (k := q) Try.underlying34 (Try.siz3 _) (by omega) (by omega) (addr_own _ _))) (hR.step (Gr.refl _) rfl)
      ·intro ac done u W Sx hR
       have g : Gr w14 W := hR.1
       exact X.val (X.w0 rfl) rfl (X.load rfl (Sx.ev 82 (.pointer (some ⟨rb20, q, none⟩))) (X.ld1 (Try.agg3 _) ((hC.gr g).at 9 rfl))) (hR.step (Gr.refl _) rfl)
      ·intro ac done u W Sx hR
       exact X.val (X.w0 rfl) rfl (X.binop rfl (Sx.ev 65 (Vi (min (sn : Int) ((tn : Int) - y : Int)))) (Sx.ev 83 (Vi (mvV (onP pn qn sn tn) ((y : Int) + sn + 1) q))) (X.addI Try.underlying3 rfl (by omega) (by omega))) (hR.step (Gr.refl _) rfl)
      ·intro ac done u W Sx hR
       exact X.val (X.w0 rfl) rfl (X.assign rfl (Sx.ev 84 (Vi (((min (sn : Int) ((tn : Int) - y : Int)) : Int) + (mvV (onP pn qn sn tn) ((y : Int) + sn + 1) q))))) (hR.step (Gr.refl _) rfl)
      intro ac u w21 hs hd hl ho hR
      have g : Gr w14 w21 := hR.1
      replace F : Fr ac 102 [(0, .agg #[Vi gq, Vi aw, Vi za, Vi pn, Vi qn]), (1, Vi sn), (2, Vi tn), (3, Vp w.heap.size), (6, Vi 0), (7, .slice (some ⟨tb, 0, none⟩) (tn + 1) (tn + 1)), (8, Vi y), (9, Vi x), (10, Vi v), (11, Vi (mvV (onP pn qn sn tn) ((y : Int) + 1) v)), (12, Vi (((min (sn : Int) ((tn : Int) - y : Int)) : Int) + (mvV (onP pn qn sn tn) ((y : Int) + sn + 1) q))), (18, .bool true), (36, .bool true), (53, .bool true), (64, .bool true)] := X.fr hs hd hl _ (by kernel_rfl)
      clear hs hd hl ho hR
      replace G := G.trans g
      replace hC := hC.gr g
      replace hT := hT.gr g
      replace hR := hR.gr g
      replace hrr15 := hrr15.gr g
      replace hrr20 := hrr20.gr g
      clear g
      refine X.thenN ?_
      refine Y.lit (by kernel_rfl) ?_
      refine Y.pval F (X.w0 rfl) rfl (X.move rfl (F.e 11 rfl)) ?_
      clear F ac
      intro ac F
      refine Y.pval F (X.w0 rfl) rfl (X.move rfl (F.e 12 rfl)) ?_
      clear F ac
      intro ac F
      refine Y.pval F (X.w0 rfl) rfl (Y.max2 rfl (F.e 85 rfl) (F.e 86 rfl)) ?_
      clear F ac
      intro ac F
      refine Y.pval F (X.w0 rfl) rfl (X.assign rfl (F.e 87 rfl)) ?_
      clear F ac
      intro ac F
      refine Y.nil ?_
      replace F : Fr ac 102 [(0, .agg #[Vi gq, Vi aw, Vi za, Vi pn, Vi qn]), (1, Vi sn), (2, Vi tn), (3, Vp w.heap.size), (6, Vi 0), (7, .slice (some ⟨tb, 0, none⟩) (tn + 1) (tn + 1)), (8, Vi y), (9, Vi x), (10, Vi v), (11, Vi (max (mvV (onP pn qn sn tn) ((y : Int) + 1) v : Int) (((min (sn : Int) ((tn : Int) - y : Int)) : Int) + (mvV (onP pn qn sn tn) ((y : Int) + sn + 1) q) : Int))), (12, Vi (((min (sn : Int) ((tn : Int) - y : Int)) : Int) + (mvV (onP pn qn sn tn) ((y : Int) + sn + 1) q))), (18, .bool true), (36, .bool true), (53, .bool true), (64, .bool true)] := F.sub _
      refine X.thenN ?_
      refine Y.lit (by kernel_rfl) ?_
      refine Y.pval F (X.w0 rfl) rfl (X.move rfl (F.e 7 rfl)) ?_
      clear F ac
      intro ac F
      refine Y.pval F (X.w0 rfl) rfl (X.move rfl (F.e 8 rfl)) ?_
      clear F ac
      intro ac F
      refine Y.pval F (X.w0 rfl) rfl (X.index rfl (F.e 88 rfl) (F.e 89 rfl) (X.idx (k := y) Try.underlying138 (Try.siz34 _) (by omega) (by omega) (addr_own _ _))) ?_
      clear F ac
      intro ac F
      refine Y.pval F (X.w0 rfl) rfl (X.load rfl (F.e 90 rfl) (X.ld1 (Try.agg34 _) (hC.at 5 rfl))) ?_
      clear F ac
      intro ac F
      refine Y.pval F (X.w0 rfl) rfl (X.move rfl (F.e 9 rfl)) ?_
      clear F ac
      intro ac F
      refine Y.pval F (X.w0 rfl) rfl (X.move rfl (F.e 11 rfl)) ?_
      clear F ac
      intro ac F
      refine Y.pval F (X.w0 rfl) rfl (X.index rfl (F.e 91 rfl) (F.e 92 rfl) (X.idx (k := x) Try.underlying34 (Try.siz3 _) (by omega) (by omega) (addr_own _ _))) ?_
      clear F ac
      intro ac F
      have hval : ((max (mvV (onP pn qn sn tn) ((y : Int) + 1) v : Int) (((min (sn : Int) ((tn : Int) - y : Int)) : Int) + (mvV (onP pn qn sn tn) ((y : Int) + sn + 1) q) : Int)) : Int) = mvV (onP pn qn sn tn) y x := by rw [mv_wake (t := (y : Int)) (x := (x : Int)) hpk rfl rfl (by show (y : Int) < (tn : Int); omega) (by rw [hrv]; omega), hrv]; unfold wakeV; rw [if_pos (by show (y : Int) + (sn : Int) + 1 ≤ (tn : Int); omega)]; rw [show (onP pn qn sn tn).hold.toNat = sn from Int.toNat_natCast sn, hgu]; rfl
      refine Y.punit F (X.w0 rfl) rfl (X.store rfl (F.e 94 rfl) (F.e 93 rfl) (hR.st1 (Try.siz3 _) rfl rfl (by omega))) ?_
      clear F ac
      intro ac F
      have hon := Y.set_only w21 rb x (Vi (max (mvV (onP pn qn sn tn) ((y : Int) + 1) v : Int) (((min (sn : Int) ((tn : Int) - y : Int)) : Int) + (mvV (onP pn qn sn tn) ((y : Int) + sn + 1) q) : Int)))
      have hR2 := hR.set (k := x) (Vi (max (mvV (onP pn qn sn tn) ((y : Int) + 1) v : Int) (((min (sn : Int) ((tn : Int) - y : Int)) : Int) + (mvV (onP pn qn sn tn) ((y : Int) + sn + 1) q) : Int)))
      rw [EV_up] at hR2
      generalize w21.setCell ⟨rb, x, none⟩ (Vi (max (mvV (onP pn qn sn tn) ((y : Int) + 1) v : Int) (((min (sn : Int) ((tn : Int) - y : Int)) : Int) + (mvV (onP pn qn sn tn) ((y : Int) + sn + 1) q) : Int))) = w22 at *
      clear hR
      replace hT := hT.only hon (by intro b h1 h2; omega)
      replace G := Y.Only.up G hon (by omega)
      replace hC := (hC.kc hon 0 rfl (hC.kc hon 1 rfl (hC.kc hon 2 rfl (hC.kc hon 3 rfl (hC.kc hon 4 rfl (hC.kc hon 5 rfl (RCells.nil _)))))))
      have hR := hR2.congr (row_up hval)
      clear hR2 hon hval
      refine Y.nil ?_
      replace F : Fr ac 102 [(0, .agg #[Vi gq, Vi aw, Vi za, Vi pn, Vi qn]), (1, Vi sn), (2, Vi tn), (3, Vp w.heap.size), (6, Vi 0), (7, .slice (some ⟨tb, 0, none⟩) (tn + 1) (tn + 1)), (8, Vi y), (9, Vi x), (10, Vi v), (11, Vi (max (mvV (onP pn qn sn tn) ((y : Int) + 1) v : Int) (((min (sn : Int) ((tn : Int) - y : Int)) : Int) + (mvV (onP pn qn sn tn) ((y : Int) + sn + 1) q) : Int))), (12, Vi (((min (sn : Int) ((tn : Int) - y : Int)) : Int) + (mvV (onP pn qn sn tn) ((y : Int) + sn + 1) q))), (18, .bool true), (36, .bool true), (53, .bool true), (64, .bool true)] := F.sub _
      refine X.blockN ?_
      refine X.thenN ?_
      refine Y.lit (by kernel_rfl) ?_
      refine Y.pval F (X.w0 rfl) rfl (X.move rfl (F.e 9 rfl)) ?_
      clear F ac
      intro ac F
      refine Y.pval F (X.w0 rfl) rfl (X.binop rfl (F.e 37 rfl) (X.kc (Vi 1) rfl) (X.addI Try.underlying3 rfl (by omega) (by omega))) ?_
      clear F ac
      intro ac F
      refine Y.pval F (X.w0 rfl) rfl (X.assign rfl (F.e 38 rfl)) ?_
      clear F ac
      intro ac F
      refine Y.nil ?_
      replace F : Fr ac 102 [(0, .agg #[Vi gq, Vi aw, Vi za, Vi pn, Vi qn]), (1, Vi sn), (2, Vi tn), (3, Vp w.heap.size), (6, Vi 0), (7, .slice (some ⟨tb, 0, none⟩) (tn + 1) (tn + 1)), (8, Vi y), (9, Vi ((x : Int) + 1)), (10, Vi v), (11, Vi (max (mvV (onP pn qn sn tn) ((y : Int) + 1) v : Int) (((min (sn : Int) ((tn : Int) - y : Int)) : Int) + (mvV (onP pn qn sn tn) ((y : Int) + sn + 1) q) : Int))), (12, Vi (((min (sn : Int) ((tn : Int) - y : Int)) : Int) + (mvV (onP pn qn sn tn) ((y : Int) + sn + 1) q))), (18, .bool true), (36, .bool true), (53, .bool true), (64, .bool true)] := F.sub _
      refine X.thenN ?_
      refine ⟨_, ?_, x + 1, rfl, by omega, G, hC, hT, hR, F.sub _⟩
      omega
end
section
open Go.RowKit

theorem X.mulI {P : Program} {W : World} {t : TypeId} (_hu : P.underlying t = some (.int .i64)) {x y : Operand} {p q z : Int} (hz : p * q = z) (h0 : -9223372036854775808 ≤ z) (h1 : z ≤ 9223372036854775807) : (do eqGuard .mul t x y (.int .i64 p) (.int .i64 q); binOp .mul t (.int .i64 p) (.int .i64 q) : Sem Value).run P W = .ok (.int .i64 z) W := by
  subst hz; simp [eqGuard, binOp, go_sem, IntWalk.i64_in _ ⟨h0, h1⟩]
theorem prod_bd {a b : Int} (h0 : 0 ≤ a) (h1 : a ≤ 1000) (h2 : 0 ≤ b) (h3 : b ≤ 10000) : 0 ≤ a * b ∧ a * b ≤ 10000000 := by
  refine ⟨Int.mul_nonneg h0 h2, ?_⟩
  have := Int.mul_le_mul h1 h3 h2 (by decide)
  omega

set_option maxRecDepth 100000 in
set_option maxHeartbeats 1000000 in
theorem energy_any (na : Option Addr) (n nc : Nat) (gr hold T : Int) (i : Nat) (nd : List (List Int)) (w : World) (hnd : StAt w 5 na n nd) (hc : CluOk gr hold nd) (hi : i < n) (hT : 0 ≤ T ∧ T ≤ 1000) :
  Calls Try.prog 60 #[.agg #[Vi gr, Vi hold, .slice na n nc], Vi i, Vi T] w fun e w' => e = .returned (Vi (enrV nd hold i T)) ∧ Gr w w' := by
 have G := Gr.refl w
 have hnd0 := hnd
 have hlen := hnd.len
 have hlt := hnd.lt
 have ha1 := hc.awk i (by omega)
 have ha2 := hc.asl i (by omega)
 have ha3 := hc.bud i (by omega)
 have ha4 := hc.ref i (by omega)
 have hh1 := hc.h1
 have hh2 := hc.h100
 have h16 := hc.n16
 have e3 : ((cv nd i 3).toNat : Int) = cv nd i 3 := by omega
 have e4 : ((cv nd i 4).toNat : Int) = cv nd i 4 := by omega
 have eh : (hold.toNat : Int) = hold := by omega
 have eT : (T.toNat : Int) = T := by omega
 have hmb : 0 ≤ mvV (onP (cv nd i 3).toNat (cv nd i 4).toNat hold.toNat T.toNat) 0 (cv nd i 3) ∧ mvV (onP (cv nd i 3).toNat (cv nd i 4).toNat hold.toNat T.toNat) 0 (cv nd i 3) ≤ (T.toNat : Int) - 0 := mv_bd rfl rfl 0 (cv nd i 3) (by show (0 : Int) ≤ (T.toNat : Int); omega)
 have hp1 := prod_bd (a := T) (b := cv nd i 2) (by omega) (by omega) (by omega) (by omega)
 have hp2 := prod_bd (a := mvV (onP (cv nd i 3).toNat (cv nd i 4).toNat hold.toNat T.toNat) 0 (cv nd i 3)) (b := cv nd i 1 - cv nd i 2) (by omega) (by omega) (by omega) (by omega)
 refine Y.calls 29 Try.func60 rfl rfl ?_
 intro ac F0
 have F : Fr ac 29 [(0, .agg #[Vi gr, Vi hold, .slice na n nc]), (1, Vi i), (2, Vi T)] := F0.sub _
 clear F0
 refine Y.seq ?_
 refine Y.lit (by kernel_rfl) ?_
 refine Y.pval F (X.w0 rfl) rfl (X.box rfl (F.e 0 rfl) X.bx) ?_
 clear F ac
 intro ac F
 have g := Gr.alloc w (.cells #[Vi gr, Vi hold, .slice na n nc] 24)
 have hb := heap_alloc_new w (.cells #[Vi gr, Vi hold, .slice na n nc] 24)
 have hbl : w.heap.size < (w.alloc (.cells #[Vi gr, Vi hold, .slice na n nc] 24)).heap.size := by simp
 have hC2 : RCells (w.alloc (.cells #[Vi gr, Vi hold, .slice na n nc] 24)) [(Ad w.heap.size 0, Vi gr), (Ad w.heap.size 1, Vi hold), (Ad w.heap.size 2, .slice na n nc)] := (RCells.nil w).box (b := w.heap.size) #[Vi gr, Vi hold, .slice na n nc] 24 rfl
 generalize w.alloc (.cells #[Vi gr, Vi hold, .slice na n nc] 24) = w3 at *
 replace G := G.trans g
 have hC := hC2
 clear hC2
 replace hnd := hnd.gr g
 clear g hb hbl
 refine Y.pval F (X.w0 rfl) rfl (X.assign rfl (X.kc (Vi 0) rfl)) ?_
 clear F ac
 intro ac F
 refine Y.nil ?_
 replace F : Fr ac 29 [(0, .agg #[Vi gr, Vi hold, .slice na n nc]), (1, Vi i), (2, Vi T), (3, Vp w.heap.size), (6, Vi 0)] := F.sub _
 refine X.thenN ?_
 refine Y.seq ?_
 refine Y.lit (by kernel_rfl) ?_
 refine Y.pval F (X.w0 rfl) rfl (X.field rfl (F.e 3 rfl) (X.fld Try.underlying24 rfl (Try.siz22 _) rfl rfl)) ?_
 clear F ac
 intro ac F
 refine Y.pval F (X.w0 rfl) rfl (X.load rfl (F.e 8 rfl) (X.ld1 (Try.agg22 _) (hC.at 2 rfl))) ?_
 clear F ac
 intro ac F
 refine Y.pval F (X.w0 rfl) rfl (X.move rfl (F.e 1 rfl)) ?_
 clear F ac
 intro ac F
 obtain ⟨pd4, pe4, -, -, pc4⟩ := hnd.at (j := i) (by omega)
 subst pe4
 replace hC : RCells w3 [(Ad w.heap.size 0, Vi gr), (Ad w.heap.size 1, Vi hold), (Ad w.heap.size 2, .slice (some pd4) n nc), (pd4.add (i * 5), Vi (cv nd i 0)), (⟨(pd4.add (i * 5)).block, (pd4.add (i * 5)).off + 1, none⟩, Vi (cv nd i 1)), (⟨(pd4.add (i * 5)).block, (pd4.add (i * 5)).off + 2, none⟩, Vi (cv nd i 2)), (⟨(pd4.add (i * 5)).block, (pd4.add (i * 5)).off + 3, none⟩, Vi (cv nd i 3)), (⟨(pd4.add (i * 5)).block, (pd4.add (i * 5)).off + 4, none⟩, Vi (cv nd i 4))] := hC.append ((RCells.cons (pc4 0 (by decide)) (RCells.cons (pc4 1 (by decide)) (RCells.cons (pc4 2 (by decide)) (RCells.cons (pc4 3 (by decide)) (RCells.cons (pc4 4 (by decide)) (RCells.nil _)))))))
 clear pc4
 refine Y.pval F (X.w0 rfl) rfl (X.index rfl (F.e 9 rfl) (F.e 10 rfl) (X.idx (k := i) Try.underlying22 (Try.siz31 _) (by omega) (by omega) rfl)) ?_
 clear F ac
 intro ac F
 refine Y.pval F (X.w0 rfl) rfl (X.load rfl (F.e 11 rfl) (X.ldN (Try.agg31 _) (Try.siz31 _) (Y.atz (pd4.add (i * 5)) (Y.AtFrom.cons (hC.at 3 rfl) (Y.AtFrom.cons (hC.at 4 rfl) (Y.AtFrom.cons (hC.at 5 rfl) (Y.AtFrom.cons (hC.at 6 rfl) (Y.AtFrom.cons (hC.at 7 rfl) (Y.AtFrom.nil _ _ _))))))))) ?_
 clear F ac
 intro ac F
 refine Y.pval F (X.w0 rfl) rfl (Y.al rfl (Try.new31 _)) ?_
 clear F ac
 intro ac F
 refine Y.punit F (X.w0 rfl) rfl (X.store rfl (F.e 7 rfl) (F.e 12 rfl) (Y.stNew [Vi (cv nd i 0), Vi (cv nd i 1), Vi (cv nd i 2), Vi (cv nd i 3), Vi (cv nd i 4)] [Vi 0, Vi 0, Vi 0, Vi 0, Vi 0] (Try.siz31 _) rfl rfl)) ?_
 clear F ac
 intro ac F
 have g := Gr.alloc w3 (.cells #[Vi (cv nd i 0), Vi (cv nd i 1), Vi (cv nd i 2), Vi (cv nd i 3), Vi (cv nd i 4)] 31)
 have hb := heap_alloc_new w3 (.cells #[Vi (cv nd i 0), Vi (cv nd i 1), Vi (cv nd i 2), Vi (cv nd i 3), Vi (cv nd i 4)] 31)
 have hbl : w3.heap.size < (w3.alloc (.cells #[Vi (cv nd i 0), Vi (cv nd i 1), Vi (cv nd i 2), Vi (cv nd i 3), Vi (cv nd i 4)] 31)).heap.size := by simp
 have hC2 : RCells (w3.alloc (.cells #[Vi (cv nd i 0), Vi (cv nd i 1), Vi (cv nd i 2), Vi (cv nd i 3), Vi (cv nd i 4)] 31)) [(Ad w.heap.size 0, Vi gr), (Ad w.heap.size 1, Vi hold), (Ad w.heap.size 2, .slice (some pd4) n nc), (pd4.add (i * 5), Vi (cv nd i 0)), (⟨(pd4.add (i * 5)).block, (pd4.add (i * 5)).off + 1, none⟩, Vi (cv nd i 1)), (⟨(pd4.add (i * 5)).block, (pd4.add (i * 5)).off + 2, none⟩, Vi (cv nd i 2)), (⟨(pd4.add (i * 5)).block, (pd4.add (i * 5)).off + 3, none⟩, Vi (cv nd i 3)), (⟨(pd4.add (i * 5)).block, (pd4.add (i * 5)).off + 4, none⟩, Vi (cv nd i 4)), (Ad w3.heap.size 0, Vi (cv nd i 0)), (Ad w3.heap.size 1, Vi (cv nd i 1)), (Ad w3.heap.size 2, Vi (cv nd i 2)), (Ad w3.heap.size 3, Vi (cv nd i 3)), (Ad w3.heap.size 4, Vi (cv nd i 4))] := hC.box (b := w3.heap.size) #[Vi (cv nd i 0), Vi (cv nd i 1), Vi (cv nd i 2), Vi (cv nd i 3), Vi (cv nd i 4)] 31 rfl
 generalize w3.alloc (.cells #[Vi (cv nd i 0), Vi (cv nd i 1), Vi (cv nd i 2), Vi (cv nd i 3), Vi (cv nd i 4)] 31) = w5 at *
 replace G := G.trans g
 replace hC := hC2
 clear hC2
 replace hnd := hnd.gr g
 clear g hb hbl
 refine Y.nil ?_
 replace F : Fr ac 29 [(0, .agg #[Vi gr, Vi hold, .slice (some pd4) n nc]), (1, Vi i), (2, Vi T), (3, Vp w.heap.size), (6, Vi 0), (7, Vp w3.heap.size)] := F.sub _
 refine X.thenN ?_
 refine Y.seq ?_
 refine Y.region F [some (Vi T), some (.pointer (some ⟨w3.heap.size, 2, none⟩)), some (Vi (cv nd i 2)), some (Vi ((T : Int) * (cv nd i 2))), some (.agg #[Vi (cv nd i 0), Vi (cv nd i 1), Vi (cv nd i 2), Vi (cv nd i 3), Vi (cv nd i 4)]), some (.pointer (some ⟨w.heap.size, 1, none⟩)), some (Vi hold), some (Vi T), some (Vi (mvV (onP (cv nd i 3).toNat (cv nd i 4).toNat hold.toNat T.toNat) 0 (cv nd i 3))), some (.pointer (some ⟨w3.heap.size, 1, none⟩)), some (Vi (cv nd i 1)), some (.pointer (some ⟨w3.heap.size, 2, none⟩)), some (Vi (cv nd i 2)), some (Vi ((cv nd i 1 : Int) - (cv nd i 2))), some (Vi ((mvV (onP (cv nd i 3).toNat (cv nd i 4).toNat hold.toNat T.toNat) 0 (cv nd i 3) : Int) * ((cv nd i 1 : Int) - (cv nd i 2)))), some (Vi (((T : Int) * (cv nd i 2) : Int) + ((mvV (onP (cv nd i 3).toNat (cv nd i 4).toNat hold.toNat T.toNat) 0 (cv nd i 3) : Int) * ((cv nd i 1 : Int) - (cv nd i 2))))), some (Vi (((T : Int) * (cv nd i 2) : Int) + ((mvV (onP (cv nd i 3).toNat (cv nd i 4).toNat hold.toNat T.toNat) 0 (cv nd i 3) : Int) * ((cv nd i 1 : Int) - (cv nd i 2)))))] [] rfl ⟨by kernel_rfl, of_decide_eq_true (by kernel_rfl), by kernel_rfl, by kernel_rfl, by kernel_rfl⟩ ⟨?_, ?_, ?_, ?_, ?_, ?_, ?_, ?_, ?_, ?_, ?_, ?_, ?_, ?_, ?_, ?_, ?_, trivial⟩ ?_
 ·intro ac done u W Sx hR
  exact X.val (X.w0 rfl) rfl (X.move rfl (Sx.ev 2 (Vi T))) (hR.step (Gr.refl _) rfl)
 ·intro ac done u W Sx hR
  exact X.val (X.w0 rfl) rfl (X.field rfl (Sx.ev 7 (Vp w3.heap.size)) (X.fld Try.underlying31 rfl (Try.siz3 _) rfl rfl)) (hR.step (Gr.refl _) rfl)
 ·intro ac done u W Sx hR
  have g : Gr w5 W := hR.1
  exact X.val (X.w0 rfl) rfl (X.load rfl (Sx.ev 14 (.pointer (some ⟨w3.heap.size, 2, none⟩))) (X.ld1 (Try.agg3 _) ((hC.gr g).at 10 rfl))) (hR.step (Gr.refl _) rfl)
 ·intro ac done u W Sx hR
  exact X.val (X.w0 rfl) rfl (X.binop rfl (Sx.ev 13 (Vi T)) (Sx.ev 15 (Vi (cv nd i 2))) (X.mulI Try.underlying3 rfl (by omega) (by omega))) (hR.step (Gr.refl _) rfl)
 ·intro ac done u W Sx hR
  have g : Gr w5 W := hR.1
  exact X.val (X.w0 rfl) rfl (X.load rfl (Sx.ev 7 (Vp w3.heap.size)) (X.ldN (Try.agg31 _) (Try.siz31 _) (Y.atz (⟨w3.heap.size, 0, none⟩) (Y.AtFrom.cons ((hC.gr g).at 8 rfl) (Y.AtFrom.cons ((hC.gr g).at 9 rfl) (Y.AtFrom.cons ((hC.gr g).at 10 rfl) (Y.AtFrom.cons ((hC.gr g).at 11 rfl) (Y.AtFrom.cons ((hC.gr g).at 12 rfl) (Y.AtFrom.nil _ _ _))))))))) (hR.step (Gr.refl _) rfl)
 ·intro ac done u W Sx hR
  exact X.val (X.w0 rfl) rfl (X.field rfl (Sx.ev 3 (Vp w.heap.size)) (X.fld Try.underlying24 rfl (Try.siz3 _) rfl rfl)) (hR.step (Gr.refl _) rfl)
 ·intro ac done u W Sx hR
  have g : Gr w5 W := hR.1
  exact X.val (X.w0 rfl) rfl (X.load rfl (Sx.ev 18 (.pointer (some ⟨w.heap.size, 1, none⟩))) (X.ld1 (Try.agg3 _) ((hC.gr g).at 1 rfl))) (hR.step (Gr.refl _) rfl)
 ·intro ac done u W Sx hR
  exact X.val (X.w0 rfl) rfl (X.move rfl (Sx.ev 2 (Vi T))) (hR.step (Gr.refl _) rfl)
 ·intro ac done u W Sx hR
  refine X.call (X.w0 rfl) (X.enter (F := 76) rfl (X.kc (.func (.func 76) #[] #[]) rfl) (X.a3 (Sx.ev 17 (.agg #[Vi (cv nd i 0), Vi (cv nd i 1), Vi (cv nd i 2), Vi (cv nd i 3), Vi (cv nd i 4)])) (Sx.ev 19 (Vi hold)) (Sx.ev 20 (Vi T))) (enters_of Try.func76 (by kernel_rfl) rfl _)) (by have hq := most_any (cv nd i 0) (cv nd i 1) (cv nd i 2) (cv nd i 3).toNat (cv nd i 4).toNat hold.toNat T.toNat W (by omega) (by omega) (by omega) (by omega) (by omega) (by omega); rw [e3, e4, eh, eT] at hq; exact hq) ?_
  rintro e W2 ⟨rfl, g2⟩
  exact ⟨_, rfl, X.kn rfl, hR.step g2 rfl⟩
 ·intro ac done u W Sx hR
  exact X.val (X.w0 rfl) rfl (X.field rfl (Sx.ev 7 (Vp w3.heap.size)) (X.fld Try.underlying31 rfl (Try.siz3 _) rfl rfl)) (hR.step (Gr.refl _) rfl)
 ·intro ac done u W Sx hR
  have g : Gr w5 W := hR.1
  exact X.val (X.w0 rfl) rfl (X.load rfl (Sx.ev 22 (.pointer (some ⟨w3.heap.size, 1, none⟩))) (X.ld1 (Try.agg3 _) ((hC.gr g).at 9 rfl))) (hR.step (Gr.refl _) rfl)
 ·intro ac done u W Sx hR
  exact X.val (X.w0 rfl) rfl (X.field rfl (Sx.ev 7 (Vp w3.heap.size)) (X.fld Try.underlying31 rfl (Try.siz3 _) rfl rfl)) (hR.step (Gr.refl _) rfl)
 ·intro ac done u W Sx hR
  have g : Gr w5 W := hR.1
  exact X.val (X.w0 rfl) rfl (X.load rfl (Sx.ev 24 (.pointer (some ⟨w3.heap.size, 2, none⟩))) (X.ld1 (Try.agg3 _) ((hC.gr g).at 10 rfl))) (hR.step (Gr.refl _) rfl)
 ·intro ac done u W Sx hR
  exact X.val (X.w0 rfl) rfl (X.binop rfl (Sx.ev 23 (Vi (cv nd i 1))) (Sx.ev 25 (Vi (cv nd i 2))) (X.subI Try.underlying3 rfl (by omega) (by omega))) (hR.step (Gr.refl _) rfl)
 ·intro ac done u W Sx hR
  exact X.val (X.w0 rfl) rfl (X.binop rfl (Sx.ev 21 (Vi (mvV (onP (cv nd i 3).toNat (cv nd i 4).toNat hold.toNat T.toNat) 0 (cv nd i 3)))) (Sx.ev 26 (Vi ((cv nd i 1 : Int) - (cv nd i 2)))) (X.mulI Try.underlying3 rfl (by omega) (by omega))) (hR.step (Gr.refl _) rfl)
 ·intro ac done u W Sx hR
  exact X.val (X.w0 rfl) rfl (X.binop rfl (Sx.ev 16 (Vi ((T : Int) * (cv nd i 2)))) (Sx.ev 27 (Vi ((mvV (onP (cv nd i 3).toNat (cv nd i 4).toNat hold.toNat T.toNat) 0 (cv nd i 3) : Int) * ((cv nd i 1 : Int) - (cv nd i 2))))) (X.addI Try.underlying3 rfl (by omega) (by omega))) (hR.step (Gr.refl _) rfl)
 ·intro ac done u W Sx hR
  exact X.val (X.w0 rfl) rfl (X.assign rfl (Sx.ev 28 (Vi (((T : Int) * (cv nd i 2) : Int) + ((mvV (onP (cv nd i 3).toNat (cv nd i 4).toNat hold.toNat T.toNat) 0 (cv nd i 3) : Int) * ((cv nd i 1 : Int) - (cv nd i 2))))))) (hR.step (Gr.refl _) rfl)
 intro ac u w6 hs hd hl ho hR
 have g : Gr w5 w6 := hR.1
 replace F : Fr ac 29 [(0, .agg #[Vi gr, Vi hold, .slice (some pd4) n nc]), (1, Vi i), (2, Vi T), (3, Vp w.heap.size), (6, Vi (((T : Int) * (cv nd i 2) : Int) + ((mvV (onP (cv nd i 3).toNat (cv nd i 4).toNat hold.toNat T.toNat) 0 (cv nd i 3) : Int) * ((cv nd i 1 : Int) - (cv nd i 2))))), (7, Vp w3.heap.size)] := X.fr hs hd hl _ (by kernel_rfl)
 clear hs hd hl ho hR
 replace G := G.trans g
 replace hC := hC.gr g
 replace hnd := hnd.gr g
 clear g
 refine X.thenN ?_
 refine Y.ret ?_
 exact Y.ret0 (v := Vi (((T : Int) * (cv nd i 2) : Int) + ((mvV (onP (cv nd i 3).toNat (cv nd i 4).toNat hold.toNat T.toNat) 0 (cv nd i 3) : Int) * ((cv nd i 1 : Int) - (cv nd i 2))))) F (Y.rs1 F rfl (by kernel_rfl)) ⟨by rw [enrV], G⟩
end
end Go.Proofs.Ytoalamakhjbedaa
