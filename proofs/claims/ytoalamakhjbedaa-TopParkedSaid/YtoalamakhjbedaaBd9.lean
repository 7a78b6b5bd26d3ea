/- Contract: what is sent in a tick. -/
import Derived.Test.YtoalamakhjbedaaBd2
namespace Go.Proofs.Ytoalamakhjbedaa
set_option linter.unusedSimpArgs false
set_option linter.unusedVariables false
open Go.RowKit

set_option maxRecDepth 100000 in
set_option maxHeartbeats 2000000 in
theorem send_any (wB w : World) (bp bn : Nat) (gr hold : Int) (na la pa : Option Addr) (n nc m lc cap : Nat) (l : List (List Int)) (s : PS) (t : Int) (hP : PlE wB w bp bn gr hold na la pa n nc m lc cap l) (hS : OwnP w bn (n * 17) (NV s)) (h16 : n ≤ 16) (hn : ∃ nd : List (List Int), ∃ tt : Int, nd.length = n ∧ gr ≤ 8 ∧ ∀ x ∈ l, NuOk gr nd tt x) (hg0 : 0 ≤ gr) :
  Calls Try.prog 72 #[Vp bp, Vi t] w fun e w' => e = .returned (.tuple #[]) ∧ Only (fun b => b = bn) w w' ∧ OwnP w' bn (n * 17) (NV (sendS hold gr.toNat n (lostF l t) s)) := by
 have G := Gr.refl w
 have hE := Only.refl (fun b => b = bn) w
 have hC := hP.p
 have hpb := hP.pb
 have hnb := hP.nb
 have hgb := hP.g.size
 have hpe := hP.ne
 have hplt := hP.lt
 have hnlt := hS.lt
 obtain ⟨nd, tt, hndl, hg8, hnu⟩ := hn
 refine Y.calls 87 Try.func72 rfl rfl ?_
 intro ac F0
 have F : Fr ac 87 [(0, Vp bp), (1, Vi t)] := F0.sub _
 clear F0
 refine Y.seq ?_
 refine Y.lit (by kernel_rfl) ?_
 refine Y.pv F (Y.al rfl (Try.new136 _)) ?_;clear F ac;intro ac F
 have g := Gr.alloc w (.cells (List.replicate 256 (.bool false)).toArray 136)
 have hL := lost_new w
 generalize w.alloc (.cells (List.replicate 256 (.bool false)).toArray 136) = w3 at *
 replace G := G.trans g
 replace hC := hC.gr g
 replace hE := hE.thenGr g
 replace hP := hP.gr g
 replace hS := hS.gr g
 clear g
 refine Y.nil ?_
 replace F : Fr ac 87 [(0, Vp bp), (1, Vi t), (4, Vp w.heap.size)] := F.sub _
 refine X.thenN ?_
 refine Y.seq ?_
 refine Y.seq ?_
 refine Y.lit (by kernel_rfl) ?_
 refine Y.pv F (X.move rfl (F.e 0 rfl)) ?_;clear F ac;intro ac F
 refine Y.pv F (X.move rfl (F.e 1 rfl)) ?_;clear F ac;intro ac F
 refine Y.pv F (X.bs rfl (X.b1 (X.kc (Vi 4) rfl)) (Try.bs34_1 4 _)) ?_;clear F ac;intro ac F
 have hq4 : bn < w3.heap.size := hS.lt
 have hq5 : w.heap.size < w3.heap.size := hL.lt
 have hq6 : bp < w3.heap.size := lt_cell (hC.at 0 rfl)
 have g := Gr.alloc w3 (.cells #[Vi 4] 3)
 have hb := heap_alloc_new w3 (.cells #[Vi 4] 3)
 have hbl : w3.heap.size < (w3.alloc (.cells #[Vi 4] 3)).heap.size := by simp
 have hC2 : RCells (w3.alloc (.cells #[Vi 4] 3)) [(Ad bp 0, Vi gr), (Ad bp 1, Vi hold), (Ad bp 2, .slice na n nc), (Ad bp 3, .slice la m lc), (Ad bp 4, .slice pa n cap), (Ad w3.heap.size 0, Vi 4)] := hC.box (b := w3.heap.size) #[Vi 4] 3 rfl
 generalize w3.alloc (.cells #[Vi 4] 3) = w7 at *
 replace G := G.trans g
 replace hC := hC2
 clear hC2
 replace hE := hE.thenGr g
 replace hP := hP.gr g
 replace hS := hS.gr g
 replace hL := hL.gr g
 have hks := (ints_one (hC.at 5 rfl) : Ints w7 (some ⟨w3.heap.size, 0, none⟩) 1 [4])
 clear g hb hbl
 refine Y.pcall F (X.w0 rfl) rfl (X.enter (F := 84) rfl (X.kc (.func (.func 84) #[] #[]) rfl) (X.a3 (F.e 11 rfl) (F.e 12 rfl) (F.e 13 rfl)) (enters_of Try.func84 (by kernel_rfl) rfl _)) (at_any bp t (some ⟨w3.heap.size, 0, none⟩) 1 1 w7) ?_
 have hq8 : bn < w7.heap.size := hS.lt
 have hq9 : w.heap.size < w7.heap.size := hL.lt
 have hq10 : bp < w7.heap.size := lt_cell (hC.at 0 rfl)
 have hq11 : w3.heap.size < w7.heap.size := lt_cell (hC.at 5 rfl)
 clear F ac
 rintro e w12 ⟨bx, bt, bk, rfl, cx, ct, ck, hb1, ⟨hb2, hb3⟩, g⟩
 refine ⟨_, rfl, ?_⟩
 intro ac F
 replace G := G.trans g
 replace hC := hC.gr g
 replace hE := hE.thenGr g
 replace hP := hP.gr g
 replace hS := hS.gr g
 replace hL := hL.gr g
 replace hks := hks.gr g
 clear g
 replace hC : RCells w12 [(Ad bp 0, Vi gr), (Ad bp 1, Vi hold), (Ad bp 2, .slice na n nc), (Ad bp 3, .slice la m lc), (Ad bp 4, .slice pa n cap), (Ad w3.heap.size 0, Vi 4), (Ad bx 0, Vp bp), (Ad bt 0, Vi t), (Ad bk 0, .slice (some ⟨w3.heap.size, 0, none⟩) 1 1)] := hC.append ((RCells.cons cx (RCells.cons ct (RCells.cons ck (RCells.nil _)))))
 refine Y.nil ?_
 replace F : Fr ac 87 [(0, Vp bp), (1, Vi t), (4, Vp w.heap.size), (14, .func (.func 96) #[] #[Vp bx, Vp bt, Vp bk])] := F.sub _
 refine X.thenN ?_
 refine Y.block ?_
 replace F : Fr ac 87 [(0, Vp bp), (1, Vi t), (4, Vp w.heap.size), (14, .func (.func 96) #[] #[Vp bx, Vp bt, Vp bk])] := F.sub _
 have hq13 : bn < w12.heap.size := hS.lt
 have hq14 : w.heap.size < w12.heap.size := hL.lt
 have hq15 : bk < w12.heap.size := lt_cell (hC.at 8 rfl)
 have hq16 : bp < w12.heap.size := lt_cell (hC.at 0 rfl)
 have hq17 : bt < w12.heap.size := lt_cell (hC.at 7 rfl)
 have hq18 : bx < w12.heap.size := lt_cell (hC.at 6 rfl)
 have hq19 : w3.heap.size < w12.heap.size := lt_cell (hC.at 5 rfl)
 have hPb := hP.pb
 have hPn := hP.nb
 have hPe := hP.ne
 have hgB := hP.g.size
 have hmut : w.heap.size < w12.heap.size := hL.lt
 have hkb : w3.heap.size < w12.heap.size := lt_cell (hC.at 5 rfl)
 refine Y.atRange (D := []) F (by decide) (by decide) rfl rfl rfl rfl rfl rfl rfl (F.ev 14 _) (fun b => b = w.heap.size) (fun b e => by rw [e]; exact hmut) (hP.ate (hC.at 6 rfl) (hC.at 7 rfl) (hC.at 8 rfl) hks hkb (fun b e => by subst e; exact ⟨by omega, by omega, by omega, by omega, by omega, by omega⟩)) (fun xs W => OwnP W w.heap.size (256) (LV (xs.foldl lostX (fun _ _ => false)))) hL (fun xs W W2 h g => h.only g (by omega)) ?_ ?_
 ·have hP_r := hP
  have hC_r := hC
  clear F ac G hP hC hE
  have hS_r := hS
  clear hS
  clear hL
  intro pre x w20 ac xb hQ hL hpre hx4 hxb hN F
  have hP := hP_r.only hQ (fun i e => by subst e; exact ⟨by omega, by omega⟩)
  have hS := hS_r.only hQ (by show ¬ _ = _; omega)
  have hC : RCells w20 [(Ad bp 0, Vi gr), (Ad bp 1, Vi hold), (Ad bp 2, .slice na n nc), (Ad bp 3, .slice la m lc), (Ad bp 4, .slice pa n cap), (Ad xb 0, Vi (nv x 0)), (Ad xb 1, Vi (nv x 1)), (Ad xb 2, Vi (nv x 2)), (Ad xb 3, Vi (nv x 3))] := (hC_r.kc hQ 0 rfl (hC_r.kc hQ 1 rfl (hC_r.kc hQ 2 rfl (hC_r.kc hQ 3 rfl (hC_r.kc hQ 4 rfl hN)))))
  have G := Gr.refl w20
  have hR_ := Only.refl (fun b => b = w.heap.size) w20
  replace F : Fr ac 87 [(0, Vp bp), (1, Vi t), (4, Vp w.heap.size), (5, Vp xb), (14, .func (.func 96) #[] #[Vp bx, Vp bt, Vp bk]), (15, .agg #[Vi (nv x 0), Vi (nv x 1), Vi (nv x 2), Vi (nv x 3)])] := F.sub _
  have hnx := hnu x (mem_pre hpre)
  have hxn := hnx.n0
  have hxn1 := hnx.n1
  have hpk := pick_pre hpre
  have hxa := hnx.los (by simpa using hpk.2)
  have hx30 := hxa.1
  have hx31 := hxa.2.1
  refine Y.block ?_
  refine Y.regionS F [some (.pointer (some ⟨xb, 2, none⟩)), some (Vi (nv x 2)), some (.pointer (some ⟨xb, 3, none⟩)), some (Vi (nv x 3)), some (.pointer (some ⟨w.heap.size, ((nv x 2).toNat) * 16, none⟩)), some (.pointer (some ⟨w.heap.size, ((nv x 2).toNat) * 16 + ((nv x 3).toNat), none⟩)), none] [] 6 (fun _ W => Only (fun x => x = w.heap.size) w20 W ∧ OwnP W w.heap.size (256) (LV ((fun a b => if a = ((nv x 2).toNat) ∧ b = ((nv x 3).toNat) then true else (pre.foldl lostX (fun _ _ => false)) a b)))) rfl ⟨by kernel_rfl, of_decide_eq_true (by kernel_rfl), by kernel_rfl, by kernel_rfl, by kernel_rfl⟩ (of_decide_eq_true (by kernel_rfl)) ⟨?_, ?_, ?_, ?_, ?_, ?_, ?_, trivial⟩ ?_
  ·intro ac done u W Sx hT
   have hs := Sx.no 6 (by kernel_rfl)
   have hR := hT.1 hs
   exact X.vl (X.field rfl (Sx.ev 5 (Vp xb)) (X.fld Try.underlying33 rfl (Try.siz3 _) rfl rfl)) (Y.RT.of hs rfl hR.st0)
  ·intro ac done u W Sx hT
   have hs := Sx.no 6 (by kernel_rfl)
   have hR := hT.1 hs
   have g : Gr w20 W := hR.1
   exact X.vl (X.load rfl (Sx.ev 16 (.pointer (some ⟨xb, 2, none⟩))) (X.ld1 (Try.agg3 _) ((hC.gr g).at 7 rfl))) (Y.RT.of hs rfl hR.st0)
  ·intro ac done u W Sx hT
   have hs := Sx.no 6 (by kernel_rfl)
   have hR := hT.1 hs
   exact X.vl (X.field rfl (Sx.ev 5 (Vp xb)) (X.fld Try.underlying33 rfl (Try.siz3 _) rfl rfl)) (Y.RT.of hs rfl hR.st0)
  ·intro ac done u W Sx hT
   have hs := Sx.no 6 (by kernel_rfl)
   have hR := hT.1 hs
   have g : Gr w20 W := hR.1
   exact X.vl (X.load rfl (Sx.ev 18 (.pointer (some ⟨xb, 3, none⟩))) (X.ld1 (Try.agg3 _) ((hC.gr g).at 8 rfl))) (Y.RT.of hs rfl hR.st0)
  ·intro ac done u W Sx hT
   have hs := Sx.no 6 (by kernel_rfl)
   have hR := hT.1 hs
   exact X.vl (X.index rfl (Sx.ev 4 (Vp w.heap.size)) (Sx.ev 17 (Vi (nv x 2))) (Y.idxA (k := (nv x 2).toNat) Try.underlying136 (Try.siz135 _) (by decide) (by omega) (by omega) (addr_add0 _ _))) (Y.RT.of hs rfl hR.st0)
  ·intro ac done u W Sx hT
   have hs := Sx.no 6 (by kernel_rfl)
   have hR := hT.1 hs
   exact X.val (X.w0 rfl) rfl (X.index rfl (Sx.ev 20 (.pointer (some ⟨w.heap.size, ((nv x 2).toNat) * 16, none⟩))) (Sx.ev 19 (Vi (nv x 3))) (Y.idxA (k := (nv x 3).toNat) Try.underlying135 (Try.siz4 _) (by decide) (by omega) (by omega) (by rw [Nat.mul_one]; exact Y.addr_add _ _ _))) (Y.RT.of hs rfl hR.st0)
  ·intro ac done u W Sx hT
   have hR := hT.1 Sx.nd
   have g : Gr w20 W := hR.1
   have hS2 := (hL.gr g).set (k := ((nv x 2).toNat) * 16 + ((nv x 3).toNat)) (.bool true)
   rw [LV_up _ _ _ (by omega)] at hS2
   exact X.unit (X.w0 rfl) rfl (X.store rfl (Sx.ev 21 (.pointer (some ⟨w.heap.size, ((nv x 2).toNat) * 16 + ((nv x 3).toNat), none⟩))) (X.kc (.bool true) rfl) ((hL.gr g).st1 (Try.siz4 _) rfl rfl (by omega))) (Y.RT.fin ⟨(g.only _).trans (Y.set_only _ _ _ _), hS2⟩)
  rintro ac u w21 hs hd hl_ ho ⟨hon, hS2⟩
  replace F : Fr ac 87 [(0, Vp bp), (1, Vi t), (4, Vp w.heap.size), (5, Vp xb), (14, .func (.func 96) #[] #[Vp bx, Vp bt, Vp bk]), (15, .agg #[Vi (nv x 0), Vi (nv x 1), Vi (nv x 2), Vi (nv x 3)])] := X.fr hs hd hl_ _ (by kernel_rfl)
  clear hs hd hl_ ho
  replace hP := hP.only hon (fun i e => by subst e; exact ⟨by omega, by omega⟩)
  replace hS := hS.only hon (by show ¬ _ = _; omega)
  replace hC := (hC.kc hon 0 rfl (hC.kc hon 1 rfl (hC.kc hon 2 rfl (hC.kc hon 3 rfl (hC.kc hon 4 rfl (hC.kc hon 5 rfl (hC.kc hon 6 rfl (hC.kc hon 7 rfl (hC.kc hon 8 rfl (RCells.nil _))))))))))
  replace hQ := hQ.step hon (.inl rfl)
  replace hR_ := hR_.step hon (.inl rfl)
  replace G := Gr.refl w21
  replace hL : OwnP w21 w.heap.size (256) (LV ((fun a b => if a = ((nv x 2).toNat) ∧ b = ((nv x 3).toNat) then true else (pre.foldl lostX (fun _ _ => false)) a b))) := hS2
  clear hS2 hon
  refine X.blockN ?_
  exact ⟨hR_, hQ, by rw [List.foldl_append]; exact hL⟩
 have hE_r := hE
 have hS_r := hS
 clear hS
 have hP_r := hP
 have hC_r := hC
 clear F ac G hP hC hL
 intro w22 ac hQ hS2 hk F
 have hL := hS2
 clear hS2
 replace hE := hE_r.step hQ (.inr (by omega))
 have hP := hP_r.only hQ (fun i e => by subst e; exact ⟨by omega, by omega⟩)
 have hS := hS_r.only hQ (by show ¬ _ = _; omega)
 have hC := (hC_r.kc hQ 0 rfl (hC_r.kc hQ 1 rfl (hC_r.kc hQ 2 rfl (hC_r.kc hQ 3 rfl (hC_r.kc hQ 4 rfl (RCells.nil _))))))
 clear hC_r hP_r
 have G := Gr.refl w22
 have hmk : Mk1 w22 w12.heap.size := hk
 clear hk
 have hmlt : w12.heap.size < w22.heap.size := hmk.lt
 refine X.blockN ?_
 refine X.thenN ?_
 refine Y.seq ?_
 refine Y.lit (by kernel_rfl) ?_
 refine Y.pv F (X.move rfl (F.e 0 rfl)) ?_;clear F ac;intro ac F
 refine Y.pv F (Y.nilC rfl (F.e 22 rfl)) ?_;clear F ac;intro ac F
 refine Y.pv F (X.field rfl (F.e 23 rfl) (X.fld Try.underlying101 rfl (Try.siz99 _) rfl rfl)) ?_;clear F ac;intro ac F
 refine Y.pv F (X.load rfl (F.e 24 rfl) (X.ld1 (Try.agg99 _) (hC.at 4 rfl))) ?_;clear F ac;intro ac F
 refine Y.pv F (X.len1 Try.underlying99 rfl (F.e 25 rfl)) ?_;clear F ac;intro ac F
 refine Y.pv F (X.move rfl (X.kc (Vi 0) rfl)) ?_;clear F ac;intro ac F
 refine Y.nil ?_
 replace F : Fr ac 87 [(0, Vp bp), (1, Vi t), (4, Vp w.heap.size), (14, .func (.func 96) #[] #[Vp bx, Vp bt, Vp bk]), (25, .slice pa n cap), (26, Vi n), (27, Vi 0)] [{ target := .collected w12.heap.size, args := #[] }] := F.sub _
 refine X.thenN ?_
 refine Y.block ?_
 have hE_1 := hE
 have hL_1 := hL
 have hmk_1 := hmk
 have hP_1 := hP
 have hC_1 := hC
 refine Y.loop (fun me_ ac wr => ∃ (i : Nat), me_ = n - i ∧ i ≤ n ∧ Only (fun b => b = bn) w22 wr ∧ OwnP wr bn (n * 17) (NV (itN (send3 hold gr.toNat n (lostF l t)) i s)) ∧ Fr ac 87 [(0, Vp bp), (1, Vi t), (4, Vp w.heap.size), (14, .func (.func 96) #[] #[Vp bx, Vp bt, Vp bk]), (25, .slice pa n cap), (26, Vi n), (27, Vi i)] [{ target := .collected w12.heap.size, args := #[] }]) _ ⟨0, rfl, Nat.zero_le _, Only.refl _ _, hS, F.sub _⟩ ?_
 clear F hP hC hS ac hE hL hmk
 intro me_ ac w23 hI
 obtain ⟨i, rfl, hi, hI1, hS, F⟩ := hI
 have hP := hP_1.on hI1
 have hE := hE_1.trans hI1
 have hL := hL_1.only hI1 (by show ¬ _ = _; omega)
 have hmk := hmk_1.only hI1 (by show ¬ _ = _; omega)
 have hC := (hC_1.kc hI1 0 rfl (hC_1.kc hI1 1 rfl (hC_1.kc hI1 2 rfl (hC_1.kc hI1 3 rfl (hC_1.kc hI1 4 rfl (RCells.nil _))))))
 replace G := Gr.refl w23
 refine Y.seq ?_
 refine Y.lit (by kernel_rfl) ?_
 refine Y.pv F (X.binop rfl (F.e 27 rfl) (F.e 26 rfl) (X.lssI Try.underlying3 rfl)) ?_;clear F ac;intro ac F
 refine Y.nil ?_
 replace F : Fr ac 87 [(0, Vp bp), (1, Vi t), (4, Vp w.heap.size), (14, .func (.func 96) #[] #[Vp bx, Vp bt, Vp bk]), (25, .slice pa n cap), (26, Vi n), (27, Vi i), (28, .bool (decide ((i : Int) < n)))] [{ target := .collected w12.heap.size, args := #[] }] := F.sub _
 refine X.thenN ?_
 refine Y.seq ?_
 cases h24 : decide ((i : Int) < n) with
 | false =>
  try rw [h24] at F
  have h24p : ¬ ((i : Int) < n) := of_decide_eq_false h24
  obtain rfl : n = i := by omega
  refine Y.condF (F.e 28 rfl) ?_
  refine Y.exit ?_
  refine X.thenX ?_
  refine X.thenX ?_
  refine X.blockX ?_
  show bodyPostM _ _ _ _ _ .ret _ _
  exact ret_mark (v := .tuple #[]) F hmk (Y.rs0 rfl) (fun W2 hW2 => ⟨rfl, hE.step hW2 (.inr (by omega)), hS.only hW2 (by show ¬ _ = _; omega)⟩)
 | true =>
  try rw [h24] at F
  have h24p : ((i : Int) < n) := of_decide_eq_true h24
  have hi2 : i < n := by omega
  refine Y.condT (F.e 28 rfl) ?_
  refine Y.skip ?_
  refine X.thenN ?_
  refine Y.seq ?_
  refine Y.block ?_
  refine Y.seq ?_
  refine Y.lit (by kernel_rfl) ?_
  refine Y.pv F (X.move rfl (F.e 27 rfl)) ?_;clear F ac;intro ac F
  obtain rfl : pa = some ⟨bn, 0, none⟩ := hP.hpa (by omega)
  refine Y.pv F (X.index rfl (F.e 25 rfl) (F.e 27 rfl) (X.idx (k := i) Try.underlying99 (Try.siz104 _) (by omega) (by omega) (addr_add0 _ _))) ?_;clear F ac;intro ac F
  replace hC : RCells w23 [(Ad bp 0, Vi gr), (Ad bp 1, Vi hold), (Ad bp 2, .slice na n nc), (Ad bp 3, .slice la m lc), (Ad bp 4, .slice (some ⟨bn, 0, none⟩) n cap), (⟨bn, i * 17, none⟩, Vi ((itN (send3 hold gr.toNat n (lostF l t)) i s) i 0))] := hC.append ((RCells.cons ((hS.cell (k := i * 17 + 0) (by omega)).trans (congrArg some (NV_int (itN (send3 hold gr.toNat n (lostF l t)) i s) i 0 (by decide)))) (RCells.nil _)))
  replace hC : RCells w23 [(Ad bp 0, Vi gr), (Ad bp 1, Vi hold), (Ad bp 2, .slice na n nc), (Ad bp 3, .slice la m lc), (Ad bp 4, .slice (some ⟨bn, 0, none⟩) n cap), (⟨bn, i * 17, none⟩, Vi ((itN (send3 hold gr.toNat n (lostF l t)) i s) i 0)), (⟨bn, i * 17 + 1, none⟩, Vi ((itN (send3 hold gr.toNat n (lostF l t)) i s) i 1))] := hC.append ((RCells.cons ((hS.cell (k := i * 17 + 1) (by omega)).trans (congrArg some (NV_int (itN (send3 hold gr.toNat n (lostF l t)) i s) i 1 (by decide)))) (RCells.nil _)))
  replace hC : RCells w23 [(Ad bp 0, Vi gr), (Ad bp 1, Vi hold), (Ad bp 2, .slice na n nc), (Ad bp 3, .slice la m lc), (Ad bp 4, .slice (some ⟨bn, 0, none⟩) n cap), (⟨bn, i * 17, none⟩, Vi ((itN (send3 hold gr.toNat n (lostF l t)) i s) i 0)), (⟨bn, i * 17 + 1, none⟩, Vi ((itN (send3 hold gr.toNat n (lostF l t)) i s) i 1)), (⟨bn, i * 17 + 2, none⟩, Vi ((itN (send3 hold gr.toNat n (lostF l t)) i s) i 2))] := hC.append ((RCells.cons ((hS.cell (k := i * 17 + 2) (by omega)).trans (congrArg some (NV_int (itN (send3 hold gr.toNat n (lostF l t)) i s) i 2 (by decide)))) (RCells.nil _)))
  replace hC : RCells w23 [(Ad bp 0, Vi gr), (Ad bp 1, Vi hold), (Ad bp 2, .slice na n nc), (Ad bp 3, .slice la m lc), (Ad bp 4, .slice (some ⟨bn, 0, none⟩) n cap), (⟨bn, i * 17, none⟩, Vi ((itN (send3 hold gr.toNat n (lostF l t)) i s) i 0)), (⟨bn, i * 17 + 1, none⟩, Vi ((itN (send3 hold gr.toNat n (lostF l t)) i s) i 1)), (⟨bn, i * 17 + 2, none⟩, Vi ((itN (send3 hold gr.toNat n (lostF l t)) i s) i 2)), (⟨bn, i * 17 + 3, none⟩, Vi ((itN (send3 hold gr.toNat n (lostF l t)) i s) i 3))] := hC.append ((RCells.cons ((hS.cell (k := i * 17 + 3) (by omega)).trans (congrArg some (NV_int (itN (send3 hold gr.toNat n (lostF l t)) i s) i 3 (by decide)))) (RCells.nil _)))
  replace hC : RCells w23 [(Ad bp 0, Vi gr), (Ad bp 1, Vi hold), (Ad bp 2, .slice na n nc), (Ad bp 3, .slice la m lc), (Ad bp 4, .slice (some ⟨bn, 0, none⟩) n cap), (⟨bn, i * 17, none⟩, Vi ((itN (send3 hold gr.toNat n (lostF l t)) i s) i 0)), (⟨bn, i * 17 + 1, none⟩, Vi ((itN (send3 hold gr.toNat n (lostF l t)) i s) i 1)), (⟨bn, i * 17 + 2, none⟩, Vi ((itN (send3 hold gr.toNat n (lostF l t)) i s) i 2)), (⟨bn, i * 17 + 3, none⟩, Vi ((itN (send3 hold gr.toNat n (lostF l t)) i s) i 3)), (⟨bn, i * 17 + 4, none⟩, Vi ((itN (send3 hold gr.toNat n (lostF l t)) i s) i 4))] := hC.append ((RCells.cons ((hS.cell (k := i * 17 + 4) (by omega)).trans (congrArg some (NV_int (itN (send3 hold gr.toNat n (lostF l t)) i s) i 4 (by decide)))) (RCells.nil _)))
  replace hC : RCells w23 [(Ad bp 0, Vi gr), (Ad bp 1, Vi hold), (Ad bp 2, .slice na n nc), (Ad bp 3, .slice la m lc), (Ad bp 4, .slice (some ⟨bn, 0, none⟩) n cap), (⟨bn, i * 17, none⟩, Vi ((itN (send3 hold gr.toNat n (lostF l t)) i s) i 0)), (⟨bn, i * 17 + 1, none⟩, Vi ((itN (send3 hold gr.toNat n (lostF l t)) i s) i 1)), (⟨bn, i * 17 + 2, none⟩, Vi ((itN (send3 hold gr.toNat n (lostF l t)) i s) i 2)), (⟨bn, i * 17 + 3, none⟩, Vi ((itN (send3 hold gr.toNat n (lostF l t)) i s) i 3)), (⟨bn, i * 17 + 4, none⟩, Vi ((itN (send3 hold gr.toNat n (lostF l t)) i s) i 4)), (⟨bn, i * 17 + 5, none⟩, Vi ((itN (send3 hold gr.toNat n (lostF l t)) i s) i 5))] := hC.append ((RCells.cons ((hS.cell (k := i * 17 + 5) (by omega)).trans (congrArg some (NV_int (itN (send3 hold gr.toNat n (lostF l t)) i s) i 5 (by decide)))) (RCells.nil _)))
  replace hC : RCells w23 [(Ad bp 0, Vi gr), (Ad bp 1, Vi hold), (Ad bp 2, .slice na n nc), (Ad bp 3, .slice la m lc), (Ad bp 4, .slice (some ⟨bn, 0, none⟩) n cap), (⟨bn, i * 17, none⟩, Vi ((itN (send3 hold gr.toNat n (lostF l t)) i s) i 0)), (⟨bn, i * 17 + 1, none⟩, Vi ((itN (send3 hold gr.toNat n (lostF l t)) i s) i 1)), (⟨bn, i * 17 + 2, none⟩, Vi ((itN (send3 hold gr.toNat n (lostF l t)) i s) i 2)), (⟨bn, i * 17 + 3, none⟩, Vi ((itN (send3 hold gr.toNat n (lostF l t)) i s) i 3)), (⟨bn, i * 17 + 4, none⟩, Vi ((itN (send3 hold gr.toNat n (lostF l t)) i s) i 4)), (⟨bn, i * 17 + 5, none⟩, Vi ((itN (send3 hold gr.toNat n (lostF l t)) i s) i 5)), (⟨bn, i * 17 + 6, none⟩, Vi ((itN (send3 hold gr.toNat n (lostF l t)) i s) i 6))] := hC.append ((RCells.cons ((hS.cell (k := i * 17 + 6) (by omega)).trans (congrArg some (NV_int (itN (send3 hold gr.toNat n (lostF l t)) i s) i 6 (by decide)))) (RCells.nil _)))
  replace hC : RCells w23 [(Ad bp 0, Vi gr), (Ad bp 1, Vi hold), (Ad bp 2, .slice na n nc), (Ad bp 3, .slice la m lc), (Ad bp 4, .slice (some ⟨bn, 0, none⟩) n cap), (⟨bn, i * 17, none⟩, Vi ((itN (send3 hold gr.toNat n (lostF l t)) i s) i 0)), (⟨bn, i * 17 + 1, none⟩, Vi ((itN (send3 hold gr.toNat n (lostF l t)) i s) i 1)), (⟨bn, i * 17 + 2, none⟩, Vi ((itN (send3 hold gr.toNat n (lostF l t)) i s) i 2)), (⟨bn, i * 17 + 3, none⟩, Vi ((itN (send3 hold gr.toNat n (lostF l t)) i s) i 3)), (⟨bn, i * 17 + 4, none⟩, Vi ((itN (send3 hold gr.toNat n (lostF l t)) i s) i 4)), (⟨bn, i * 17 + 5, none⟩, Vi ((itN (send3 hold gr.toNat n (lostF l t)) i s) i 5)), (⟨bn, i * 17 + 6, none⟩, Vi ((itN (send3 hold gr.toNat n (lostF l t)) i s) i 6)), (⟨bn, i * 17 + 7, none⟩, Vi ((itN (send3 hold gr.toNat n (lostF l t)) i s) i 7))] := hC.append ((RCells.cons ((hS.cell (k := i * 17 + 7) (by omega)).trans (congrArg some (NV_int (itN (send3 hold gr.toNat n (lostF l t)) i s) i 7 (by decide)))) (RCells.nil _)))
  replace hC : RCells w23 [(Ad bp 0, Vi gr), (Ad bp 1, Vi hold), (Ad bp 2, .slice na n nc), (Ad bp 3, .slice la m lc), (Ad bp 4, .slice (some ⟨bn, 0, none⟩) n cap), (⟨bn, i * 17, none⟩, Vi ((itN (send3 hold gr.toNat n (lostF l t)) i s) i 0)), (⟨bn, i * 17 + 1, none⟩, Vi ((itN (send3 hold gr.toNat n (lostF l t)) i s) i 1)), (⟨bn, i * 17 + 2, none⟩, Vi ((itN (send3 hold gr.toNat n (lostF l t)) i s) i 2)), (⟨bn, i * 17 + 3, none⟩, Vi ((itN (send3 hold gr.toNat n (lostF l t)) i s) i 3)), (⟨bn, i * 17 + 4, none⟩, Vi ((itN (send3 hold gr.toNat n (lostF l t)) i s) i 4)), (⟨bn, i * 17 + 5, none⟩, Vi ((itN (send3 hold gr.toNat n (lostF l t)) i s) i 5)), (⟨bn, i * 17 + 6, none⟩, Vi ((itN (send3 hold gr.toNat n (lostF l t)) i s) i 6)), (⟨bn, i * 17 + 7, none⟩, Vi ((itN (send3 hold gr.toNat n (lostF l t)) i s) i 7)), (⟨bn, i * 17 + 8, none⟩, Vi ((itN (send3 hold gr.toNat n (lostF l t)) i s) i 8))] := hC.append ((RCells.cons ((hS.cell (k := i * 17 + 8) (by omega)).trans (congrArg some (NV_int (itN (send3 hold gr.toNat n (lostF l t)) i s) i 8 (by decide)))) (RCells.nil _)))
  replace hC : RCells w23 [(Ad bp 0, Vi gr), (Ad bp 1, Vi hold), (Ad bp 2, .slice na n nc), (Ad bp 3, .slice la m lc), (Ad bp 4, .slice (some ⟨bn, 0, none⟩) n cap), (⟨bn, i * 17, none⟩, Vi ((itN (send3 hold gr.toNat n (lostF l t)) i s) i 0)), (⟨bn, i * 17 + 1, none⟩, Vi ((itN (send3 hold gr.toNat n (lostF l t)) i s) i 1)), (⟨bn, i * 17 + 2, none⟩, Vi ((itN (send3 hold gr.toNat n (lostF l t)) i s) i 2)), (⟨bn, i * 17 + 3, none⟩, Vi ((itN (send3 hold gr.toNat n (lostF l t)) i s) i 3)), (⟨bn, i * 17 + 4, none⟩, Vi ((itN (send3 hold gr.toNat n (lostF l t)) i s) i 4)), (⟨bn, i * 17 + 5, none⟩, Vi ((itN (send3 hold gr.toNat n (lostF l t)) i s) i 5)), (⟨bn, i * 17 + 6, none⟩, Vi ((itN (send3 hold gr.toNat n (lostF l t)) i s) i 6)), (⟨bn, i * 17 + 7, none⟩, Vi ((itN (send3 hold gr.toNat n (lostF l t)) i s) i 7)), (⟨bn, i * 17 + 8, none⟩, Vi ((itN (send3 hold gr.toNat n (lostF l t)) i s) i 8)), (⟨bn, i * 17 + 9, none⟩, Vi ((itN (send3 hold gr.toNat n (lostF l t)) i s) i 9))] := hC.append ((RCells.cons ((hS.cell (k := i * 17 + 9) (by omega)).trans (congrArg some (NV_int (itN (send3 hold gr.toNat n (lostF l t)) i s) i 9 (by decide)))) (RCells.nil _)))
  replace hC : RCells w23 [(Ad bp 0, Vi gr), (Ad bp 1, Vi hold), (Ad bp 2, .slice na n nc), (Ad bp 3, .slice la m lc), (Ad bp 4, .slice (some ⟨bn, 0, none⟩) n cap), (⟨bn, i * 17, none⟩, Vi ((itN (send3 hold gr.toNat n (lostF l t)) i s) i 0)), (⟨bn, i * 17 + 1, none⟩, Vi ((itN (send3 hold gr.toNat n (lostF l t)) i s) i 1)), (⟨bn, i * 17 + 2, none⟩, Vi ((itN (send3 hold gr.toNat n (lostF l t)) i s) i 2)), (⟨bn, i * 17 + 3, none⟩, Vi ((itN (send3 hold gr.toNat n (lostF l t)) i s) i 3)), (⟨bn, i * 17 + 4, none⟩, Vi ((itN (send3 hold gr.toNat n (lostF l t)) i s) i 4)), (⟨bn, i * 17 + 5, none⟩, Vi ((itN (send3 hold gr.toNat n (lostF l t)) i s) i 5)), (⟨bn, i * 17 + 6, none⟩, Vi ((itN (send3 hold gr.toNat n (lostF l t)) i s) i 6)), (⟨bn, i * 17 + 7, none⟩, Vi ((itN (send3 hold gr.toNat n (lostF l t)) i s) i 7)), (⟨bn, i * 17 + 8, none⟩, Vi ((itN (send3 hold gr.toNat n (lostF l t)) i s) i 8)), (⟨bn, i * 17 + 9, none⟩, Vi ((itN (send3 hold gr.toNat n (lostF l t)) i s) i 9)), (⟨bn, i * 17 + 10, none⟩, Vi ((itN (send3 hold gr.toNat n (lostF l t)) i s) i 10))] := hC.append ((RCells.cons ((hS.cell (k := i * 17 + 10) (by omega)).trans (congrArg some (NV_int (itN (send3 hold gr.toNat n (lostF l t)) i s) i 10 (by decide)))) (RCells.nil _)))
  replace hC : RCells w23 [(Ad bp 0, Vi gr), (Ad bp 1, Vi hold), (Ad bp 2, .slice na n nc), (Ad bp 3, .slice la m lc), (Ad bp 4, .slice (some ⟨bn, 0, none⟩) n cap), (⟨bn, i * 17, none⟩, Vi ((itN (send3 hold gr.toNat n (lostF l t)) i s) i 0)), (⟨bn, i * 17 + 1, none⟩, Vi ((itN (send3 hold gr.toNat n (lostF l t)) i s) i 1)), (⟨bn, i * 17 + 2, none⟩, Vi ((itN (send3 hold gr.toNat n (lostF l t)) i s) i 2)), (⟨bn, i * 17 + 3, none⟩, Vi ((itN (send3 hold gr.toNat n (lostF l t)) i s) i 3)), (⟨bn, i * 17 + 4, none⟩, Vi ((itN (send3 hold gr.toNat n (lostF l t)) i s) i 4)), (⟨bn, i * 17 + 5, none⟩, Vi ((itN (send3 hold gr.toNat n (lostF l t)) i s) i 5)), (⟨bn, i * 17 + 6, none⟩, Vi ((itN (send3 hold gr.toNat n (lostF l t)) i s) i 6)), (⟨bn, i * 17 + 7, none⟩, Vi ((itN (send3 hold gr.toNat n (lostF l t)) i s) i 7)), (⟨bn, i * 17 + 8, none⟩, Vi ((itN (send3 hold gr.toNat n (lostF l t)) i s) i 8)), (⟨bn, i * 17 + 9, none⟩, Vi ((itN (send3 hold gr.toNat n (lostF l t)) i s) i 9)), (⟨bn, i * 17 + 10, none⟩, Vi ((itN (send3 hold gr.toNat n (lostF l t)) i s) i 10)), (⟨bn, i * 17 + 11, none⟩, Vi ((itN (send3 hold gr.toNat n (lostF l t)) i s) i 11))] := hC.append ((RCells.cons ((hS.cell (k := i * 17 + 11) (by omega)).trans (congrArg some (NV_int (itN (send3 hold gr.toNat n (lostF l t)) i s) i 11 (by decide)))) (RCells.nil _)))
  replace hC : RCells w23 [(Ad bp 0, Vi gr), (Ad bp 1, Vi hold), (Ad bp 2, .slice na n nc), (Ad bp 3, .slice la m lc), (Ad bp 4, .slice (some ⟨bn, 0, none⟩) n cap), (⟨bn, i * 17, none⟩, Vi ((itN (send3 hold gr.toNat n (lostF l t)) i s) i 0)), (⟨bn, i * 17 + 1, none⟩, Vi ((itN (send3 hold gr.toNat n (lostF l t)) i s) i 1)), (⟨bn, i * 17 + 2, none⟩, Vi ((itN (send3 hold gr.toNat n (lostF l t)) i s) i 2)), (⟨bn, i * 17 + 3, none⟩, Vi ((itN (send3 hold gr.toNat n (lostF l t)) i s) i 3)), (⟨bn, i * 17 + 4, none⟩, Vi ((itN (send3 hold gr.toNat n (lostF l t)) i s) i 4)), (⟨bn, i * 17 + 5, none⟩, Vi ((itN (send3 hold gr.toNat n (lostF l t)) i s) i 5)), (⟨bn, i * 17 + 6, none⟩, Vi ((itN (send3 hold gr.toNat n (lostF l t)) i s) i 6)), (⟨bn, i * 17 + 7, none⟩, Vi ((itN (send3 hold gr.toNat n (lostF l t)) i s) i 7)), (⟨bn, i * 17 + 8, none⟩, Vi ((itN (send3 hold gr.toNat n (lostF l t)) i s) i 8)), (⟨bn, i * 17 + 9, none⟩, Vi ((itN (send3 hold gr.toNat n (lostF l t)) i s) i 9)), (⟨bn, i * 17 + 10, none⟩, Vi ((itN (send3 hold gr.toNat n (lostF l t)) i s) i 10)), (⟨bn, i * 17 + 11, none⟩, Vi ((itN (send3 hold gr.toNat n (lostF l t)) i s) i 11)), (⟨bn, i * 17 + 12, none⟩, Vi ((itN (send3 hold gr.toNat n (lostF l t)) i s) i 12))] := hC.append ((RCells.cons ((hS.cell (k := i * 17 + 12) (by omega)).trans (congrArg some (NV_int (itN (send3 hold gr.toNat n (lostF l t)) i s) i 12 (by decide)))) (RCells.nil _)))
  replace hC : RCells w23 [(Ad bp 0, Vi gr), (Ad bp 1, Vi hold), (Ad bp 2, .slice na n nc), (Ad bp 3, .slice la m lc), (Ad bp 4, .slice (some ⟨bn, 0, none⟩) n cap), (⟨bn, i * 17, none⟩, Vi ((itN (send3 hold gr.toNat n (lostF l t)) i s) i 0)), (⟨bn, i * 17 + 1, none⟩, Vi ((itN (send3 hold gr.toNat n (lostF l t)) i s) i 1)), (⟨bn, i * 17 + 2, none⟩, Vi ((itN (send3 hold gr.toNat n (lostF l t)) i s) i 2)), (⟨bn, i * 17 + 3, none⟩, Vi ((itN (send3 hold gr.toNat n (lostF l t)) i s) i 3)), (⟨bn, i * 17 + 4, none⟩, Vi ((itN (send3 hold gr.toNat n (lostF l t)) i s) i 4)), (⟨bn, i * 17 + 5, none⟩, Vi ((itN (send3 hold gr.toNat n (lostF l t)) i s) i 5)), (⟨bn, i * 17 + 6, none⟩, Vi ((itN (send3 hold gr.toNat n (lostF l t)) i s) i 6)), (⟨bn, i * 17 + 7, none⟩, Vi ((itN (send3 hold gr.toNat n (lostF l t)) i s) i 7)), (⟨bn, i * 17 + 8, none⟩, Vi ((itN (send3 hold gr.toNat n (lostF l t)) i s) i 8)), (⟨bn, i * 17 + 9, none⟩, Vi ((itN (send3 hold gr.toNat n (lostF l t)) i s) i 9)), (⟨bn, i * 17 + 10, none⟩, Vi ((itN (send3 hold gr.toNat n (lostF l t)) i s) i 10)), (⟨bn, i * 17 + 11, none⟩, Vi ((itN (send3 hold gr.toNat n (lostF l t)) i s) i 11)), (⟨bn, i * 17 + 12, none⟩, Vi ((itN (send3 hold gr.toNat n (lostF l t)) i s) i 12)), (⟨bn, i * 17 + 13, none⟩, Vi ((itN (send3 hold gr.toNat n (lostF l t)) i s) i 13))] := hC.append ((RCells.cons ((hS.cell (k := i * 17 + 13) (by omega)).trans (congrArg some (NV_int (itN (send3 hold gr.toNat n (lostF l t)) i s) i 13 (by decide)))) (RCells.nil _)))
  replace hC : RCells w23 [(Ad bp 0, Vi gr), (Ad bp 1, Vi hold), (Ad bp 2, .slice na n nc), (Ad bp 3, .slice la m lc), (Ad bp 4, .slice (some ⟨bn, 0, none⟩) n cap), (⟨bn, i * 17, none⟩, Vi ((itN (send3 hold gr.toNat n (lostF l t)) i s) i 0)), (⟨bn, i * 17 + 1, none⟩, Vi ((itN (send3 hold gr.toNat n (lostF l t)) i s) i 1)), (⟨bn, i * 17 + 2, none⟩, Vi ((itN (send3 hold gr.toNat n (lostF l t)) i s) i 2)), (⟨bn, i * 17 + 3, none⟩, Vi ((itN (send3 hold gr.toNat n (lostF l t)) i s) i 3)), (⟨bn, i * 17 + 4, none⟩, Vi ((itN (send3 hold gr.toNat n (lostF l t)) i s) i 4)), (⟨bn, i * 17 + 5, none⟩, Vi ((itN (send3 hold gr.toNat n (lostF l t)) i s) i 5)), (⟨bn, i * 17 + 6, none⟩, Vi ((itN (send3 hold gr.toNat n (lostF l t)) i s) i 6)), (⟨bn, i * 17 + 7, none⟩, Vi ((itN (send3 hold gr.toNat n (lostF l t)) i s) i 7)), (⟨bn, i * 17 + 8, none⟩, Vi ((itN (send3 hold gr.toNat n (lostF l t)) i s) i 8)), (⟨bn, i * 17 + 9, none⟩, Vi ((itN (send3 hold gr.toNat n (lostF l t)) i s) i 9)), (⟨bn, i * 17 + 10, none⟩, Vi ((itN (send3 hold gr.toNat n (lostF l t)) i s) i 10)), (⟨bn, i * 17 + 11, none⟩, Vi ((itN (send3 hold gr.toNat n (lostF l t)) i s) i 11)), (⟨bn, i * 17 + 12, none⟩, Vi ((itN (send3 hold gr.toNat n (lostF l t)) i s) i 12)), (⟨bn, i * 17 + 13, none⟩, Vi ((itN (send3 hold gr.toNat n (lostF l t)) i s) i 13)), (⟨bn, i * 17 + 14, none⟩, Vi ((itN (send3 hold gr.toNat n (lostF l t)) i s) i 14))] := hC.append ((RCells.cons ((hS.cell (k := i * 17 + 14) (by omega)).trans (congrArg some (NV_int (itN (send3 hold gr.toNat n (lostF l t)) i s) i 14 (by decide)))) (RCells.nil _)))
  replace hC : RCells w23 [(Ad bp 0, Vi gr), (Ad bp 1, Vi hold), (Ad bp 2, .slice na n nc), (Ad bp 3, .slice la m lc), (Ad bp 4, .slice (some ⟨bn, 0, none⟩) n cap), (⟨bn, i * 17, none⟩, Vi ((itN (send3 hold gr.toNat n (lostF l t)) i s) i 0)), (⟨bn, i * 17 + 1, none⟩, Vi ((itN (send3 hold gr.toNat n (lostF l t)) i s) i 1)), (⟨bn, i * 17 + 2, none⟩, Vi ((itN (send3 hold gr.toNat n (lostF l t)) i s) i 2)), (⟨bn, i * 17 + 3, none⟩, Vi ((itN (send3 hold gr.toNat n (lostF l t)) i s) i 3)), (⟨bn, i * 17 + 4, none⟩, Vi ((itN (send3 hold gr.toNat n (lostF l t)) i s) i 4)), (⟨bn, i * 17 + 5, none⟩, Vi ((itN (send3 hold gr.toNat n (lostF l t)) i s) i 5)), (⟨bn, i * 17 + 6, none⟩, Vi ((itN (send3 hold gr.toNat n (lostF l t)) i s) i 6)), (⟨bn, i * 17 + 7, none⟩, Vi ((itN (send3 hold gr.toNat n (lostF l t)) i s) i 7)), (⟨bn, i * 17 + 8, none⟩, Vi ((itN (send3 hold gr.toNat n (lostF l t)) i s) i 8)), (⟨bn, i * 17 + 9, none⟩, Vi ((itN (send3 hold gr.toNat n (lostF l t)) i s) i 9)), (⟨bn, i * 17 + 10, none⟩, Vi ((itN (send3 hold gr.toNat n (lostF l t)) i s) i 10)), (⟨bn, i * 17 + 11, none⟩, Vi ((itN (send3 hold gr.toNat n (lostF l t)) i s) i 11)), (⟨bn, i * 17 + 12, none⟩, Vi ((itN (send3 hold gr.toNat n (lostF l t)) i s) i 12)), (⟨bn, i * 17 + 13, none⟩, Vi ((itN (send3 hold gr.toNat n (lostF l t)) i s) i 13)), (⟨bn, i * 17 + 14, none⟩, Vi ((itN (send3 hold gr.toNat n (lostF l t)) i s) i 14)), (⟨bn, i * 17 + 15, none⟩, Vi ((itN (send3 hold gr.toNat n (lostF l t)) i s) i 15))] := hC.append ((RCells.cons ((hS.cell (k := i * 17 + 15) (by omega)).trans (congrArg some (NV_int (itN (send3 hold gr.toNat n (lostF l t)) i s) i 15 (by decide)))) (RCells.nil _)))
  replace hC : RCells w23 [(Ad bp 0, Vi gr), (Ad bp 1, Vi hold), (Ad bp 2, .slice na n nc), (Ad bp 3, .slice la m lc), (Ad bp 4, .slice (some ⟨bn, 0, none⟩) n cap), (⟨bn, i * 17, none⟩, Vi ((itN (send3 hold gr.toNat n (lostF l t)) i s) i 0)), (⟨bn, i * 17 + 1, none⟩, Vi ((itN (send3 hold gr.toNat n (lostF l t)) i s) i 1)), (⟨bn, i * 17 + 2, none⟩, Vi ((itN (send3 hold gr.toNat n (lostF l t)) i s) i 2)), (⟨bn, i * 17 + 3, none⟩, Vi ((itN (send3 hold gr.toNat n (lostF l t)) i s) i 3)), (⟨bn, i * 17 + 4, none⟩, Vi ((itN (send3 hold gr.toNat n (lostF l t)) i s) i 4)), (⟨bn, i * 17 + 5, none⟩, Vi ((itN (send3 hold gr.toNat n (lostF l t)) i s) i 5)), (⟨bn, i * 17 + 6, none⟩, Vi ((itN (send3 hold gr.toNat n (lostF l t)) i s) i 6)), (⟨bn, i * 17 + 7, none⟩, Vi ((itN (send3 hold gr.toNat n (lostF l t)) i s) i 7)), (⟨bn, i * 17 + 8, none⟩, Vi ((itN (send3 hold gr.toNat n (lostF l t)) i s) i 8)), (⟨bn, i * 17 + 9, none⟩, Vi ((itN (send3 hold gr.toNat n (lostF l t)) i s) i 9)), (⟨bn, i * 17 + 10, none⟩, Vi ((itN (send3 hold gr.toNat n (lostF l t)) i s) i 10)), (⟨bn, i * 17 + 11, none⟩, Vi ((itN (send3 hold gr.toNat n (lostF l t)) i s) i 11)), (⟨bn, i * 17 + 12, none⟩, Vi ((itN (send3 hold gr.toNat n (lostF l t)) i s) i 12)), (⟨bn, i * 17 + 13, none⟩, Vi ((itN (send3 hold gr.toNat n (lostF l t)) i s) i 13)), (⟨bn, i * 17 + 14, none⟩, Vi ((itN (send3 hold gr.toNat n (lostF l t)) i s) i 14)), (⟨bn, i * 17 + 15, none⟩, Vi ((itN (send3 hold gr.toNat n (lostF l t)) i s) i 15)), (⟨bn, i * 17 + 16, none⟩, .bool (bz ((itN (send3 hold gr.toNat n (lostF l t)) i s) i 16)))] := hC.append ((RCells.cons ((hS.cell (k := i * 17 + 16) (by omega)).trans (congrArg some (NV_bool (itN (send3 hold gr.toNat n (lostF l t)) i s) i))) (RCells.nil _)))
  refine Y.pv F (X.load rfl (F.e 30 rfl) (X.ldN (Try.agg104 _) (Try.siz104 _) (Y.atz (⟨bn, i * 17, none⟩) (Y.AtFrom.cons (hC.at 5 rfl) (Y.AtFrom.cons (hC.at 6 rfl) (Y.AtFrom.cons (hC.at 7 rfl) (Y.AtFrom.cons (hC.at 8 rfl) (Y.AtFrom.cons (hC.at 9 rfl) (Y.AtFrom.cons (hC.at 10 rfl) (Y.AtFrom.cons (hC.at 11 rfl) (Y.AtFrom.cons (hC.at 12 rfl) (Y.AtFrom.cons (hC.at 13 rfl) (Y.AtFrom.cons (hC.at 14 rfl) (Y.AtFrom.cons (hC.at 15 rfl) (Y.AtFrom.cons (hC.at 16 rfl) (Y.AtFrom.cons (hC.at 17 rfl) (Y.AtFrom.cons (hC.at 18 rfl) (Y.AtFrom.cons (hC.at 19 rfl) (Y.AtFrom.cons (hC.at 20 rfl) (Y.AtFrom.cons (hC.at 21 rfl) (Y.AtFrom.nil _ _ _))))))))))))))))))))) ?_;clear F ac;intro ac F
  refine Y.pv F (Y.al rfl (Try.new104 _)) ?_;clear F ac;intro ac F
  refine Y.pv F (X.assign rfl (F.e 29 rfl)) ?_;clear F ac;intro ac F
  refine Y.punit F (X.w0 rfl) rfl (X.store rfl (F.e 7 rfl) (F.e 31 rfl) (Y.stNew [Vi ((itN (send3 hold gr.toNat n (lostF l t)) i s) i 0), Vi ((itN (send3 hold gr.toNat n (lostF l t)) i s) i 1), Vi ((itN (send3 hold gr.toNat n (lostF l t)) i s) i 2), Vi ((itN (send3 hold gr.toNat n (lostF l t)) i s) i 3), Vi ((itN (send3 hold gr.toNat n (lostF l t)) i s) i 4), Vi ((itN (send3 hold gr.toNat n (lostF l t)) i s) i 5), Vi ((itN (send3 hold gr.toNat n (lostF l t)) i s) i 6), Vi ((itN (send3 hold gr.toNat n (lostF l t)) i s) i 7), Vi ((itN (send3 hold gr.toNat n (lostF l t)) i s) i 8), Vi ((itN (send3 hold gr.toNat n (lostF l t)) i s) i 9), Vi ((itN (send3 hold gr.toNat n (lostF l t)) i s) i 10), Vi ((itN (send3 hold gr.toNat n (lostF l t)) i s) i 11), Vi ((itN (send3 hold gr.toNat n (lostF l t)) i s) i 12), Vi ((itN (send3 hold gr.toNat n (lostF l t)) i s) i 13), Vi ((itN (send3 hold gr.toNat n (lostF l t)) i s) i 14), Vi ((itN (send3 hold gr.toNat n (lostF l t)) i s) i 15), .bool (bz ((itN (send3 hold gr.toNat n (lostF l t)) i s) i 16))] [Vi 0, Vi 0, Vi 0, Vi 0, Vi 0, Vi 0, Vi 0, Vi 0, Vi 0, Vi 0, Vi 0, Vi 0, Vi 0, Vi 0, Vi 0, Vi 0, .bool false] (Try.siz104 _) rfl rfl)) ?_;clear F ac;intro ac F
  have hq25 : w.heap.size < w23.heap.size := hL.lt
  have hq26 : bn < w23.heap.size := hS.lt
  have hq27 : bp < w23.heap.size := lt_cell (hC.at 0 rfl)
  have g := Gr.alloc w23 (.cells #[Vi ((itN (send3 hold gr.toNat n (lostF l t)) i s) i 0), Vi ((itN (send3 hold gr.toNat n (lostF l t)) i s) i 1), Vi ((itN (send3 hold gr.toNat n (lostF l t)) i s) i 2), Vi ((itN (send3 hold gr.toNat n (lostF l t)) i s) i 3), Vi ((itN (send3 hold gr.toNat n (lostF l t)) i s) i 4), Vi ((itN (send3 hold gr.toNat n (lostF l t)) i s) i 5), Vi ((itN (send3 hold gr.toNat n (lostF l t)) i s) i 6), Vi ((itN (send3 hold gr.toNat n (lostF l t)) i s) i 7), Vi ((itN (send3 hold gr.toNat n (lostF l t)) i s) i 8), Vi ((itN (send3 hold gr.toNat n (lostF l t)) i s) i 9), Vi ((itN (send3 hold gr.toNat n (lostF l t)) i s) i 10), Vi ((itN (send3 hold gr.toNat n (lostF l t)) i s) i 11), Vi ((itN (send3 hold gr.toNat n (lostF l t)) i s) i 12), Vi ((itN (send3 hold gr.toNat n (lostF l t)) i s) i 13), Vi ((itN (send3 hold gr.toNat n (lostF l t)) i s) i 14), Vi ((itN (send3 hold gr.toNat n (lostF l t)) i s) i 15), .bool (bz ((itN (send3 hold gr.toNat n (lostF l t)) i s) i 16))] 104)
  have hb := heap_alloc_new w23 (.cells #[Vi ((itN (send3 hold gr.toNat n (lostF l t)) i s) i 0), Vi ((itN (send3 hold gr.toNat n (lostF l t)) i s) i 1), Vi ((itN (send3 hold gr.toNat n (lostF l t)) i s) i 2), Vi ((itN (send3 hold gr.toNat n (lostF l t)) i s) i 3), Vi ((itN (send3 hold gr.toNat n (lostF l t)) i s) i 4), Vi ((itN (send3 hold gr.toNat n (lostF l t)) i s) i 5), Vi ((itN (send3 hold gr.toNat n (lostF l t)) i s) i 6), Vi ((itN (send3 hold gr.toNat n (lostF l t)) i s) i 7), Vi ((itN (send3 hold gr.toNat n (lostF l t)) i s) i 8), Vi ((itN (send3 hold gr.toNat n (lostF l t)) i s) i 9), Vi ((itN (send3 hold gr.toNat n (lostF l t)) i s) i 10), Vi ((itN (send3 hold gr.toNat n (lostF l t)) i s) i 11), Vi ((itN (send3 hold gr.toNat n (lostF l t)) i s) i 12), Vi ((itN (send3 hold gr.toNat n (lostF l t)) i s) i 13), Vi ((itN (send3 hold gr.toNat n (lostF l t)) i s) i 14), Vi ((itN (send3 hold gr.toNat n (lostF l t)) i s) i 15), .bool (bz ((itN (send3 hold gr.toNat n (lostF l t)) i s) i 16))] 104)
  have hbl : w23.heap.size < (w23.alloc (.cells #[Vi ((itN (send3 hold gr.toNat n (lostF l t)) i s) i 0), Vi ((itN (send3 hold gr.toNat n (lostF l t)) i s) i 1), Vi ((itN (send3 hold gr.toNat n (lostF l t)) i s) i 2), Vi ((itN (send3 hold gr.toNat n (lostF l t)) i s) i 3), Vi ((itN (send3 hold gr.toNat n (lostF l t)) i s) i 4), Vi ((itN (send3 hold gr.toNat n (lostF l t)) i s) i 5), Vi ((itN (send3 hold gr.toNat n (lostF l t)) i s) i 6), Vi ((itN (send3 hold gr.toNat n (lostF l t)) i s) i 7), Vi ((itN (send3 hold gr.toNat n (lostF l t)) i s) i 8), Vi ((itN (send3 hold gr.toNat n (lostF l t)) i s) i 9), Vi ((itN (send3 hold gr.toNat n (lostF l t)) i s) i 10), Vi ((itN (send3 hold gr.toNat n (lostF l t)) i s) i 11), Vi ((itN (send3 hold gr.toNat n (lostF l t)) i s) i 12), Vi ((itN (send3 hold gr.toNat n (lostF l t)) i s) i 13), Vi ((itN (send3 hold gr.toNat n (lostF l t)) i s) i 14), Vi ((itN (send3 hold gr.toNat n (lostF l t)) i s) i 15), .bool (bz ((itN (send3 hold gr.toNat n (lostF l t)) i s) i 16))] 104)).heap.size := by simp
  have hC2 : RCells (w23.alloc (.cells #[Vi ((itN (send3 hold gr.toNat n (lostF l t)) i s) i 0), Vi ((itN (send3 hold gr.toNat n (lostF l t)) i s) i 1), Vi ((itN (send3 hold gr.toNat n (lostF l t)) i s) i 2), Vi ((itN (send3 hold gr.toNat n (lostF l t)) i s) i 3), Vi ((itN (send3 hold gr.toNat n (lostF l t)) i s) i 4), Vi ((itN (send3 hold gr.toNat n (lostF l t)) i s) i 5), Vi ((itN (send3 hold gr.toNat n (lostF l t)) i s) i 6), Vi ((itN (send3 hold gr.toNat n (lostF l t)) i s) i 7), Vi ((itN (send3 hold gr.toNat n (lostF l t)) i s) i 8), Vi ((itN (send3 hold gr.toNat n (lostF l t)) i s) i 9), Vi ((itN (send3 hold gr.toNat n (lostF l t)) i s) i 10), Vi ((itN (send3 hold gr.toNat n (lostF l t)) i s) i 11), Vi ((itN (send3 hold gr.toNat n (lostF l t)) i s) i 12), Vi ((itN (send3 hold gr.toNat n (lostF l t)) i s) i 13), Vi ((itN (send3 hold gr.toNat n (lostF l t)) i s) i 14), Vi ((itN (send3 hold gr.toNat n (lostF l t)) i s) i 15), .bool (bz ((itN (send3 hold gr.toNat n (lostF l t)) i s) i 16))] 104)) [(Ad bp 0, Vi gr), (Ad bp 1, Vi hold), (Ad bp 2, .slice na n nc), (Ad bp 3, .slice la m lc), (Ad bp 4, .slice (some ⟨bn, 0, none⟩) n cap), (⟨bn, i * 17, none⟩, Vi ((itN (send3 hold gr.toNat n (lostF l t)) i s) i 0)), (⟨bn, i * 17 + 1, none⟩, Vi ((itN (send3 hold gr.toNat n (lostF l t)) i s) i 1)), (⟨bn, i * 17 + 2, none⟩, Vi ((itN (send3 hold gr.toNat n (lostF l t)) i s) i 2)), (⟨bn, i * 17 + 3, none⟩, Vi ((itN (send3 hold gr.toNat n (lostF l t)) i s) i 3)), (⟨bn, i * 17 + 4, none⟩, Vi ((itN (send3 hold gr.toNat n (lostF l t)) i s) i 4)), (⟨bn, i * 17 + 5, none⟩, Vi ((itN (send3 hold gr.toNat n (lostF l t)) i s) i 5)), (⟨bn, i * 17 + 6, none⟩, Vi ((itN (send3 hold gr.toNat n (lostF l t)) i s) i 6)), (⟨bn, i * 17 + 7, none⟩, Vi ((itN (send3 hold gr.toNat n (lostF l t)) i s) i 7)), (⟨bn, i * 17 + 8, none⟩, Vi ((itN (send3 hold gr.toNat n (lostF l t)) i s) i 8)), (⟨bn, i * 17 + 9, none⟩, Vi ((itN (send3 hold gr.toNat n (lostF l t)) i s) i 9)), (⟨bn, i * 17 + 10, none⟩, Vi ((itN (send3 hold gr.toNat n (lostF l t)) i s) i 10)), (⟨bn, i * 17 + 11, none⟩, Vi ((itN (send3 hold gr.toNat n (lostF l t)) i s) i 11)), (⟨bn, i * 17 + 12, none⟩, Vi ((itN (send3 hold gr.toNat n (lostF l t)) i s) i 12)), (⟨bn, i * 17 + 13, none⟩, Vi ((itN (send3 hold gr.toNat n (lostF l t)) i s) i 13)), (⟨bn, i * 17 + 14, none⟩, Vi ((itN (send3 hold gr.toNat n (lostF l t)) i s) i 14)), (⟨bn, i * 17 + 15, none⟩, Vi ((itN (send3 hold gr.toNat n (lostF l t)) i s) i 15)), (⟨bn, i * 17 + 16, none⟩, .bool (bz ((itN (send3 hold gr.toNat n (lostF l t)) i s) i 16))), (Ad w23.heap.size 0, Vi ((itN (send3 hold gr.toNat n (lostF l t)) i s) i 0)), (Ad w23.heap.size 1, Vi ((itN (send3 hold gr.toNat n (lostF l t)) i s) i 1)), (Ad w23.heap.size 2, Vi ((itN (send3 hold gr.toNat n (lostF l t)) i s) i 2)), (Ad w23.heap.size 3, Vi ((itN (send3 hold gr.toNat n (lostF l t)) i s) i 3)), (Ad w23.heap.size 4, Vi ((itN (send3 hold gr.toNat n (lostF l t)) i s) i 4)), (Ad w23.heap.size 5, Vi ((itN (send3 hold gr.toNat n (lostF l t)) i s) i 5)), (Ad w23.heap.size 6, Vi ((itN (send3 hold gr.toNat n (lostF l t)) i s) i 6)), (Ad w23.heap.size 7, Vi ((itN (send3 hold gr.toNat n (lostF l t)) i s) i 7)), (Ad w23.heap.size 8, Vi ((itN (send3 hold gr.toNat n (lostF l t)) i s) i 8)), (Ad w23.heap.size 9, Vi ((itN (send3 hold gr.toNat n (lostF l t)) i s) i 9)), (Ad w23.heap.size 10, Vi ((itN (send3 hold gr.toNat n (lostF l t)) i s) i 10)), (Ad w23.heap.size 11, Vi ((itN (send3 hold gr.toNat n (lostF l t)) i s) i 11)), (Ad w23.heap.size 12, Vi ((itN (send3 hold gr.toNat n (lostF l t)) i s) i 12)), (Ad w23.heap.size 13, Vi ((itN (send3 hold gr.toNat n (lostF l t)) i s) i 13)), (Ad w23.heap.size 14, Vi ((itN (send3 hold gr.toNat n (lostF l t)) i s) i 14)), (Ad w23.heap.size 15, Vi ((itN (send3 hold gr.toNat n (lostF l t)) i s) i 15)), (Ad w23.heap.size 16, .bool (bz ((itN (send3 hold gr.toNat n (lostF l t)) i s) i 16)))] := hC.box (b := w23.heap.size) #[Vi ((itN (send3 hold gr.toNat n (lostF l t)) i s) i 0), Vi ((itN (send3 hold gr.toNat n (lostF l t)) i s) i 1), Vi ((itN (send3 hold gr.toNat n (lostF l t)) i s) i 2), Vi ((itN (send3 hold gr.toNat n (lostF l t)) i s) i 3), Vi ((itN (send3 hold gr.toNat n (lostF l t)) i s) i 4), Vi ((itN (send3 hold gr.toNat n (lostF l t)) i s) i 5), Vi ((itN (send3 hold gr.toNat n (lostF l t)) i s) i 6), Vi ((itN (send3 hold gr.toNat n (lostF l t)) i s) i 7), Vi ((itN (send3 hold gr.toNat n (lostF l t)) i s) i 8), Vi ((itN (send3 hold gr.toNat n (lostF l t)) i s) i 9), Vi ((itN (send3 hold gr.toNat n (lostF l t)) i s) i 10), Vi ((itN (send3 hold gr.toNat n (lostF l t)) i s) i 11), Vi ((itN (send3 hold gr.toNat n (lostF l t)) i s) i 12), Vi ((itN (send3 hold gr.toNat n (lostF l t)) i s) i 13), Vi ((itN (send3 hold gr.toNat n (lostF l t)) i s) i 14), Vi ((itN (send3 hold gr.toNat n (lostF l t)) i s) i 15), .bool (bz ((itN (send3 hold gr.toNat n (lostF l t)) i s) i 16))] 104 rfl
  generalize w23.alloc (.cells #[Vi ((itN (send3 hold gr.toNat n (lostF l t)) i s) i 0), Vi ((itN (send3 hold gr.toNat n (lostF l t)) i s) i 1), Vi ((itN (send3 hold gr.toNat n (lostF l t)) i s) i 2), Vi ((itN (send3 hold gr.toNat n (lostF l t)) i s) i 3), Vi ((itN (send3 hold gr.toNat n (lostF l t)) i s) i 4), Vi ((itN (send3 hold gr.toNat n (lostF l t)) i s) i 5), Vi ((itN (send3 hold gr.toNat n (lostF l t)) i s) i 6), Vi ((itN (send3 hold gr.toNat n (lostF l t)) i s) i 7), Vi ((itN (send3 hold gr.toNat n (lostF l t)) i s) i 8), Vi ((itN (send3 hold gr.toNat n (lostF l t)) i s) i 9), Vi ((itN (send3 hold gr.toNat n (lostF l t)) i s) i 10), Vi ((itN (send3 hold gr.toNat n (lostF l t)) i s) i 11), Vi ((itN (send3 hold gr.toNat n (lostF l t)) i s) i 12), Vi ((itN (send3 hold gr.toNat n (lostF l t)) i s) i 13), Vi ((itN (send3 hold gr.toNat n (lostF l t)) i s) i 14), Vi ((itN (send3 hold gr.toNat n (lostF l t)) i s) i 15), .bool (bz ((itN (send3 hold gr.toNat n (lostF l t)) i s) i 16))] 104) = w28 at *
  replace G := G.trans g
  replace hC := hC2
  clear hC2
  replace hE := hE.thenGr g
  replace hI1 := hI1.thenGr g
  replace hP := hP.gr g
  replace hL := hL.gr g
  replace hmk := hmk.gr g
  replace hS := hS.gr g
  clear g hb hbl
  refine Y.nil ?_
  replace F : Fr ac 87 [(0, Vp bp), (1, Vi t), (4, Vp w.heap.size), (6, Vi i), (7, Vp w23.heap.size), (14, .func (.func 96) #[] #[Vp bx, Vp bt, Vp bk]), (25, .slice (some ⟨bn, 0, none⟩) n cap), (26, Vi n), (27, Vi i), (28, .bool true)] [{ target := .collected w12.heap.size, args := #[] }] := F.sub _
  refine X.thenN ?_
  refine Y.seq ?_
  refine Y.lit (by kernel_rfl) ?_
  refine Y.pv F (X.move rfl (F.e 0 rfl)) ?_;clear F ac;intro ac F
  refine Y.pv F (Y.nilC rfl (F.e 32 rfl)) ?_;clear F ac;intro ac F
  refine Y.pv F (X.field rfl (F.e 33 rfl) (X.fld Try.underlying101 rfl (Try.siz99 _) rfl rfl)) ?_;clear F ac;intro ac F
  refine Y.pv F (X.load rfl (F.e 34 rfl) (X.ld1 (Try.agg99 _) (hC.at 4 rfl))) ?_;clear F ac;intro ac F
  refine Y.pv F (X.len1 Try.underlying99 rfl (F.e 35 rfl)) ?_;clear F ac;intro ac F
  refine Y.pv F (X.move rfl (X.kc (Vi 0) rfl)) ?_;clear F ac;intro ac F
  refine Y.nil ?_
  replace F : Fr ac 87 [(0, Vp bp), (1, Vi t), (4, Vp w.heap.size), (6, Vi i), (7, Vp w23.heap.size), (14, .func (.func 96) #[] #[Vp bx, Vp bt, Vp bk]), (25, .slice (some ⟨bn, 0, none⟩) n cap), (26, Vi n), (27, Vi i), (28, .bool true), (36, Vi n), (37, Vi 0)] [{ target := .collected w12.heap.size, args := #[] }] := F.sub _
  refine X.thenN ?_
  refine Y.block ?_
  have hE_2 := hE
  have hI1_2 := hI1
  have hL_2 := hL
  have hmk_2 := hmk
  have hP_2 := hP
  have hC_2 := hC
  refine Y.loop (fun me_ ac wr => ∃ (j : Nat), me_ = n - j ∧ j ≤ n ∧ Only (fun b => b = bn) w28 wr ∧ OwnP wr bn (n * 17) (NV (itN (send2 hold gr.toNat (lostF l t) i) j (itN (send3 hold gr.toNat n (lostF l t)) i s))) ∧ Fr ac 87 [(0, Vp bp), (1, Vi t), (4, Vp w.heap.size), (6, Vi i), (7, Vp w23.heap.size), (14, .func (.func 96) #[] #[Vp bx, Vp bt, Vp bk]), (25, .slice (some ⟨bn, 0, none⟩) n cap), (26, Vi n), (27, Vi i), (28, .bool true), (36, Vi n), (37, Vi j)] [{ target := .collected w12.heap.size, args := #[] }]) _ ⟨0, rfl, Nat.zero_le _, Only.refl _ _, hS, F.sub _⟩ ?_
  clear F hP hC hS ac hE hI1 hL hmk
  intro me_ ac w29 hI
  obtain ⟨j, rfl, hj, hI2, hS, F⟩ := hI
  have hP := hP_2.on hI2
  have hE := hE_2.trans hI2
  have hI1 := hI1_2.trans hI2
  have hL := hL_2.only hI2 (by show ¬ _ = _; omega)
  have hmk := hmk_2.only hI2 (by show ¬ _ = _; omega)
  have hC := (hC_2.kc hI2 0 rfl (hC_2.kc hI2 1 rfl (hC_2.kc hI2 2 rfl (hC_2.kc hI2 3 rfl (hC_2.kc hI2 4 rfl (hC_2.kc hI2 22 rfl (hC_2.kc hI2 23 rfl (hC_2.kc hI2 24 rfl (hC_2.kc hI2 25 rfl (hC_2.kc hI2 26 rfl (hC_2.kc hI2 27 rfl (hC_2.kc hI2 28 rfl (hC_2.kc hI2 29 rfl (hC_2.kc hI2 30 rfl (hC_2.kc hI2 31 rfl (hC_2.kc hI2 32 rfl (hC_2.kc hI2 33 rfl (hC_2.kc hI2 34 rfl (hC_2.kc hI2 35 rfl (hC_2.kc hI2 36 rfl (hC_2.kc hI2 37 rfl (hC_2.kc hI2 38 rfl (RCells.nil _)))))))))))))))))))))))
  replace G := Gr.refl w29
  refine Y.seq ?_
  refine Y.lit (by kernel_rfl) ?_
  refine Y.pv F (X.binop rfl (F.e 37 rfl) (F.e 36 rfl) (X.lssI Try.underlying3 rfl)) ?_;clear F ac;intro ac F
  refine Y.nil ?_
  replace F : Fr ac 87 [(0, Vp bp), (1, Vi t), (4, Vp w.heap.size), (6, Vi i), (7, Vp w23.heap.size), (14, .func (.func 96) #[] #[Vp bx, Vp bt, Vp bk]), (25, .slice (some ⟨bn, 0, none⟩) n cap), (26, Vi n), (27, Vi i), (28, .bool true), (36, Vi n), (37, Vi j), (38, .bool (decide ((j : Int) < n)))] [{ target := .collected w12.heap.size, args := #[] }] := F.sub _
  refine X.thenN ?_
  refine Y.seq ?_
  cases h30 : decide ((j : Int) < n) with
  | false =>
   try rw [h30] at F
   have h30p : ¬ ((j : Int) < n) := of_decide_eq_false h30
   obtain rfl : n = j := by omega
   refine Y.condF (F.e 38 rfl) ?_
   refine Y.exit ?_
   refine X.thenX ?_
   refine X.thenX ?_
   refine X.blockX ?_
   refine X.blockN ?_
   refine X.thenN ?_
   refine Y.lit (by kernel_rfl) ?_
   refine Y.pv F (X.binop rfl (F.e 27 rfl) (X.kc (Vi 1) rfl) (X.addI Try.underlying3 rfl (by omega) (by omega))) ?_;clear F ac;intro ac F
   refine Y.pv F (X.move rfl (F.e 86 rfl)) ?_;clear F ac;intro ac F
   refine Y.nil ?_
   replace F : Fr ac 87 [(0, Vp bp), (1, Vi t), (4, Vp w.heap.size), (6, Vi i), (7, Vp w23.heap.size), (14, .func (.func 96) #[] #[Vp bx, Vp bt, Vp bk]), (25, .slice (some ⟨bn, 0, none⟩) n cap), (26, Vi n), (27, Vi ((i : Int) + 1)), (28, .bool true), (36, Vi n), (37, Vi n), (38, .bool false)] [{ target := .collected w12.heap.size, args := #[] }] := F.sub _
   refine X.thenN ?_
   refine ⟨_, ?_, i + 1, rfl, by omega, hI1, hS, F.sub _⟩
   omega
  | true =>
   try rw [h30] at F
   have h30p : ((j : Int) < n) := of_decide_eq_true h30
   have hj2 : j < n := by omega
   refine Y.condT (F.e 38 rfl) ?_
   refine Y.skip ?_
   refine X.thenN ?_
   refine Y.seq ?_
   refine Y.block ?_
   refine Y.seq ?_
   refine Y.lit (by kernel_rfl) ?_
   refine Y.pv F (X.move rfl (F.e 37 rfl)) ?_;clear F ac;intro ac F
   refine Y.pv F (X.assign rfl (F.e 39 rfl)) ?_;clear F ac;intro ac F
   refine Y.nil ?_
   replace F : Fr ac 87 [(0, Vp bp), (1, Vi t), (4, Vp w.heap.size), (6, Vi i), (7, Vp w23.heap.size), (8, Vi j), (14, .func (.func 96) #[] #[Vp bx, Vp bt, Vp bk]), (25, .slice (some ⟨bn, 0, none⟩) n cap), (26, Vi n), (27, Vi i), (28, .bool true), (36, Vi n), (37, Vi j), (38, .bool true)] [{ target := .collected w12.heap.size, args := #[] }] := F.sub _
   refine X.thenN ?_
   refine Y.seq ?_
   refine Y.lit (by kernel_rfl) ?_
   refine Y.pv F (X.move rfl (F.e 0 rfl)) ?_;clear F ac;intro ac F
   refine Y.pv F (Y.nilC rfl (F.e 40 rfl)) ?_;clear F ac;intro ac F
   refine Y.pv F (X.field rfl (F.e 41 rfl) (X.fld Try.underlying101 rfl (Try.siz99 _) rfl rfl)) ?_;clear F ac;intro ac F
   refine Y.pv F (X.load rfl (F.e 42 rfl) (X.ld1 (Try.agg99 _) (hC.at 4 rfl))) ?_;clear F ac;intro ac F
   refine Y.pv F (X.move rfl (F.e 8 rfl)) ?_;clear F ac;intro ac F
   refine Y.pv F (X.index rfl (F.e 43 rfl) (F.e 44 rfl) (X.idx (k := j) Try.underlying99 (Try.siz104 _) (by omega) (by omega) (addr_add0 _ _))) ?_;clear F ac;intro ac F
   refine Y.pv F (X.assign rfl (F.e 45 rfl)) ?_;clear F ac;intro ac F
   refine Y.nil ?_
   replace F : Fr ac 87 [(0, Vp bp), (1, Vi t), (4, Vp w.heap.size), (6, Vi i), (7, Vp w23.heap.size), (8, Vi j), (9, .pointer (some ⟨bn, j * 17, none⟩)), (14, .func (.func 96) #[] #[Vp bx, Vp bt, Vp bk]), (25, .slice (some ⟨bn, 0, none⟩) n cap), (26, Vi n), (27, Vi i), (28, .bool true), (36, Vi n), (37, Vi j), (38, .bool true)] [{ target := .collected w12.heap.size, args := #[] }] := F.sub _
   refine X.thenN ?_
   refine Y.seq ?_
   refine Y.lit (by kernel_rfl) ?_
   refine Y.pv F (X.move rfl (F.e 0 rfl)) ?_;clear F ac;intro ac F
   refine Y.pv F (Y.nilC rfl (F.e 46 rfl)) ?_;clear F ac;intro ac F
   refine Y.pv F (X.field rfl (F.e 47 rfl) (X.fld Try.underlying101 rfl (Try.siz24 _) rfl rfl)) ?_;clear F ac;intro ac F
   refine Y.pv F (X.field rfl (F.e 48 rfl) (X.fld Try.underlying24 rfl (Try.siz3 _) rfl rfl)) ?_;clear F ac;intro ac F
   refine Y.pv F (X.load rfl (F.e 49 rfl) (X.ld1 (Try.agg3 _) (hC.at 0 rfl))) ?_;clear F ac;intro ac F
   refine Y.pv F (X.move rfl (X.kc (Vi 0) rfl)) ?_;clear F ac;intro ac F
   refine Y.nil ?_
   replace F : Fr ac 87 [(0, Vp bp), (1, Vi t), (4, Vp w.heap.size), (6, Vi i), (7, Vp w23.heap.size), (8, Vi j), (9, .pointer (some ⟨bn, j * 17, none⟩)), (14, .func (.func 96) #[] #[Vp bx, Vp bt, Vp bk]), (25, .slice (some ⟨bn, 0, none⟩) n cap), (26, Vi n), (27, Vi i), (28, .bool true), (36, Vi n), (37, Vi j), (38, .bool true), (50, Vi gr), (51, Vi 0)] [{ target := .collected w12.heap.size, args := #[] }] := F.sub _
   refine X.thenN ?_
   refine Y.block ?_
   have hE_3 := hE
   have hI1_3 := hI1
   have hI2_3 := hI2
   have hL_3 := hL
   have hmk_3 := hmk
   have hP_3 := hP
   have hC_3 := hC
   refine Y.loop (fun me_ ac wr => ∃ (q : Nat), me_ = gr.toNat - q ∧ (q : Int) ≤ gr ∧ Only (fun b => b = bn) w29 wr ∧ OwnP wr bn (n * 17) (NV (itN (send1 hold (lostF l t) i j) q (itN (send2 hold gr.toNat (lostF l t) i) j (itN (send3 hold gr.toNat n (lostF l t)) i s)))) ∧ Fr ac 87 [(0, Vp bp), (1, Vi t), (4, Vp w.heap.size), (6, Vi i), (7, Vp w23.heap.size), (8, Vi j), (9, .pointer (some ⟨bn, j * 17, none⟩)), (14, .func (.func 96) #[] #[Vp bx, Vp bt, Vp bk]), (25, .slice (some ⟨bn, 0, none⟩) n cap), (26, Vi n), (27, Vi i), (28, .bool true), (36, Vi n), (37, Vi j), (38, .bool true), (50, Vi gr), (51, Vi q)] [{ target := .collected w12.heap.size, args := #[] }]) _ ⟨0, rfl, by omega, Only.refl _ _, hS, F.sub _⟩ ?_
   clear F hP hC hS ac hE hI1 hI2 hL hmk
   intro me_ ac w31 hI
   obtain ⟨q, rfl, hg, hI3, hS, F⟩ := hI
   have hP := hP_3.on hI3
   have hE := hE_3.trans hI3
   have hI1 := hI1_3.trans hI3
   have hI2 := hI2_3.trans hI3
   have hL := hL_3.only hI3 (by show ¬ _ = _; omega)
   have hmk := hmk_3.only hI3 (by show ¬ _ = _; omega)
   have hC := (hC_3.kc hI3 0 rfl (hC_3.kc hI3 1 rfl (hC_3.kc hI3 2 rfl (hC_3.kc hI3 3 rfl (hC_3.kc hI3 4 rfl (hC_3.kc hI3 5 rfl (hC_3.kc hI3 6 rfl (hC_3.kc hI3 7 rfl (hC_3.kc hI3 8 rfl (hC_3.kc hI3 9 rfl (hC_3.kc hI3 10 rfl (hC_3.kc hI3 11 rfl (hC_3.kc hI3 12 rfl (hC_3.kc hI3 13 rfl (hC_3.kc hI3 14 rfl (hC_3.kc hI3 15 rfl (hC_3.kc hI3 16 rfl (hC_3.kc hI3 17 rfl (hC_3.kc hI3 18 rfl (hC_3.kc hI3 19 rfl (hC_3.kc hI3 20 rfl (hC_3.kc hI3 21 rfl (RCells.nil _)))))))))))))))))))))))
   replace G := Gr.refl w31
   refine Y.seq ?_
   refine Y.lit (by kernel_rfl) ?_
   refine Y.pv F (X.binop rfl (F.e 51 rfl) (F.e 50 rfl) (X.lssI Try.underlying3 rfl)) ?_;clear F ac;intro ac F
   refine Y.nil ?_
   replace F : Fr ac 87 [(0, Vp bp), (1, Vi t), (4, Vp w.heap.size), (6, Vi i), (7, Vp w23.heap.size), (8, Vi j), (9, .pointer (some ⟨bn, j * 17, none⟩)), (14, .func (.func 96) #[] #[Vp bx, Vp bt, Vp bk]), (25, .slice (some ⟨bn, 0, none⟩) n cap), (26, Vi n), (27, Vi i), (28, .bool true), (36, Vi n), (37, Vi j), (38, .bool true), (50, Vi gr), (51, Vi q), (52, .bool (decide ((q : Int) < gr)))] [{ target := .collected w12.heap.size, args := #[] }] := F.sub _
   refine X.thenN ?_
   refine Y.seq ?_
   cases h32 : decide ((q : Int) < gr) with
   | false =>
    try rw [h32] at F
    have h32p : ¬ ((q : Int) < gr) := of_decide_eq_false h32
    obtain rfl : gr.toNat = q := by omega
    refine Y.condF (F.e 52 rfl) ?_
    refine Y.exit ?_
    refine X.thenX ?_
    refine X.thenX ?_
    refine X.blockX ?_
    refine X.blockN ?_
    refine X.thenN ?_
    refine Y.lit (by kernel_rfl) ?_
    refine Y.pv F (X.binop rfl (F.e 37 rfl) (X.kc (Vi 1) rfl) (X.addI Try.underlying3 rfl (by omega) (by omega))) ?_;clear F ac;intro ac F
    refine Y.pv F (X.move rfl (F.e 85 rfl)) ?_;clear F ac;intro ac F
    refine Y.nil ?_
    replace F : Fr ac 87 [(0, Vp bp), (1, Vi t), (4, Vp w.heap.size), (6, Vi i), (7, Vp w23.heap.size), (8, Vi j), (9, .pointer (some ⟨bn, j * 17, none⟩)), (14, .func (.func 96) #[] #[Vp bx, Vp bt, Vp bk]), (25, .slice (some ⟨bn, 0, none⟩) n cap), (26, Vi n), (27, Vi i), (28, .bool true), (36, Vi n), (37, Vi ((j : Int) + 1)), (38, .bool true), (50, Vi gr), (51, Vi gr.toNat), (52, .bool false)] [{ target := .collected w12.heap.size, args := #[] }] := F.sub _
    refine X.thenN ?_
    refine ⟨_, ?_, j + 1, rfl, by omega, hI2, hS, F.sub _⟩
    omega
   | true =>
    try rw [h32] at F
    have h32p : ((q : Int) < gr) := of_decide_eq_true h32
    refine Y.condT (F.e 52 rfl) ?_
    refine Y.skip ?_
    refine X.thenN ?_
    refine Y.seq ?_
    refine Y.block ?_
    refine Y.seq ?_
    refine Y.lit (by kernel_rfl) ?_
    refine Y.pv F (X.move rfl (F.e 51 rfl)) ?_;clear F ac;intro ac F
    refine Y.pv F (X.assign rfl (F.e 53 rfl)) ?_;clear F ac;intro ac F
    refine Y.nil ?_
    replace F : Fr ac 87 [(0, Vp bp), (1, Vi t), (4, Vp w.heap.size), (6, Vi i), (7, Vp w23.heap.size), (8, Vi j), (9, .pointer (some ⟨bn, j * 17, none⟩)), (10, Vi q), (14, .func (.func 96) #[] #[Vp bx, Vp bt, Vp bk]), (25, .slice (some ⟨bn, 0, none⟩) n cap), (26, Vi n), (27, Vi i), (28, .bool true), (36, Vi n), (37, Vi j), (38, .bool true), (50, Vi gr), (51, Vi q), (52, .bool true)] [{ target := .collected w12.heap.size, args := #[] }] := F.sub _
    refine X.thenN ?_
    refine Y.seq ?_
    replace hC : RCells w31 [(Ad bp 0, Vi gr), (Ad bp 1, Vi hold), (Ad bp 2, .slice na n nc), (Ad bp 3, .slice la m lc), (Ad bp 4, .slice (some ⟨bn, 0, none⟩) n cap), (Ad w23.heap.size 0, Vi ((itN (send3 hold gr.toNat n (lostF l t)) i s) i 0)), (Ad w23.heap.size 1, Vi ((itN (send3 hold gr.toNat n (lostF l t)) i s) i 1)), (Ad w23.heap.size 2, Vi ((itN (send3 hold gr.toNat n (lostF l t)) i s) i 2)), (Ad w23.heap.size 3, Vi ((itN (send3 hold gr.toNat n (lostF l t)) i s) i 3)), (Ad w23.heap.size 4, Vi ((itN (send3 hold gr.toNat n (lostF l t)) i s) i 4)), (Ad w23.heap.size 5, Vi ((itN (send3 hold gr.toNat n (lostF l t)) i s) i 5)), (Ad w23.heap.size 6, Vi ((itN (send3 hold gr.toNat n (lostF l t)) i s) i 6)), (Ad w23.heap.size 7, Vi ((itN (send3 hold gr.toNat n (lostF l t)) i s) i 7)), (Ad w23.heap.size 8, Vi ((itN (send3 hold gr.toNat n (lostF l t)) i s) i 8)), (Ad w23.heap.size 9, Vi ((itN (send3 hold gr.toNat n (lostF l t)) i s) i 9)), (Ad w23.heap.size 10, Vi ((itN (send3 hold gr.toNat n (lostF l t)) i s) i 10)), (Ad w23.heap.size 11, Vi ((itN (send3 hold gr.toNat n (lostF l t)) i s) i 11)), (Ad w23.heap.size 12, Vi ((itN (send3 hold gr.toNat n (lostF l t)) i s) i 12)), (Ad w23.heap.size 13, Vi ((itN (send3 hold gr.toNat n (lostF l t)) i s) i 13)), (Ad w23.heap.size 14, Vi ((itN (send3 hold gr.toNat n (lostF l t)) i s) i 14)), (Ad w23.heap.size 15, Vi ((itN (send3 hold gr.toNat n (lostF l t)) i s) i 15)), (Ad w23.heap.size 16, .bool (bz ((itN (send3 hold gr.toNat n (lostF l t)) i s) i 16))), (⟨w.heap.size, i * 16 + j, none⟩, .bool ((lostF l t) i j))] := hC.append ((RCells.cons ((hL.cell (k := i * 16 + j) (by omega)).trans (congrArg some (LV_at (lostF l t) i j (by omega)))) (RCells.nil _)))
    cases h33 : (lostF l t) i j with
    | false =>
     try rw [h33] at F
     replace hC : RCells w31 [(Ad bp 0, Vi gr), (Ad bp 1, Vi hold), (Ad bp 2, .slice na n nc), (Ad bp 3, .slice la m lc), (Ad bp 4, .slice (some ⟨bn, 0, none⟩) n cap), (Ad w23.heap.size 0, Vi ((itN (send3 hold gr.toNat n (lostF l t)) i s) i 0)), (Ad w23.heap.size 1, Vi ((itN (send3 hold gr.toNat n (lostF l t)) i s) i 1)), (Ad w23.heap.size 2, Vi ((itN (send3 hold gr.toNat n (lostF l t)) i s) i 2)), (Ad w23.heap.size 3, Vi ((itN (send3 hold gr.toNat n (lostF l t)) i s) i 3)), (Ad w23.heap.size 4, Vi ((itN (send3 hold gr.toNat n (lostF l t)) i s) i 4)), (Ad w23.heap.size 5, Vi ((itN (send3 hold gr.toNat n (lostF l t)) i s) i 5)), (Ad w23.heap.size 6, Vi ((itN (send3 hold gr.toNat n (lostF l t)) i s) i 6)), (Ad w23.heap.size 7, Vi ((itN (send3 hold gr.toNat n (lostF l t)) i s) i 7)), (Ad w23.heap.size 8, Vi ((itN (send3 hold gr.toNat n (lostF l t)) i s) i 8)), (Ad w23.heap.size 9, Vi ((itN (send3 hold gr.toNat n (lostF l t)) i s) i 9)), (Ad w23.heap.size 10, Vi ((itN (send3 hold gr.toNat n (lostF l t)) i s) i 10)), (Ad w23.heap.size 11, Vi ((itN (send3 hold gr.toNat n (lostF l t)) i s) i 11)), (Ad w23.heap.size 12, Vi ((itN (send3 hold gr.toNat n (lostF l t)) i s) i 12)), (Ad w23.heap.size 13, Vi ((itN (send3 hold gr.toNat n (lostF l t)) i s) i 13)), (Ad w23.heap.size 14, Vi ((itN (send3 hold gr.toNat n (lostF l t)) i s) i 14)), (Ad w23.heap.size 15, Vi ((itN (send3 hold gr.toNat n (lostF l t)) i s) i 15)), (Ad w23.heap.size 16, .bool (bz ((itN (send3 hold gr.toNat n (lostF l t)) i s) i 16))), (⟨w.heap.size, i * 16 + j, none⟩, .bool ((lostF l t) i j)), (⟨bn, j * 17, none⟩, Vi ((itN (send1 hold (lostF l t) i j) q (itN (send2 hold gr.toNat (lostF l t) i) j (itN (send3 hold gr.toNat n (lostF l t)) i s))) j 0))] := hC.append ((RCells.cons ((hS.cell (k := j * 17 + 0) (by omega)).trans (congrArg some (NV_int (itN (send1 hold (lostF l t) i j) q (itN (send2 hold gr.toNat (lostF l t) i) j (itN (send3 hold gr.toNat n (lostF l t)) i s))) j 0 (by decide)))) (RCells.nil _)))
     refine Y.region F [some (Vi i), some (Vi j), some (.pointer (some ⟨w.heap.size, i * 16, none⟩)), some (.pointer (some ⟨w.heap.size, i * 16 + j, none⟩)), some (.bool ((lostF l t) i j)), some (.bool true), some (.bool true), some (.pointer (some ⟨w23.heap.size, 5, none⟩)), some (Vi ((itN (send3 hold gr.toNat n (lostF l t)) i s) i 5)), some (.pointer (some ⟨bn, j * 17, none⟩)), some (.pointer (some ⟨bn, j * 17, none⟩)), some (.pointer (some ⟨bn, j * 17, none⟩)), some (.pointer (some ⟨bn, j * 17, none⟩)), some (Vi ((itN (send1 hold (lostF l t) i j) q (itN (send2 hold gr.toNat (lostF l t) i) j (itN (send3 hold gr.toNat n (lostF l t)) i s))) j 0)), some (Vi (andV ((itN (send3 hold gr.toNat n (lostF l t)) i s) i 5 : Int) ((itN (send1 hold (lostF l t) i j) q (itN (send2 hold gr.toNat (lostF l t) i) j (itN (send3 hold gr.toNat n (lostF l t)) i s))) j 0 : Int))), some (Vi q), some (Vi (shrV (andV ((itN (send3 hold gr.toNat n (lostF l t)) i s) i 5 : Int) ((itN (send1 hold (lostF l t) i j) q (itN (send2 hold gr.toNat (lostF l t) i) j (itN (send3 hold gr.toNat n (lostF l t)) i s))) j 0 : Int) : Int) (q : Int))), some (Vi (andV (shrV (andV ((itN (send3 hold gr.toNat n (lostF l t)) i s) i 5 : Int) ((itN (send1 hold (lostF l t) i j) q (itN (send2 hold gr.toNat (lostF l t) i) j (itN (send3 hold gr.toNat n (lostF l t)) i s))) j 0 : Int) : Int) (q : Int) : Int) 1)), some (.bool ((andV (shrV (andV ((itN (send3 hold gr.toNat n (lostF l t)) i s) i 5 : Int) ((itN (send1 hold (lostF l t) i j) q (itN (send2 hold gr.toNat (lostF l t) i) j (itN (send3 hold gr.toNat n (lostF l t)) i s))) j 0 : Int) : Int) (q : Int) : Int) 1 : Int) == 1)), some (.bool ((andV (shrV (andV ((itN (send3 hold gr.toNat n (lostF l t)) i s) i 5 : Int) ((itN (send1 hold (lostF l t) i j) q (itN (send2 hold gr.toNat (lostF l t) i) j (itN (send3 hold gr.toNat n (lostF l t)) i s))) j 0 : Int) : Int) (q : Int) : Int) 1 : Int) == 1))] [] rfl ⟨by kernel_rfl, of_decide_eq_true (by kernel_rfl), by kernel_rfl, by kernel_rfl, by kernel_rfl⟩ ⟨?_, ?_, ?_, ?_, ?_, ?_, ?_, ?_, ?_, ?_, ?_, ?_, ?_, ?_, ?_, ?_, ?_, ?_, ?_, ?_, trivial⟩ ?_
     ·intro ac done u W Sx hR
      exact X.vl (X.move rfl (Sx.ev 6 (Vi i))) hR.st0
     ·intro ac done u W Sx hR
      exact X.vl (X.move rfl (Sx.ev 8 (Vi j))) hR.st0
     ·intro ac done u W Sx hR
      exact X.vl (X.index rfl (Sx.ev 4 (Vp w.heap.size)) (Sx.ev 54 (Vi i)) (Y.idxA (k := i) Try.underlying136 (Try.siz135 _) (by decide) (by omega) (by omega) (addr_add0 _ _))) hR.st0
     ·intro ac done u W Sx hR
      exact X.val (X.w0 rfl) rfl (X.index rfl (Sx.ev 56 (.pointer (some ⟨w.heap.size, i * 16, none⟩))) (Sx.ev 55 (Vi j)) (Y.idxA (k := j) Try.underlying135 (Try.siz4 _) (by decide) (by omega) (by omega) (by rw [Nat.mul_one]; exact Y.addr_add _ _ _))) hR.st0
     ·intro ac done u W Sx hR
      have g : Gr w31 W := hR.1
      exact X.vl (X.load rfl (Sx.ev 57 (.pointer (some ⟨w.heap.size, i * 16 + j, none⟩))) (X.ld1 (Try.agg4 _) ((hC.gr g).at 22 rfl))) hR.st0
     ·intro ac done u W Sx hR
      exact X.val (X.w0 rfl) rfl (X.notB rfl (Sx.ev 58 (.bool ((lostF l t) i j))) (by simp [h33])) hR.st0
     ·intro ac done u W Sx hR
      exact X.vl (X.move rfl (Sx.ev 59 (.bool true))) hR.st0
     ·intro ac done u W Sx hR
      exact X.val (X.w1 rfl (Sx.yl 6 60 true (by kernel_rfl) rfl rfl)) rfl (X.field rfl (Sx.ev 7 (Vp w23.heap.size)) (X.fld Try.underlying104 rfl (Try.siz3 _) rfl rfl)) hR.st0
     ·intro ac done u W Sx hR
      have g : Gr w31 W := hR.1
      exact X.val (X.w1 rfl (Sx.yl 6 60 true (by kernel_rfl) rfl rfl)) rfl (X.load rfl (Sx.ev 61 (.pointer (some ⟨w23.heap.size, 5, none⟩))) (X.ld1 (Try.agg3 _) ((hC.gr g).at 10 rfl))) hR.st0
     ·intro ac done u W Sx hR
      exact X.val (X.w1 rfl (Sx.yl 6 60 true (by kernel_rfl) rfl rfl)) rfl (X.move rfl (Sx.ev 9 (.pointer (some ⟨bn, j * 17, none⟩)))) hR.st0
     ·intro ac done u W Sx hR
      exact X.val (X.w1 rfl (Sx.yl 6 60 true (by kernel_rfl) rfl rfl)) rfl (Y.nilC rfl (Sx.ev 63 (.pointer (some ⟨bn, j * 17, none⟩)))) hR.st0
     ·intro ac done u W Sx hR
      exact X.val (X.w1 rfl (Sx.yl 6 60 true (by kernel_rfl) rfl rfl)) rfl (X.field rfl (Sx.ev 64 (.pointer (some ⟨bn, j * 17, none⟩))) (X.fld Try.underlying104 rfl (Try.siz31 _) rfl rfl)) hR.st0
     ·intro ac done u W Sx hR
      exact X.val (X.w1 rfl (Sx.yl 6 60 true (by kernel_rfl) rfl rfl)) rfl (X.field rfl (Sx.ev 65 (.pointer (some ⟨bn, j * 17, none⟩))) (X.fld Try.underlying31 rfl (Try.siz3 _) rfl rfl)) hR.st0
     ·intro ac done u W Sx hR
      have g : Gr w31 W := hR.1
      exact X.val (X.w1 rfl (Sx.yl 6 60 true (by kernel_rfl) rfl rfl)) rfl (X.load rfl (Sx.ev 66 (.pointer (some ⟨bn, j * 17, none⟩))) (X.ld1 (Try.agg3 _) ((hC.gr g).at 23 rfl))) hR.st0
     ·intro ac done u W Sx hR
      exact X.val (X.w1 rfl (Sx.yl 6 60 true (by kernel_rfl) rfl rfl)) rfl (X.binop rfl (Sx.ev 62 (Vi ((itN (send3 hold gr.toNat n (lostF l t)) i s) i 5))) (Sx.ev 67 (Vi ((itN (send1 hold (lostF l t) i j) q (itN (send2 hold gr.toNat (lostF l t) i) j (itN (send3 hold gr.toNat n (lostF l t)) i s))) j 0))) (X.andI Try.underlying3 rfl)) hR.st0
     ·intro ac done u W Sx hR
      exact X.val (X.w1 rfl (Sx.yl 6 60 true (by kernel_rfl) rfl rfl)) rfl (X.move rfl (Sx.ev 10 (Vi q))) hR.st0
     ·intro ac done u W Sx hR
      exact X.val (X.w1 rfl (Sx.yl 6 60 true (by kernel_rfl) rfl rfl)) rfl (X.binop rfl (Sx.ev 68 (Vi (andV ((itN (send3 hold gr.toNat n (lostF l t)) i s) i 5 : Int) ((itN (send1 hold (lostF l t) i j) q (itN (send2 hold gr.toNat (lostF l t) i) j (itN (send3 hold gr.toNat n (lostF l t)) i s))) j 0 : Int)))) (Sx.ev 69 (Vi q)) (X.shrI Try.underlying3 rfl (by omega))) hR.st0
     ·intro ac done u W Sx hR
      exact X.val (X.w1 rfl (Sx.yl 6 60 true (by kernel_rfl) rfl rfl)) rfl (X.binop rfl (Sx.ev 70 (Vi (shrV (andV ((itN (send3 hold gr.toNat n (lostF l t)) i s) i 5 : Int) ((itN (send1 hold (lostF l t) i j) q (itN (send2 hold gr.toNat (lostF l t) i) j (itN (send3 hold gr.toNat n (lostF l t)) i s))) j 0 : Int) : Int) (q : Int)))) (X.kc (Vi 1) rfl) (X.andI Try.underlying3 rfl)) hR.st0
     ·intro ac done u W Sx hR
      exact X.val (X.w1 rfl (Sx.yl 6 60 true (by kernel_rfl) rfl rfl)) rfl (X.binop rfl (Sx.ev 71 (Vi (andV (shrV (andV ((itN (send3 hold gr.toNat n (lostF l t)) i s) i 5 : Int) ((itN (send1 hold (lostF l t) i j) q (itN (send2 hold gr.toNat (lostF l t) i) j (itN (send3 hold gr.toNat n (lostF l t)) i s))) j 0 : Int) : Int) (q : Int) : Int) 1))) (X.kc (Vi 1) rfl) (X.eqlI Try.underlying3 rfl)) hR.st0
     ·intro ac done u W Sx hR
      exact X.vl (X.pickT rfl (Sx.ev 60 (.bool true)) (Sx.ev 72 (.bool ((andV (shrV (andV ((itN (send3 hold gr.toNat n (lostF l t)) i s) i 5 : Int) ((itN (send1 hold (lostF l t) i j) q (itN (send2 hold gr.toNat (lostF l t) i) j (itN (send3 hold gr.toNat n (lostF l t)) i s))) j 0 : Int) : Int) (q : Int) : Int) 1 : Int) == 1)))) hR.st0
     intro ac u w34 hs hd hl ho hR
     have g : Gr w31 w34 := hR.1
     replace F : Fr ac 87 [(0, Vp bp), (1, Vi t), (4, Vp w.heap.size), (6, Vi i), (7, Vp w23.heap.size), (8, Vi j), (9, .pointer (some ⟨bn, j * 17, none⟩)), (10, Vi q), (14, .func (.func 96) #[] #[Vp bx, Vp bt, Vp bk]), (25, .slice (some ⟨bn, 0, none⟩) n cap), (26, Vi n), (27, Vi i), (28, .bool true), (36, Vi n), (37, Vi j), (38, .bool true), (50, Vi gr), (51, Vi q), (52, .bool true), (73, .bool ((andV (shrV (andV ((itN (send3 hold gr.toNat n (lostF l t)) i s) i 5 : Int) ((itN (send1 hold (lostF l t) i j) q (itN (send2 hold gr.toNat (lostF l t) i) j (itN (send3 hold gr.toNat n (lostF l t)) i s))) j 0 : Int) : Int) (q : Int) : Int) 1 : Int) == 1))] [{ target := .collected w12.heap.size, args := #[] }] := X.fr hs hd hl _ (by kernel_rfl)
     clear hs hd hl ho hR
     replace G := G.trans g
     replace hC := hC.gr g
     replace hE := hE.thenGr g
     replace hI1 := hI1.thenGr g
     replace hI2 := hI2.thenGr g
     replace hI3 := hI3.thenGr g
     replace hP := hP.gr g
     replace hL := hL.gr g
     replace hmk := hmk.gr g
     replace hS := hS.gr g
     clear g
     refine X.thenN ?_
     cases h35 : ((andV (shrV (andV ((itN (send3 hold gr.toNat n (lostF l t)) i s) i 5 : Int) ((itN (send1 hold (lostF l t) i j) q (itN (send2 hold gr.toNat (lostF l t) i) j (itN (send3 hold gr.toNat n (lostF l t)) i s))) j 0 : Int) : Int) (q : Int) : Int) 1 : Int) == 1) with
     | false =>
      try rw [h35] at F
      have h35p : ¬ (andV (shrV (andV ((itN (send3 hold gr.toNat n (lostF l t)) i s) i 5 : Int) ((itN (send1 hold (lostF l t) i j) q (itN (send2 hold gr.toNat (lostF l t) i) j (itN (send3 hold gr.toNat n (lostF l t)) i s))) j 0 : Int) : Int) (q : Int) : Int) 1 : Int) = 1 := by simpa using h35
      refine Y.condF (F.e 73 rfl) ?_
      refine Y.skip ?_
      refine X.blockN ?_
      refine X.thenN ?_
      refine Y.lit (by kernel_rfl) ?_
      refine Y.pv F (X.binop rfl (F.e 51 rfl) (X.kc (Vi 1) rfl) (X.addI Try.underlying3 rfl (by omega) (by omega))) ?_;clear F ac;intro ac F
      refine Y.pv F (X.move rfl (F.e 84 rfl)) ?_;clear F ac;intro ac F
      refine Y.nil ?_
      replace F : Fr ac 87 [(0, Vp bp), (1, Vi t), (4, Vp w.heap.size), (6, Vi i), (7, Vp w23.heap.size), (8, Vi j), (9, .pointer (some ⟨bn, j * 17, none⟩)), (10, Vi q), (14, .func (.func 96) #[] #[Vp bx, Vp bt, Vp bk]), (25, .slice (some ⟨bn, 0, none⟩) n cap), (26, Vi n), (27, Vi i), (28, .bool true), (36, Vi n), (37, Vi j), (38, .bool true), (50, Vi gr), (51, Vi ((q : Int) + 1)), (52, .bool true), (73, .bool false)] [{ target := .collected w12.heap.size, args := #[] }] := F.sub _
      refine X.thenN ?_
      refine ⟨_, ?_, q + 1, rfl, by omega, hI3, (by rw [itN_succ, send1_neg (by rw [send1_it (.inl (by decide)) (by omega), send2_it (i := i) (.inl (by decide)) (by omega)]; simp [bitB, h33, h35])]; exact hS), F.sub _⟩
      omega
     | true =>
      try rw [h35] at F
      have h35p : (andV (shrV (andV ((itN (send3 hold gr.toNat n (lostF l t)) i s) i 5 : Int) ((itN (send1 hold (lostF l t) i j) q (itN (send2 hold gr.toNat (lostF l t) i) j (itN (send3 hold gr.toNat n (lostF l t)) i s))) j 0 : Int) : Int) (q : Int) : Int) 1 : Int) = 1 := by simpa using h35
      refine Y.condT (F.e 73 rfl) ?_
      refine Y.regionS F [some (.pointer (some ⟨bn, j * 17, none⟩)), some (Vi q), some (Vp bp), some (Vp bp), some (Vp bp), some (.pointer (some ⟨bp, 1, none⟩)), some (Vi hold), some (.pointer (some ⟨bn, j * 17, none⟩)), some (.pointer (some ⟨bn, j * 17 + 6, none⟩)), some (.pointer (some ⟨bn, j * 17 + 6 + q, none⟩)), none] [] 10 (fun _ W => Only (fun x => x = bn) w34 W ∧ OwnP W bn (n * 17) (NV (up (itN (send1 hold (lostF l t) i j) q (itN (send2 hold gr.toNat (lostF l t) i) j (itN (send3 hold gr.toNat n (lostF l t)) i s))) j (6 + q) hold))) rfl ⟨by kernel_rfl, of_decide_eq_true (by kernel_rfl), by kernel_rfl, by kernel_rfl, by kernel_rfl⟩ (of_decide_eq_true (by kernel_rfl)) ⟨?_, ?_, ?_, ?_, ?_, ?_, ?_, ?_, ?_, ?_, ?_, trivial⟩ ?_
      ·intro ac done u W Sx hT
       have hs := Sx.no 10 (by kernel_rfl)
       have hR := hT.1 hs
       exact X.vl (X.move rfl (Sx.ev 9 (.pointer (some ⟨bn, j * 17, none⟩)))) (Y.RT.of hs rfl hR.st0)
      ·intro ac done u W Sx hT
       have hs := Sx.no 10 (by kernel_rfl)
       have hR := hT.1 hs
       exact X.vl (X.move rfl (Sx.ev 10 (Vi q))) (Y.RT.of hs rfl hR.st0)
      ·intro ac done u W Sx hT
       have hs := Sx.no 10 (by kernel_rfl)
       have hR := hT.1 hs
       exact X.vl (X.move rfl (Sx.ev 0 (Vp bp))) (Y.RT.of hs rfl hR.st0)
      ·intro ac done u W Sx hT
       have hs := Sx.no 10 (by kernel_rfl)
       have hR := hT.1 hs
       exact X.vl (Y.nilC rfl (Sx.ev 76 (Vp bp))) (Y.RT.of hs rfl hR.st0)
      ·intro ac done u W Sx hT
       have hs := Sx.no 10 (by kernel_rfl)
       have hR := hT.1 hs
       exact X.vl (X.field rfl (Sx.ev 77 (Vp bp)) (X.fld Try.underlying101 rfl (Try.siz24 _) rfl rfl)) (Y.RT.of hs rfl hR.st0)
      ·intro ac done u W Sx hT
       have hs := Sx.no 10 (by kernel_rfl)
       have hR := hT.1 hs
       exact X.vl (X.field rfl (Sx.ev 78 (Vp bp)) (X.fld Try.underlying24 rfl (Try.siz3 _) rfl rfl)) (Y.RT.of hs rfl hR.st0)
      ·intro ac done u W Sx hT
       have hs := Sx.no 10 (by kernel_rfl)
       have hR := hT.1 hs
       have g : Gr w34 W := hR.1
       exact X.vl (X.load rfl (Sx.ev 79 (.pointer (some ⟨bp, 1, none⟩))) (X.ld1 (Try.agg3 _) ((hC.gr g).at 1 rfl))) (Y.RT.of hs rfl hR.st0)
      ·intro ac done u W Sx hT
       have hs := Sx.no 10 (by kernel_rfl)
       have hR := hT.1 hs
       exact X.vl (Y.nilC rfl (Sx.ev 74 (.pointer (some ⟨bn, j * 17, none⟩)))) (Y.RT.of hs rfl hR.st0)
      ·intro ac done u W Sx hT
       have hs := Sx.no 10 (by kernel_rfl)
       have hR := hT.1 hs
       exact X.vl (X.field rfl (Sx.ev 81 (.pointer (some ⟨bn, j * 17, none⟩))) (X.fld Try.underlying104 rfl (Try.siz102 _) rfl rfl)) (Y.RT.of hs rfl hR.st0)
      ·intro ac done u W Sx hT
       have hs := Sx.no 10 (by kernel_rfl)
       have hR := hT.1 hs
       exact X.val (X.w0 rfl) rfl (X.index rfl (Sx.ev 82 (.pointer (some ⟨bn, j * 17 + 6, none⟩))) (Sx.ev 75 (Vi q)) (Y.idxA (k := q) Try.underlying102 (Try.siz3 _) (by decide) (by omega) (by omega) (by rw [Nat.mul_one]; exact Y.addr_add _ _ _))) (Y.RT.of hs rfl hR.st0)
      ·intro ac done u W Sx hT
       have hR := hT.1 Sx.nd
       have g : Gr w34 W := hR.1
       have hS2 := (hS.gr g).set (k := j * 17 + 6 + q) (Vi hold)
       rw [NV_upt _ _ _ (by omega)] at hS2
       exact X.unit (X.w0 rfl) rfl (X.store rfl (Sx.ev 83 (.pointer (some ⟨bn, j * 17 + 6 + q, none⟩))) (Sx.ev 80 (Vi hold)) ((hS.gr g).st1 (Try.siz3 _) rfl rfl (by omega))) (Y.RT.fin ⟨(g.only _).trans (Y.set_only _ _ _ _), hS2⟩)
      rintro ac u w36 hs hd hl_ ho ⟨hon, hS2⟩
      replace F : Fr ac 87 [(0, Vp bp), (1, Vi t), (4, Vp w.heap.size), (6, Vi i), (7, Vp w23.heap.size), (8, Vi j), (9, .pointer (some ⟨bn, j * 17, none⟩)), (10, Vi q), (14, .func (.func 96) #[] #[Vp bx, Vp bt, Vp bk]), (25, .slice (some ⟨bn, 0, none⟩) n cap), (26, Vi n), (27, Vi i), (28, .bool true), (36, Vi n), (37, Vi j), (38, .bool true), (50, Vi gr), (51, Vi q), (52, .bool true), (73, .bool true)] [{ target := .collected w12.heap.size, args := #[] }] := X.fr hs hd hl_ _ (by kernel_rfl)
      clear hs hd hl_ ho
      replace hP := hP.on hon
      replace hL := hL.only hon (by show ¬ _ = _; omega)
      replace hmk := hmk.only hon (by show ¬ _ = _; omega)
      replace hC := (hC.kc hon 0 rfl (hC.kc hon 1 rfl (hC.kc hon 2 rfl (hC.kc hon 3 rfl (hC.kc hon 4 rfl (hC.kc hon 5 rfl (hC.kc hon 6 rfl (hC.kc hon 7 rfl (hC.kc hon 8 rfl (hC.kc hon 9 rfl (hC.kc hon 10 rfl (hC.kc hon 11 rfl (hC.kc hon 12 rfl (hC.kc hon 13 rfl (hC.kc hon 14 rfl (hC.kc hon 15 rfl (hC.kc hon 16 rfl (hC.kc hon 17 rfl (hC.kc hon 18 rfl (hC.kc hon 19 rfl (hC.kc hon 20 rfl (hC.kc hon 21 rfl (hC.kc hon 22 rfl (RCells.nil _))))))))))))))))))))))))
      replace hE := hE.step hon (.inl rfl)
      replace hI1 := hI1.step hon (.inl rfl)
      replace hI2 := hI2.step hon (.inl rfl)
      replace hI3 := hI3.step hon (.inl rfl)
      replace G := Gr.refl w36
      replace hS : OwnP w36 bn (n * 17) (NV (up (itN (send1 hold (lostF l t) i j) q (itN (send2 hold gr.toNat (lostF l t) i) j (itN (send3 hold gr.toNat n (lostF l t)) i s))) j (6 + q) hold)) := hS2
      clear hS2 hon
      refine X.blockN ?_
      refine X.thenN ?_
      refine Y.lit (by kernel_rfl) ?_
      refine Y.pv F (X.binop rfl (F.e 51 rfl) (X.kc (Vi 1) rfl) (X.addI Try.underlying3 rfl (by omega) (by omega))) ?_;clear F ac;intro ac F
      refine Y.pv F (X.move rfl (F.e 84 rfl)) ?_;clear F ac;intro ac F
      refine Y.nil ?_
      replace F : Fr ac 87 [(0, Vp bp), (1, Vi t), (4, Vp w.heap.size), (6, Vi i), (7, Vp w23.heap.size), (8, Vi j), (9, .pointer (some ⟨bn, j * 17, none⟩)), (10, Vi q), (14, .func (.func 96) #[] #[Vp bx, Vp bt, Vp bk]), (25, .slice (some ⟨bn, 0, none⟩) n cap), (26, Vi n), (27, Vi i), (28, .bool true), (36, Vi n), (37, Vi j), (38, .bool true), (50, Vi gr), (51, Vi ((q : Int) + 1)), (52, .bool true), (73, .bool true)] [{ target := .collected w12.heap.size, args := #[] }] := F.sub _
      refine X.thenN ?_
      refine ⟨_, ?_, q + 1, rfl, by omega, hI3, (by rw [itN_succ, send1_pos h33 (by rw [send1_it (.inl (by decide)) (by omega), send2_it (.inl (by decide)) (by omega)]; exact h35)]; exact hS), F.sub _⟩
      omega
    | true =>
     try rw [h33] at F
     refine Y.region F [some (Vi i), some (Vi j), some (.pointer (some ⟨w.heap.size, i * 16, none⟩)), some (.pointer (some ⟨w.heap.size, i * 16 + j, none⟩)), some (.bool ((lostF l t) i j)), some (.bool false), some (.bool false), none, none, none, none, none, none, none, none, none, none, none, none, some (.bool false)] [] rfl ⟨by kernel_rfl, of_decide_eq_true (by kernel_rfl), by kernel_rfl, by kernel_rfl, by kernel_rfl⟩ ⟨?_, ?_, ?_, ?_, ?_, ?_, ?_, ?_, ?_, ?_, ?_, ?_, ?_, ?_, ?_, ?_, ?_, ?_, ?_, ?_, trivial⟩ ?_
     ·intro ac done u W Sx hR
      exact X.vl (X.move rfl (Sx.ev 6 (Vi i))) hR.st0
     ·intro ac done u W Sx hR
      exact X.vl (X.move rfl (Sx.ev 8 (Vi j))) hR.st0
     ·intro ac done u W Sx hR
      exact X.vl (X.index rfl (Sx.ev 4 (Vp w.heap.size)) (Sx.ev 54 (Vi i)) (Y.idxA (k := i) Try.underlying136 (Try.siz135 _) (by decide) (by omega) (by omega) (addr_add0 _ _))) hR.st0
     ·intro ac done u W Sx hR
      exact X.val (X.w0 rfl) rfl (X.index rfl (Sx.ev 56 (.pointer (some ⟨w.heap.size, i * 16, none⟩))) (Sx.ev 55 (Vi j)) (Y.idxA (k := j) Try.underlying135 (Try.siz4 _) (by decide) (by omega) (by omega) (by rw [Nat.mul_one]; exact Y.addr_add _ _ _))) hR.st0
     ·intro ac done u W Sx hR
      have g : Gr w31 W := hR.1
      exact X.vl (X.load rfl (Sx.ev 57 (.pointer (some ⟨w.heap.size, i * 16 + j, none⟩))) (X.ld1 (Try.agg4 _) ((hC.gr g).at 22 rfl))) hR.st0
     ·intro ac done u W Sx hR
      exact X.val (X.w0 rfl) rfl (X.notB rfl (Sx.ev 58 (.bool ((lostF l t) i j))) (by simp [h33])) hR.st0
     ·intro ac done u W Sx hR
      exact X.vl (X.move rfl (Sx.ev 59 (.bool false))) hR.st0
     ·intro ac done u W Sx hR
      exact X.skip (X.w2 rfl (Sx.yl 6 60 false (by kernel_rfl) rfl rfl) rfl) rfl (hR.skip rfl)
     ·intro ac done u W Sx hR
      exact X.skip (X.w2 rfl (Sx.yl 6 60 false (by kernel_rfl) rfl rfl) rfl) rfl (hR.skip rfl)
     ·intro ac done u W Sx hR
      exact X.skip (X.w2 rfl (Sx.yl 6 60 false (by kernel_rfl) rfl rfl) rfl) rfl (hR.skip rfl)
     ·intro ac done u W Sx hR
      exact X.skip (X.w2 rfl (Sx.yl 6 60 false (by kernel_rfl) rfl rfl) rfl) rfl (hR.skip rfl)
     ·intro ac done u W Sx hR
      exact X.skip (X.w2 rfl (Sx.yl 6 60 false (by kernel_rfl) rfl rfl) rfl) rfl (hR.skip rfl)
     ·intro ac done u W Sx hR
      exact X.skip (X.w2 rfl (Sx.yl 6 60 false (by kernel_rfl) rfl rfl) rfl) rfl (hR.skip rfl)
     ·intro ac done u W Sx hR
      exact X.skip (X.w2 rfl (Sx.yl 6 60 false (by kernel_rfl) rfl rfl) rfl) rfl (hR.skip rfl)
     ·intro ac done u W Sx hR
      exact X.skip (X.w2 rfl (Sx.yl 6 60 false (by kernel_rfl) rfl rfl) rfl) rfl (hR.skip rfl)
     ·intro ac done u W Sx hR
      exact X.skip (X.w2 rfl (Sx.yl 6 60 false (by kernel_rfl) rfl rfl) rfl) rfl (hR.skip rfl)
     ·intro ac done u W Sx hR
      exact X.skip (X.w2 rfl (Sx.yl 6 60 false (by kernel_rfl) rfl rfl) rfl) rfl (hR.skip rfl)
     ·intro ac done u W Sx hR
      exact X.skip (X.w2 rfl (Sx.yl 6 60 false (by kernel_rfl) rfl rfl) rfl) rfl (hR.skip rfl)
     ·intro ac done u W Sx hR
      exact X.skip (X.w2 rfl (Sx.yl 6 60 false (by kernel_rfl) rfl rfl) rfl) rfl (hR.skip rfl)
     ·intro ac done u W Sx hR
      exact X.vl (X.pickF rfl (Sx.ev 60 (.bool false)) (X.kc (.bool false) rfl)) hR.st0
     intro ac u w37 hs hd hl ho hR
     have g : Gr w31 w37 := hR.1
     replace F : Fr ac 87 [(0, Vp bp), (1, Vi t), (4, Vp w.heap.size), (6, Vi i), (7, Vp w23.heap.size), (8, Vi j), (9, .pointer (some ⟨bn, j * 17, none⟩)), (10, Vi q), (14, .func (.func 96) #[] #[Vp bx, Vp bt, Vp bk]), (25, .slice (some ⟨bn, 0, none⟩) n cap), (26, Vi n), (27, Vi i), (28, .bool true), (36, Vi n), (37, Vi j), (38, .bool true), (50, Vi gr), (51, Vi q), (52, .bool true), (73, .bool false)] [{ target := .collected w12.heap.size, args := #[] }] := X.fr hs hd hl _ (by kernel_rfl)
     clear hs hd hl ho hR
     replace G := G.trans g
     replace hC := hC.gr g
     replace hE := hE.thenGr g
     replace hI1 := hI1.thenGr g
     replace hI2 := hI2.thenGr g
     replace hI3 := hI3.thenGr g
     replace hP := hP.gr g
     replace hL := hL.gr g
     replace hmk := hmk.gr g
     replace hS := hS.gr g
     clear g
     refine X.thenN ?_
     refine Y.condF (F.e 73 rfl) ?_
     refine Y.skip ?_
     refine X.blockN ?_
     refine X.thenN ?_
     refine Y.lit (by kernel_rfl) ?_
     refine Y.pv F (X.binop rfl (F.e 51 rfl) (X.kc (Vi 1) rfl) (X.addI Try.underlying3 rfl (by omega) (by omega))) ?_;clear F ac;intro ac F
     refine Y.pv F (X.move rfl (F.e 84 rfl)) ?_;clear F ac;intro ac F
     refine Y.nil ?_
     replace F : Fr ac 87 [(0, Vp bp), (1, Vi t), (4, Vp w.heap.size), (6, Vi i), (7, Vp w23.heap.size), (8, Vi j), (9, .pointer (some ⟨bn, j * 17, none⟩)), (10, Vi q), (14, .func (.func 96) #[] #[Vp bx, Vp bt, Vp bk]), (25, .slice (some ⟨bn, 0, none⟩) n cap), (26, Vi n), (27, Vi i), (28, .bool true), (36, Vi n), (37, Vi j), (38, .bool true), (50, Vi gr), (51, Vi ((q : Int) + 1)), (52, .bool true), (73, .bool false)] [{ target := .collected w12.heap.size, args := #[] }] := F.sub _
     refine X.thenN ?_
     refine ⟨_, ?_, q + 1, rfl, by omega, hI3, (by rw [itN_succ, send1_neg (by rw [send1_it (.inl (by decide)) (by omega), send2_it (i := i) (.inl (by decide)) (by omega)]; simp [bitB, h33])]; exact hS), F.sub _⟩
     omega
end Go.Proofs.Ytoalamakhjbedaa
