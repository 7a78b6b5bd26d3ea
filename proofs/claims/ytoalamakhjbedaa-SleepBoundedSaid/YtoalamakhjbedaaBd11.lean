/- Contract: the asks of a tick. -/
import Derived.Test.YtoalamakhjbedaaBd3
namespace Go.Proofs.Ytoalamakhjbedaa
open Go.RowKit

set_option maxRecDepth 100000 in
set_option maxHeartbeats 1000000 in
theorem ask_any (wB w : World) (bp bn : Nat) (gr hold : Int) (na la pa : Option Addr) (n nc m lc cap : Nat) (l : List (List Int)) (s : PS) (t : Int) (hP : PlE wB w bp bn gr hold na la pa n nc m lc cap l) (hS : OwnP w bn (n * 17) (NV s)) (h16 : n ≤ 16) (hn : ∃ nd : List (List Int), ∃ tt : Int, nd.length = n ∧ gr ≤ 8 ∧ ∀ x ∈ l, NuOk gr nd tt x) :
  Calls Try.prog 70 #[.pointer (some ⟨bp, 0, none⟩), .int .i64 t] w fun e w' => e = .returned (.int .i64 (asksG n (askS l t s))) ∧ Only (fun b => b = bn) w w' ∧ OwnP w' bn (n * 17) (NV (askS l t s)) := by
 have G := Gr.refl w
 have hE := Only.refl (fun b => b = bn) w
 have hC := hP.p
 have hpb := hP.pb
 have hnb := hP.nb
 have hgb := hP.g.size
 have hpe := hP.ne
 have hplt := hP.lt
 have hnlt := hS.lt
 obtain ⟨nd, tt, hndl, hg8, hnu⟩ := hn
 refine Y.calls 59 Try.func70 rfl rfl ?_
 intro ac F0
 have F : Fr ac 59 [(0, .pointer (some ⟨bp, 0, none⟩)), (1, .int .i64 t)] := F0.sub _
 clear F0
 refine Y.seq ?_
 refine Y.lit (by kernel_rfl) ?_
 refine Y.pval F (X.w0 rfl) rfl (X.box rfl (F.ev 0 (.pointer (some ⟨bp, 0, none⟩))) (Y.bx1 rfl)) ?_
 clear F ac
 intro ac F
 have hq3 : bn < w.heap.size := hS.lt
 have hq4 : bp < w.heap.size := lt_cell (hC.at 0 rfl)
 have g := Gr.alloc w (.cells #[.pointer (some ⟨bp, 0, none⟩)] 60)
 have hb := heap_alloc_new w (.cells #[.pointer (some ⟨bp, 0, none⟩)] 60)
 have hbl : w.heap.size < (w.alloc (.cells #[.pointer (some ⟨bp, 0, none⟩)] 60)).heap.size := by simp
 have hC2 : RCells (w.alloc (.cells #[.pointer (some ⟨bp, 0, none⟩)] 60)) [(⟨bp, 0, none⟩, .int .i64 gr), (⟨bp, 1, none⟩, .int .i64 hold), (⟨bp, 2, none⟩, .slice na n nc), (⟨bp, 3, none⟩, .slice la m lc), (⟨bp, 4, none⟩, .slice pa n cap), (⟨w.heap.size, 0, none⟩, .pointer (some ⟨bp, 0, none⟩))] := hC.box (b := w.heap.size) #[.pointer (some ⟨bp, 0, none⟩)] 60 rfl
 generalize w.alloc (.cells #[.pointer (some ⟨bp, 0, none⟩)] 60) = w5 at *
 replace G := G.trans g
 replace hC := hC2
 clear hC2
 replace hE := hE.thenGr g
 replace hP := hP.gr g
 replace hS := hS.gr g
 clear g hb hbl
 refine Y.pval F (X.w0 rfl) rfl (X.assign rfl (X.kc (.int .i64 0) rfl)) ?_
 clear F ac
 intro ac F
 refine Y.nil ?_
 replace F : Fr ac 59 [(0, .pointer (some ⟨bp, 0, none⟩)), (1, .int .i64 t), (2, .pointer (some ⟨w.heap.size, 0, none⟩)), (4, .int .i64 0)] := F.sub _
 refine X.thenN ?_
 refine Y.seq ?_
 refine Y.seq ?_
 refine Y.lit (by kernel_rfl) ?_
 refine Y.pval F (X.w0 rfl) rfl (X.load rfl (F.ev 2 (.pointer (some ⟨w.heap.size, 0, none⟩))) (X.ld1 (Try.agg60 _) (hC.at 5 rfl))) ?_
 clear F ac
 intro ac F
 refine Y.pval F (X.w0 rfl) rfl (X.move rfl (F.ev 1 (.int .i64 t))) ?_
 clear F ac
 intro ac F
 refine Y.pval F (X.w0 rfl) rfl (X.bs rfl (X.b2 (X.kc (.int .i64 1) rfl) (X.kc (.int .i64 2) rfl)) (Try.bs34_2 1 2 _)) ?_
 clear F ac
 intro ac F
 have hq6 : bn < w5.heap.size := hS.lt
 have hq7 : bp < w5.heap.size := lt_cell (hC.at 0 rfl)
 have hq8 : w.heap.size < w5.heap.size := lt_cell (hC.at 5 rfl)
 have g := Gr.alloc w5 (.cells #[.int .i64 1, .int .i64 2] 3)
 have hb := heap_alloc_new w5 (.cells #[.int .i64 1, .int .i64 2] 3)
 have hbl : w5.heap.size < (w5.alloc (.cells #[.int .i64 1, .int .i64 2] 3)).heap.size := by simp
 have hC2 : RCells (w5.alloc (.cells #[.int .i64 1, .int .i64 2] 3)) [(⟨bp, 0, none⟩, .int .i64 gr), (⟨bp, 1, none⟩, .int .i64 hold), (⟨bp, 2, none⟩, .slice na n nc), (⟨bp, 3, none⟩, .slice la m lc), (⟨bp, 4, none⟩, .slice pa n cap), (⟨w.heap.size, 0, none⟩, .pointer (some ⟨bp, 0, none⟩)), (⟨w5.heap.size, 0, none⟩, .int .i64 1), (⟨w5.heap.size, 1, none⟩, .int .i64 2)] := hC.box (b := w5.heap.size) #[.int .i64 1, .int .i64 2] 3 rfl
 generalize w5.alloc (.cells #[.int .i64 1, .int .i64 2] 3) = w9 at *
 replace G := G.trans g
 replace hC := hC2
 clear hC2
 replace hE := hE.thenGr g
 replace hP := hP.gr g
 replace hS := hS.gr g
 have hks := (ints_two (hC.at 6 rfl) (hC.at 7 rfl) : Ints w9 (some ⟨w5.heap.size, 0, none⟩) 2 [1, 2])
 clear g hb hbl
 refine Y.pcall F (X.w0 rfl) rfl (X.enter (F := 84) rfl (X.kc (.func (.func 84) #[] #[]) rfl) (X.a3 (F.ev 9 (.pointer (some ⟨bp, 0, none⟩))) (F.ev 10 (.int .i64 t)) (F.ev 11 (.slice (some ⟨w5.heap.size, 0, none⟩) 2 2))) (enters_of Try.func84 (by kernel_rfl) rfl _)) (at_any bp t (some ⟨w5.heap.size, 0, none⟩) 2 2 w9) ?_
 have hq10 : bn < w9.heap.size := hS.lt
 have hq11 : bp < w9.heap.size := lt_cell (hC.at 0 rfl)
 have hq12 : w.heap.size < w9.heap.size := lt_cell (hC.at 5 rfl)
 have hq13 : w5.heap.size < w9.heap.size := lt_cell (hC.at 6 rfl)
 clear F ac
 rintro e w14 ⟨bx, bt, bk, rfl, cx, ct, ck, hb1, ⟨hb2, hb3⟩, g⟩
 refine ⟨_, rfl, ?_⟩
 intro ac F
 replace G := G.trans g
 replace hC := hC.gr g
 replace hE := hE.thenGr g
 replace hP := hP.gr g
 replace hS := hS.gr g
 replace hks := hks.gr g
 clear g
 replace hC : RCells w14 [(⟨bp, 0, none⟩, .int .i64 gr), (⟨bp, 1, none⟩, .int .i64 hold), (⟨bp, 2, none⟩, .slice na n nc), (⟨bp, 3, none⟩, .slice la m lc), (⟨bp, 4, none⟩, .slice pa n cap), (⟨w.heap.size, 0, none⟩, .pointer (some ⟨bp, 0, none⟩)), (⟨w5.heap.size, 0, none⟩, .int .i64 1), (⟨w5.heap.size, 1, none⟩, .int .i64 2), (⟨bx, 0, none⟩, .pointer (some ⟨bp, 0, none⟩)), (⟨bt, 0, none⟩, .int .i64 t), (⟨bk, 0, none⟩, .slice (some ⟨w5.heap.size, 0, none⟩) 2 2)] := hC.append ((RCells.cons cx (RCells.cons ct (RCells.cons ck (RCells.nil _)))))
 refine Y.nil ?_
 replace F : Fr ac 59 [(0, .pointer (some ⟨bp, 0, none⟩)), (1, .int .i64 t), (2, .pointer (some ⟨w.heap.size, 0, none⟩)), (4, .int .i64 0), (12, .func (.func 96) #[] #[.pointer (some ⟨bx, 0, none⟩), .pointer (some ⟨bt, 0, none⟩), .pointer (some ⟨bk, 0, none⟩)])] := F.sub _
 refine X.thenN ?_
 refine Y.block ?_
 replace F : Fr ac 59 [(0, .pointer (some ⟨bp, 0, none⟩)), (1, .int .i64 t), (2, .pointer (some ⟨w.heap.size, 0, none⟩)), (4, .int .i64 0), (12, .func (.func 96) #[] #[.pointer (some ⟨bx, 0, none⟩), .pointer (some ⟨bt, 0, none⟩), .pointer (some ⟨bk, 0, none⟩)])] := F.sub _
 have hq15 : bn < w14.heap.size := hS.lt
 have hq16 : bk < w14.heap.size := lt_cell (hC.at 10 rfl)
 have hq17 : bp < w14.heap.size := lt_cell (hC.at 0 rfl)
 have hq18 : bt < w14.heap.size := lt_cell (hC.at 9 rfl)
 have hq19 : bx < w14.heap.size := lt_cell (hC.at 8 rfl)
 have hq20 : w.heap.size < w14.heap.size := lt_cell (hC.at 5 rfl)
 have hq21 : w5.heap.size < w14.heap.size := lt_cell (hC.at 6 rfl)
 have hPb := hP.pb
 have hPn := hP.nb
 have hPe := hP.ne
 have hgB := hP.g.size
 have hmut : bn < w14.heap.size := hS.lt
 have hkb : w5.heap.size < w14.heap.size := lt_cell (hC.at 6 rfl)
 refine Y.atRange (D := []) F (by decide) (by decide) rfl rfl rfl rfl rfl rfl rfl (F.ev 12 _) (fun b => b = bn) (fun b e => by rw [e]; exact hmut) (hP.ate (hC.at 8 rfl) (hC.at 9 rfl) (hC.at 10 rfl) hks hkb (fun b e => by subst e; exact ⟨by omega, by omega, by omega, by omega, by omega, by omega⟩)) (fun xs W => OwnP W bn (n * 17) (NV (xs.foldl askX s))) hS (fun xs W W2 h g => h.only g (by omega)) ?_ ?_
 ·have hP_r := hP
  have hC_r := hC
  clear F ac G hP hC hE
  clear hS
  intro pre x w22 ac xb hQ hS hpre hx4 hxb hN F
  have hP := hP_r.on hQ
  have hC : RCells w22 [(⟨bp, 0, none⟩, .int .i64 gr), (⟨bp, 1, none⟩, .int .i64 hold), (⟨bp, 2, none⟩, .slice na n nc), (⟨bp, 3, none⟩, .slice la m lc), (⟨bp, 4, none⟩, .slice pa n cap), (⟨w.heap.size, 0, none⟩, .pointer (some ⟨bp, 0, none⟩)), (⟨xb, 0, none⟩, .int .i64 (nv x 0)), (⟨xb, 1, none⟩, .int .i64 (nv x 1)), (⟨xb, 2, none⟩, .int .i64 (nv x 2)), (⟨xb, 3, none⟩, .int .i64 (nv x 3))] := (RCells.cons (hQ.cell (hC_r.at 0 rfl) (by show ¬ bp = bn; omega)) (RCells.cons (hQ.cell (hC_r.at 1 rfl) (by show ¬ bp = bn; omega)) (RCells.cons (hQ.cell (hC_r.at 2 rfl) (by show ¬ bp = bn; omega)) (RCells.cons (hQ.cell (hC_r.at 3 rfl) (by show ¬ bp = bn; omega)) (RCells.cons (hQ.cell (hC_r.at 4 rfl) (by show ¬ bp = bn; omega)) (RCells.cons (hQ.cell (hC_r.at 5 rfl) (by show ¬ w.heap.size = bn; omega)) hN))))))
  have G := Gr.refl w22
  have hR_ := Only.refl (fun b => b = bn) w22
  replace F : Fr ac 59 [(0, .pointer (some ⟨bp, 0, none⟩)), (1, .int .i64 t), (2, .pointer (some ⟨w.heap.size, 0, none⟩)), (4, .int .i64 0), (5, .pointer (some ⟨xb, 0, none⟩)), (12, .func (.func 96) #[] #[.pointer (some ⟨bx, 0, none⟩), .pointer (some ⟨bt, 0, none⟩), .pointer (some ⟨bk, 0, none⟩)]), (13, .agg #[.int .i64 (nv x 0), .int .i64 (nv x 1), .int .i64 (nv x 2), .int .i64 (nv x 3)])] := F.sub _
  have hnx := hnu x (mem_pre hpre)
  have hxn := hnx.n0
  have hxn1 := hnx.n1
  have hpk := pick_pre hpre
  have hxa := hnx.ask (by simpa [pickB] using hpk.2)
  have hx30 := hxa.1
  have hx31 := hxa.2.1
  refine Y.block ?_
  refine Y.seq ?_
  obtain rfl : pa = some ⟨bn, 0, none⟩ := hP.hpa (by omega)
  refine Y.region F [some (.pointer (some ⟨bp, 0, none⟩)), some (.pointer (some ⟨bp, 0, none⟩)), some (.pointer (some ⟨bp, 4, none⟩)), some (.slice (some ⟨bn, 0, none⟩) n cap), some (.pointer (some ⟨xb, 2, none⟩)), some (.int .i64 (nv x 2)), some (.pointer (some ⟨bn, ((nv x 2).toNat) * 17, none⟩)), some (.pointer (some ⟨bn, ((nv x 2).toNat) * 17, none⟩))] [] rfl ⟨by kernel_rfl, of_decide_eq_true (by kernel_rfl), by kernel_rfl, by kernel_rfl, by kernel_rfl⟩ ⟨?_, ?_, ?_, ?_, ?_, ?_, ?_, ?_, trivial⟩ ?_
  ·intro ac done u W Sx hR
   have g : Gr w22 W := hR.1
   exact X.val (X.w0 rfl) rfl (X.load rfl (Sx.ev 2 (.pointer (some ⟨w.heap.size, 0, none⟩))) (X.ld1 (Try.agg60 _) ((hC.gr g).at 5 rfl))) (hR.step (Gr.refl _) rfl)
  ·intro ac done u W Sx hR
   exact X.val (X.w0 rfl) rfl (Y.nilC rfl (Sx.ev 14 (.pointer (some ⟨bp, 0, none⟩)))) (hR.step (Gr.refl _) rfl)
  ·intro ac done u W Sx hR
   exact X.val (X.w0 rfl) rfl (X.field rfl (Sx.ev 15 (.pointer (some ⟨bp, 0, none⟩))) (X.fld Try.underlying101 rfl (Try.siz99 _) rfl rfl)) (hR.step (Gr.refl _) rfl)
  ·intro ac done u W Sx hR
   have g : Gr w22 W := hR.1
   exact X.val (X.w0 rfl) rfl (X.load rfl (Sx.ev 16 (.pointer (some ⟨bp, 4, none⟩))) (X.ld1 (Try.agg99 _) ((hC.gr g).at 4 rfl))) (hR.step (Gr.refl _) rfl)
  ·intro ac done u W Sx hR
   exact X.val (X.w0 rfl) rfl (X.field rfl (Sx.ev 5 (.pointer (some ⟨xb, 0, none⟩))) (X.fld Try.underlying33 rfl (Try.siz3 _) rfl rfl)) (hR.step (Gr.refl _) rfl)
  ·intro ac done u W Sx hR
   have g : Gr w22 W := hR.1
   exact X.val (X.w0 rfl) rfl (X.load rfl (Sx.ev 18 (.pointer (some ⟨xb, 2, none⟩))) (X.ld1 (Try.agg3 _) ((hC.gr g).at 8 rfl))) (hR.step (Gr.refl _) rfl)
  ·intro ac done u W Sx hR
   exact X.val (X.w0 rfl) rfl (X.index rfl (Sx.ev 17 (.slice (some ⟨bn, 0, none⟩) n cap)) (Sx.ev 19 (.int .i64 (nv x 2))) (X.idx (k := (nv x 2).toNat) Try.underlying99 (Try.siz104 _) (by omega) (by omega) (addr_add0 _ _))) (hR.step (Gr.refl _) rfl)
  ·intro ac done u W Sx hR
   exact X.val (X.w0 rfl) rfl (X.assign rfl (Sx.ev 20 (.pointer (some ⟨bn, ((nv x 2).toNat) * 17, none⟩)))) (hR.step (Gr.refl _) rfl)
  intro ac u w23 hs hd hl ho hR
  have g : Gr w22 w23 := hR.1
  replace F : Fr ac 59 [(0, .pointer (some ⟨bp, 0, none⟩)), (1, .int .i64 t), (2, .pointer (some ⟨w.heap.size, 0, none⟩)), (4, .int .i64 0), (5, .pointer (some ⟨xb, 0, none⟩)), (6, .pointer (some ⟨bn, ((nv x 2).toNat) * 17, none⟩)), (12, .func (.func 96) #[] #[.pointer (some ⟨bx, 0, none⟩), .pointer (some ⟨bt, 0, none⟩), .pointer (some ⟨bk, 0, none⟩)]), (13, .agg #[.int .i64 (nv x 0), .int .i64 (nv x 1), .int .i64 (nv x 2), .int .i64 (nv x 3)])] := X.fr hs hd hl _ (by kernel_rfl)
  clear hs hd hl ho hR
  replace G := G.trans g
  replace hC := hC.gr g
  replace hQ := hQ.thenGr g
  replace hR_ := hR_.thenGr g
  replace hP := hP.gr g
  replace hS := hS.gr g
  clear g
  refine X.thenN ?_
  refine Y.seq ?_
  replace hC : RCells w23 [(⟨bp, 0, none⟩, .int .i64 gr), (⟨bp, 1, none⟩, .int .i64 hold), (⟨bp, 2, none⟩, .slice na n nc), (⟨bp, 3, none⟩, .slice la m lc), (⟨bp, 4, none⟩, .slice (some ⟨bn, 0, none⟩) n cap), (⟨w.heap.size, 0, none⟩, .pointer (some ⟨bp, 0, none⟩)), (⟨xb, 0, none⟩, .int .i64 (nv x 0)), (⟨xb, 1, none⟩, .int .i64 (nv x 1)), (⟨xb, 2, none⟩, .int .i64 (nv x 2)), (⟨xb, 3, none⟩, .int .i64 (nv x 3)), (⟨bn, ((nv x 2).toNat) * 17 + 5, none⟩, .int .i64 ((pre.foldl askX s) ((nv x 2).toNat) 5))] := hC.append ((RCells.cons ((hS.cell (k := ((nv x 2).toNat) * 17 + 5) (by omega)).trans (congrArg some (NV_int (pre.foldl askX s) ((nv x 2).toNat) 5 (by decide)))) (RCells.nil _)))
  refine Y.regionS F [some (.pointer (some ⟨bn, ((nv x 2).toNat) * 17, none⟩)), some (.pointer (some ⟨bn, ((nv x 2).toNat) * 17, none⟩)), some (.pointer (some ⟨bn, ((nv x 2).toNat) * 17 + 5, none⟩)), some (.int .i64 ((pre.foldl askX s) ((nv x 2).toNat) 5)), some (.pointer (some ⟨xb, 3, none⟩)), some (.int .i64 (nv x 3)), some (.int .i64 (shlV 1 (nv x 3 : Int))), some (.int .i64 (orV ((pre.foldl askX s) ((nv x 2).toNat) 5 : Int) (shlV 1 (nv x 3 : Int) : Int))), some (.pointer (some ⟨bn, ((nv x 2).toNat) * 17, none⟩)), some (.pointer (some ⟨bn, ((nv x 2).toNat) * 17 + 5, none⟩)), none] [] 10 (fun _ W => Only (fun x => x = bn) w23 W ∧ OwnP W bn (n * 17) (NV (up (pre.foldl askX s) ((nv x 2).toNat) 5 (orV ((pre.foldl askX s) ((nv x 2).toNat) 5 : Int) (shlV 1 (nv x 3 : Int) : Int) : Int)))) rfl ⟨by kernel_rfl, of_decide_eq_true (by kernel_rfl), by kernel_rfl, by kernel_rfl, by kernel_rfl⟩ (of_decide_eq_true (by kernel_rfl)) ⟨?_, ?_, ?_, ?_, ?_, ?_, ?_, ?_, ?_, ?_, ?_, trivial⟩ ?_
  ·intro ac done u W Sx hT
   have hs := Sx.no 10 (by kernel_rfl)
   have hR := hT.1 hs
   exact X.val (X.w0 rfl) rfl (X.move rfl (Sx.ev 6 (.pointer (some ⟨bn, ((nv x 2).toNat) * 17, none⟩)))) (Y.RT.of hs rfl (hR.step (Gr.refl _) rfl))
  ·intro ac done u W Sx hT
   have hs := Sx.no 10 (by kernel_rfl)
   have hR := hT.1 hs
   exact X.val (X.w0 rfl) rfl (Y.nilC rfl (Sx.ev 21 (.pointer (some ⟨bn, ((nv x 2).toNat) * 17, none⟩)))) (Y.RT.of hs rfl (hR.step (Gr.refl _) rfl))
  ·intro ac done u W Sx hT
   have hs := Sx.no 10 (by kernel_rfl)
   have hR := hT.1 hs
   exact X.val (X.w0 rfl) rfl (X.field rfl (Sx.ev 22 (.pointer (some ⟨bn, ((nv x 2).toNat) * 17, none⟩))) (X.fld Try.underlying104 rfl (Try.siz3 _) rfl rfl)) (Y.RT.of hs rfl (hR.step (Gr.refl _) rfl))
  ·intro ac done u W Sx hT
   have hs := Sx.no 10 (by kernel_rfl)
   have hR := hT.1 hs
   have g : Gr w23 W := hR.1
   exact X.val (X.w0 rfl) rfl (X.load rfl (Sx.ev 23 (.pointer (some ⟨bn, ((nv x 2).toNat) * 17 + 5, none⟩))) (X.ld1 (Try.agg3 _) ((hC.gr g).at 10 rfl))) (Y.RT.of hs rfl (hR.step (Gr.refl _) rfl))
  ·intro ac done u W Sx hT
   have hs := Sx.no 10 (by kernel_rfl)
   have hR := hT.1 hs
   exact X.val (X.w0 rfl) rfl (X.field rfl (Sx.ev 5 (.pointer (some ⟨xb, 0, none⟩))) (X.fld Try.underlying33 rfl (Try.siz3 _) rfl rfl)) (Y.RT.of hs rfl (hR.step (Gr.refl _) rfl))
  ·intro ac done u W Sx hT
   have hs := Sx.no 10 (by kernel_rfl)
   have hR := hT.1 hs
   have g : Gr w23 W := hR.1
   exact X.val (X.w0 rfl) rfl (X.load rfl (Sx.ev 25 (.pointer (some ⟨xb, 3, none⟩))) (X.ld1 (Try.agg3 _) ((hC.gr g).at 9 rfl))) (Y.RT.of hs rfl (hR.step (Gr.refl _) rfl))
  ·intro ac done u W Sx hT
   have hs := Sx.no 10 (by kernel_rfl)
   have hR := hT.1 hs
   exact X.val (X.w0 rfl) rfl (X.binop rfl (X.kc (.int .i64 1) rfl) (Sx.ev 26 (.int .i64 (nv x 3))) (X.shlI Try.underlying3 rfl (by omega))) (Y.RT.of hs rfl (hR.step (Gr.refl _) rfl))
  ·intro ac done u W Sx hT
   have hs := Sx.no 10 (by kernel_rfl)
   have hR := hT.1 hs
   exact X.val (X.w0 rfl) rfl (X.binop rfl (Sx.ev 24 (.int .i64 ((pre.foldl askX s) ((nv x 2).toNat) 5))) (Sx.ev 27 (.int .i64 (shlV 1 (nv x 3 : Int)))) (X.orI Try.underlying3 rfl)) (Y.RT.of hs rfl (hR.step (Gr.refl _) rfl))
  ·intro ac done u W Sx hT
   have hs := Sx.no 10 (by kernel_rfl)
   have hR := hT.1 hs
   exact X.val (X.w0 rfl) rfl (Y.nilC rfl (Sx.ev 21 (.pointer (some ⟨bn, ((nv x 2).toNat) * 17, none⟩)))) (Y.RT.of hs rfl (hR.step (Gr.refl _) rfl))
  ·intro ac done u W Sx hT
   have hs := Sx.no 10 (by kernel_rfl)
   have hR := hT.1 hs
   exact X.val (X.w0 rfl) rfl (X.field rfl (Sx.ev 29 (.pointer (some ⟨bn, ((nv x 2).toNat) * 17, none⟩))) (X.fld Try.underlying104 rfl (Try.siz3 _) rfl rfl)) (Y.RT.of hs rfl (hR.step (Gr.refl _) rfl))
  ·intro ac done u W Sx hT
   have hR := hT.1 Sx.nd
   have g : Gr w23 W := hR.1
   have hS2 := (hS.gr g).set (k := ((nv x 2).toNat) * 17 + 5) (.int .i64 (orV ((pre.foldl askX s) ((nv x 2).toNat) 5 : Int) (shlV 1 (nv x 3 : Int) : Int)))
   rw [NV_up _ _ _ (by decide)] at hS2
   exact X.unit (X.w0 rfl) rfl (X.store rfl (Sx.ev 30 (.pointer (some ⟨bn, ((nv x 2).toNat) * 17 + 5, none⟩))) (Sx.ev 28 (.int .i64 (orV ((pre.foldl askX s) ((nv x 2).toNat) 5 : Int) (shlV 1 (nv x 3 : Int) : Int)))) ((hS.gr g).st1 (Try.siz3 _) rfl rfl (by omega))) (Y.RT.fin ⟨(g.only _).trans (Y.set_only _ _ _ _), hS2⟩)
  rintro ac u w24 hs hd hl_ ho ⟨hon, hS2⟩
  replace F : Fr ac 59 [(0, .pointer (some ⟨bp, 0, none⟩)), (1, .int .i64 t), (2, .pointer (some ⟨w.heap.size, 0, none⟩)), (4, .int .i64 0), (5, .pointer (some ⟨xb, 0, none⟩)), (6, .pointer (some ⟨bn, ((nv x 2).toNat) * 17, none⟩)), (12, .func (.func 96) #[] #[.pointer (some ⟨bx, 0, none⟩), .pointer (some ⟨bt, 0, none⟩), .pointer (some ⟨bk, 0, none⟩)]), (13, .agg #[.int .i64 (nv x 0), .int .i64 (nv x 1), .int .i64 (nv x 2), .int .i64 (nv x 3)])] := X.fr hs hd hl_ _ (by kernel_rfl)
  clear hs hd hl_ ho
  replace hP := hP.on hon
  replace hC : RCells w24 [(⟨bp, 0, none⟩, .int .i64 gr), (⟨bp, 1, none⟩, .int .i64 hold), (⟨bp, 2, none⟩, .slice na n nc), (⟨bp, 3, none⟩, .slice la m lc), (⟨bp, 4, none⟩, .slice (some ⟨bn, 0, none⟩) n cap), (⟨w.heap.size, 0, none⟩, .pointer (some ⟨bp, 0, none⟩)), (⟨xb, 0, none⟩, .int .i64 (nv x 0)), (⟨xb, 1, none⟩, .int .i64 (nv x 1)), (⟨xb, 2, none⟩, .int .i64 (nv x 2)), (⟨xb, 3, none⟩, .int .i64 (nv x 3))] := (RCells.cons (hon.cell (hC.at 0 rfl) (by show ¬ bp = bn; omega)) (RCells.cons (hon.cell (hC.at 1 rfl) (by show ¬ bp = bn; omega)) (RCells.cons (hon.cell (hC.at 2 rfl) (by show ¬ bp = bn; omega)) (RCells.cons (hon.cell (hC.at 3 rfl) (by show ¬ bp = bn; omega)) (RCells.cons (hon.cell (hC.at 4 rfl) (by show ¬ bp = bn; omega)) (RCells.cons (hon.cell (hC.at 5 rfl) (by show ¬ w.heap.size = bn; omega)) (RCells.cons (hon.cell (hC.at 6 rfl) (by show ¬ xb = bn; omega)) (RCells.cons (hon.cell (hC.at 7 rfl) (by show ¬ xb = bn; omega)) (RCells.cons (hon.cell (hC.at 8 rfl) (by show ¬ xb = bn; omega)) (RCells.cons (hon.cell (hC.at 9 rfl) (by show ¬ xb = bn; omega)) (RCells.nil _)))))))))))
  replace hQ := hQ.step hon (.inl rfl)
  replace hR_ := hR_.step hon (.inl rfl)
  replace G := Gr.refl w24
  replace hS : OwnP w24 bn (n * 17) (NV (up (pre.foldl askX s) ((nv x 2).toNat) 5 (orV ((pre.foldl askX s) ((nv x 2).toNat) 5 : Int) (shlV 1 (nv x 3 : Int) : Int) : Int))) := hS2
  clear hS2 hon
  refine X.thenN ?_
  refine Y.seq ?_
  refine Y.lit (by kernel_rfl) ?_
  refine Y.pval F (X.w0 rfl) rfl (X.field rfl (F.ev 5 (.pointer (some ⟨xb, 0, none⟩))) (X.fld Try.underlying33 rfl (Try.siz3 _) rfl rfl)) ?_
  clear F ac
  intro ac F
  refine Y.pval F (X.w0 rfl) rfl (X.load rfl (F.ev 31 (.pointer (some ⟨xb, 1, none⟩))) (X.ld1 (Try.agg3 _) (hC.at 7 rfl))) ?_
  clear F ac
  intro ac F
  refine Y.pval F (X.w0 rfl) rfl (X.binop rfl (F.ev 32 (.int .i64 (nv x 1))) (X.kc (.int .i64 2) rfl) (X.eqlI Try.underlying3 rfl)) ?_
  clear F ac
  intro ac F
  refine Y.nil ?_
  replace F : Fr ac 59 [(0, .pointer (some ⟨bp, 0, none⟩)), (1, .int .i64 t), (2, .pointer (some ⟨w.heap.size, 0, none⟩)), (4, .int .i64 0), (5, .pointer (some ⟨xb, 0, none⟩)), (6, .pointer (some ⟨bn, ((nv x 2).toNat) * 17, none⟩)), (12, .func (.func 96) #[] #[.pointer (some ⟨bx, 0, none⟩), .pointer (some ⟨bt, 0, none⟩), .pointer (some ⟨bk, 0, none⟩)]), (13, .agg #[.int .i64 (nv x 0), .int .i64 (nv x 1), .int .i64 (nv x 2), .int .i64 (nv x 3)]), (33, .bool ((nv x 1 : Int) == 2))] := F.sub _
  refine X.thenN ?_
  cases h25 : ((nv x 1 : Int) == 2) with
  | false =>
   try rw [h25] at F
   have h25p : ¬ (nv x 1 : Int) = 2 := by simpa using h25
   refine Y.condF (F.ev 33 (.bool false)) ?_
   refine Y.skip ?_
   refine X.blockN ?_
   exact ⟨hR_, hQ, by rw [List.foldl_append]; exact (by show OwnP _ _ _ (NV (askX _ x)); unfold askX; rw [if_neg (by simpa using h25)]; exact hS)⟩
  | true =>
   try rw [h25] at F
   have h25p : (nv x 1 : Int) = 2 := by simpa using h25
   refine Y.condT (F.ev 33 (.bool true)) ?_
   replace hC : RCells w24 [(⟨bp, 0, none⟩, .int .i64 gr), (⟨bp, 1, none⟩, .int .i64 hold), (⟨bp, 2, none⟩, .slice na n nc), (⟨bp, 3, none⟩, .slice la m lc), (⟨bp, 4, none⟩, .slice (some ⟨bn, 0, none⟩) n cap), (⟨w.heap.size, 0, none⟩, .pointer (some ⟨bp, 0, none⟩)), (⟨xb, 0, none⟩, .int .i64 (nv x 0)), (⟨xb, 1, none⟩, .int .i64 (nv x 1)), (⟨xb, 2, none⟩, .int .i64 (nv x 2)), (⟨xb, 3, none⟩, .int .i64 (nv x 3)), (⟨bn, ((nv x 2).toNat) * 17 + 5, none⟩, .int .i64 ((up (pre.foldl askX s) ((nv x 2).toNat) 5 (orV ((pre.foldl askX s) ((nv x 2).toNat) 5 : Int) (shlV 1 (nv x 3 : Int) : Int) : Int)) ((nv x 2).toNat) 5))] := hC.append ((RCells.cons ((hS.cell (k := ((nv x 2).toNat) * 17 + 5) (by omega)).trans (congrArg some (NV_int (up (pre.foldl askX s) ((nv x 2).toNat) 5 (orV ((pre.foldl askX s) ((nv x 2).toNat) 5 : Int) (shlV 1 (nv x 3 : Int) : Int) : Int)) ((nv x 2).toNat) 5 (by decide)))) (RCells.nil _)))
   refine Y.regionS F [some (.pointer (some ⟨bn, ((nv x 2).toNat) * 17, none⟩)), some (.pointer (some ⟨bn, ((nv x 2).toNat) * 17, none⟩)), some (.pointer (some ⟨bn, ((nv x 2).toNat) * 17 + 5, none⟩)), some (.int .i64 ((up (pre.foldl askX s) ((nv x 2).toNat) 5 (orV ((pre.foldl askX s) ((nv x 2).toNat) 5 : Int) (shlV 1 (nv x 3 : Int) : Int) : Int)) ((nv x 2).toNat) 5)), some (.pointer (some ⟨xb, 3, none⟩)), some (.int .i64 (nv x 3)), some (.int .i64 (shlV 1 (nv x 3 : Int))), some (.int .i64 (anotV ((up (pre.foldl askX s) ((nv x 2).toNat) 5 (orV ((pre.foldl askX s) ((nv x 2).toNat) 5 : Int) (shlV 1 (nv x 3 : Int) : Int) : Int)) ((nv x 2).toNat) 5 : Int) (shlV 1 (nv x 3 : Int) : Int))), some (.pointer (some ⟨bn, ((nv x 2).toNat) * 17, none⟩)), some (.pointer (some ⟨bn, ((nv x 2).toNat) * 17 + 5, none⟩)), none] [] 10 (fun _ W => Only (fun x => x = bn) w24 W ∧ OwnP W bn (n * 17) (NV (up (up (pre.foldl askX s) ((nv x 2).toNat) 5 (orV ((pre.foldl askX s) ((nv x 2).toNat) 5 : Int) (shlV 1 (nv x 3 : Int) : Int) : Int)) ((nv x 2).toNat) 5 (anotV ((up (pre.foldl askX s) ((nv x 2).toNat) 5 (orV ((pre.foldl askX s) ((nv x 2).toNat) 5 : Int) (shlV 1 (nv x 3 : Int) : Int) : Int)) ((nv x 2).toNat) 5 : Int) (shlV 1 (nv x 3 : Int) : Int) : Int)))) rfl ⟨by kernel_rfl, of_decide_eq_true (by kernel_rfl), by kernel_rfl, by kernel_rfl, by kernel_rfl⟩ (of_decide_eq_true (by kernel_rfl)) ⟨?_, ?_, ?_, ?_, ?_, ?_, ?_, ?_, ?_, ?_, ?_, trivial⟩ ?_
   ·intro ac done u W Sx hT
    have hs := Sx.no 10 (by kernel_rfl)
    have hR := hT.1 hs
    exact X.val (X.w0 rfl) rfl (X.move rfl (Sx.ev 6 (.pointer (some ⟨bn, ((nv x 2).toNat) * 17, none⟩)))) (Y.RT.of hs rfl (hR.step (Gr.refl _) rfl))
   ·intro ac done u W Sx hT
    have hs := Sx.no 10 (by kernel_rfl)
    have hR := hT.1 hs
    exact X.val (X.w0 rfl) rfl (Y.nilC rfl (Sx.ev 34 (.pointer (some ⟨bn, ((nv x 2).toNat) * 17, none⟩)))) (Y.RT.of hs rfl (hR.step (Gr.refl _) rfl))
   ·intro ac done u W Sx hT
    have hs := Sx.no 10 (by kernel_rfl)
    have hR := hT.1 hs
    exact X.val (X.w0 rfl) rfl (X.field rfl (Sx.ev 35 (.pointer (some ⟨bn, ((nv x 2).toNat) * 17, none⟩))) (X.fld Try.underlying104 rfl (Try.siz3 _) rfl rfl)) (Y.RT.of hs rfl (hR.step (Gr.refl _) rfl))
   ·intro ac done u W Sx hT
    have hs := Sx.no 10 (by kernel_rfl)
    have hR := hT.1 hs
    have g : Gr w24 W := hR.1
    exact X.val (X.w0 rfl) rfl (X.load rfl (Sx.ev 36 (.pointer (some ⟨bn, ((nv x 2).toNat) * 17 + 5, none⟩))) (X.ld1 (Try.agg3 _) ((hC.gr g).at 10 rfl))) (Y.RT.of hs rfl (hR.step (Gr.refl _) rfl))
   ·intro ac done u W Sx hT
    have hs := Sx.no 10 (by kernel_rfl)
    have hR := hT.1 hs
    exact X.val (X.w0 rfl) rfl (X.field rfl (Sx.ev 5 (.pointer (some ⟨xb, 0, none⟩))) (X.fld Try.underlying33 rfl (Try.siz3 _) rfl rfl)) (Y.RT.of hs rfl (hR.step (Gr.refl _) rfl))
   ·intro ac done u W Sx hT
    have hs := Sx.no 10 (by kernel_rfl)
    have hR := hT.1 hs
    have g : Gr w24 W := hR.1
    exact X.val (X.w0 rfl) rfl (X.load rfl (Sx.ev 38 (.pointer (some ⟨xb, 3, none⟩))) (X.ld1 (Try.agg3 _) ((hC.gr g).at 9 rfl))) (Y.RT.of hs rfl (hR.step (Gr.refl _) rfl))
   ·intro ac done u W Sx hT
    have hs := Sx.no 10 (by kernel_rfl)
    have hR := hT.1 hs
    exact X.val (X.w0 rfl) rfl (X.binop rfl (X.kc (.int .i64 1) rfl) (Sx.ev 39 (.int .i64 (nv x 3))) (X.shlI Try.underlying3 rfl (by omega))) (Y.RT.of hs rfl (hR.step (Gr.refl _) rfl))
   ·intro ac done u W Sx hT
    have hs := Sx.no 10 (by kernel_rfl)
    have hR := hT.1 hs
    exact X.val (X.w0 rfl) rfl (X.binop rfl (Sx.ev 37 (.int .i64 ((up (pre.foldl askX s) ((nv x 2).toNat) 5 (orV ((pre.foldl askX s) ((nv x 2).toNat) 5 : Int) (shlV 1 (nv x 3 : Int) : Int) : Int)) ((nv x 2).toNat) 5))) (Sx.ev 40 (.int .i64 (shlV 1 (nv x 3 : Int)))) (X.andNotI Try.underlying3 rfl)) (Y.RT.of hs rfl (hR.step (Gr.refl _) rfl))
   ·intro ac done u W Sx hT
    have hs := Sx.no 10 (by kernel_rfl)
    have hR := hT.1 hs
    exact X.val (X.w0 rfl) rfl (Y.nilC rfl (Sx.ev 34 (.pointer (some ⟨bn, ((nv x 2).toNat) * 17, none⟩)))) (Y.RT.of hs rfl (hR.step (Gr.refl _) rfl))
   ·intro ac done u W Sx hT
    have hs := Sx.no 10 (by kernel_rfl)
    have hR := hT.1 hs
    exact X.val (X.w0 rfl) rfl (X.field rfl (Sx.ev 42 (.pointer (some ⟨bn, ((nv x 2).toNat) * 17, none⟩))) (X.fld Try.underlying104 rfl (Try.siz3 _) rfl rfl)) (Y.RT.of hs rfl (hR.step (Gr.refl _) rfl))
   ·intro ac done u W Sx hT
    have hR := hT.1 Sx.nd
    have g : Gr w24 W := hR.1
    have hS2 := (hS.gr g).set (k := ((nv x 2).toNat) * 17 + 5) (.int .i64 (anotV ((up (pre.foldl askX s) ((nv x 2).toNat) 5 (orV ((pre.foldl askX s) ((nv x 2).toNat) 5 : Int) (shlV 1 (nv x 3 : Int) : Int) : Int)) ((nv x 2).toNat) 5 : Int) (shlV 1 (nv x 3 : Int) : Int)))
    rw [NV_up _ _ _ (by decide)] at hS2
    exact X.unit (X.w0 rfl) rfl (X.store rfl (Sx.ev 43 (.pointer (some ⟨bn, ((nv x 2).toNat) * 17 + 5, none⟩))) (Sx.ev 41 (.int .i64 (anotV ((up (pre.foldl askX s) ((nv x 2).toNat) 5 (orV ((pre.foldl askX s) ((nv x 2).toNat) 5 : Int) (shlV 1 (nv x 3 : Int) : Int) : Int)) ((nv x 2).toNat) 5 : Int) (shlV 1 (nv x 3 : Int) : Int)))) ((hS.gr g).st1 (Try.siz3 _) rfl rfl (by omega))) (Y.RT.fin ⟨(g.only _).trans (Y.set_only _ _ _ _), hS2⟩)
   rintro ac u w26 hs hd hl_ ho ⟨hon, hS2⟩
   replace F : Fr ac 59 [(0, .pointer (some ⟨bp, 0, none⟩)), (1, .int .i64 t), (2, .pointer (some ⟨w.heap.size, 0, none⟩)), (4, .int .i64 0), (5, .pointer (some ⟨xb, 0, none⟩)), (6, .pointer (some ⟨bn, ((nv x 2).toNat) * 17, none⟩)), (12, .func (.func 96) #[] #[.pointer (some ⟨bx, 0, none⟩), .pointer (some ⟨bt, 0, none⟩), .pointer (some ⟨bk, 0, none⟩)]), (13, .agg #[.int .i64 (nv x 0), .int .i64 (nv x 1), .int .i64 (nv x 2), .int .i64 (nv x 3)]), (33, .bool true)] := X.fr hs hd hl_ _ (by kernel_rfl)
   clear hs hd hl_ ho
   replace hP := hP.on hon
   replace hC : RCells w26 [(⟨bp, 0, none⟩, .int .i64 gr), (⟨bp, 1, none⟩, .int .i64 hold), (⟨bp, 2, none⟩, .slice na n nc), (⟨bp, 3, none⟩, .slice la m lc), (⟨bp, 4, none⟩, .slice (some ⟨bn, 0, none⟩) n cap), (⟨w.heap.size, 0, none⟩, .pointer (some ⟨bp, 0, none⟩)), (⟨xb, 0, none⟩, .int .i64 (nv x 0)), (⟨xb, 1, none⟩, .int .i64 (nv x 1)), (⟨xb, 2, none⟩, .int .i64 (nv x 2)), (⟨xb, 3, none⟩, .int .i64 (nv x 3))] := (RCells.cons (hon.cell (hC.at 0 rfl) (by show ¬ bp = bn; omega)) (RCells.cons (hon.cell (hC.at 1 rfl) (by show ¬ bp = bn; omega)) (RCells.cons (hon.cell (hC.at 2 rfl) (by show ¬ bp = bn; omega)) (RCells.cons (hon.cell (hC.at 3 rfl) (by show ¬ bp = bn; omega)) (RCells.cons (hon.cell (hC.at 4 rfl) (by show ¬ bp = bn; omega)) (RCells.cons (hon.cell (hC.at 5 rfl) (by show ¬ w.heap.size = bn; omega)) (RCells.cons (hon.cell (hC.at 6 rfl) (by show ¬ xb = bn; omega)) (RCells.cons (hon.cell (hC.at 7 rfl) (by show ¬ xb = bn; omega)) (RCells.cons (hon.cell (hC.at 8 rfl) (by show ¬ xb = bn; omega)) (RCells.cons (hon.cell (hC.at 9 rfl) (by show ¬ xb = bn; omega)) (RCells.nil _)))))))))))
   replace hQ := hQ.step hon (.inl rfl)
   replace hR_ := hR_.step hon (.inl rfl)
   replace G := Gr.refl w26
   replace hS : OwnP w26 bn (n * 17) (NV (up (up (pre.foldl askX s) ((nv x 2).toNat) 5 (orV ((pre.foldl askX s) ((nv x 2).toNat) 5 : Int) (shlV 1 (nv x 3 : Int) : Int) : Int)) ((nv x 2).toNat) 5 (anotV ((up (pre.foldl askX s) ((nv x 2).toNat) 5 (orV ((pre.foldl askX s) ((nv x 2).toNat) 5 : Int) (shlV 1 (nv x 3 : Int) : Int) : Int)) ((nv x 2).toNat) 5 : Int) (shlV 1 (nv x 3 : Int) : Int) : Int))) := hS2
   clear hS2 hon
   refine X.blockN ?_
   exact ⟨hR_, hQ, by rw [List.foldl_append]; exact (by show OwnP _ _ _ (NV (askX _ x)); unfold askX; rw [if_pos (by simpa using h25)]; exact hS)⟩
 have hE_r := hE
 have hP_r := hP
 have hC_r := hC
 clear F ac G hP hC hS
 intro w27 ac hQ hS2 hk F
 have hS := hS2
 clear hS2
 replace hE := hE_r.trans hQ
 have hP := hP_r.on hQ
 have hC : RCells w27 [(⟨bp, 0, none⟩, .int .i64 gr), (⟨bp, 1, none⟩, .int .i64 hold), (⟨bp, 2, none⟩, .slice na n nc), (⟨bp, 3, none⟩, .slice la m lc), (⟨bp, 4, none⟩, .slice pa n cap), (⟨w.heap.size, 0, none⟩, .pointer (some ⟨bp, 0, none⟩))] := (RCells.cons (hQ.cell (hC_r.at 0 rfl) (by show ¬ bp = bn; omega)) (RCells.cons (hQ.cell (hC_r.at 1 rfl) (by show ¬ bp = bn; omega)) (RCells.cons (hQ.cell (hC_r.at 2 rfl) (by show ¬ bp = bn; omega)) (RCells.cons (hQ.cell (hC_r.at 3 rfl) (by show ¬ bp = bn; omega)) (RCells.cons (hQ.cell (hC_r.at 4 rfl) (by show ¬ bp = bn; omega)) (RCells.cons (hQ.cell (hC_r.at 5 rfl) (by show ¬ w.heap.size = bn; omega)) (RCells.nil _)))))))
 clear hC_r hP_r
 have G := Gr.refl w27
 have hmk : Mk1 w27 w14.heap.size := hk
 clear hk
 have hmlt : w14.heap.size < w27.heap.size := hmk.lt
 refine X.blockN ?_
 refine X.thenN ?_
 refine Y.seq ?_
 refine Y.seq ?_
 refine Y.lit (by kernel_rfl) ?_
 refine Y.pval F (X.w0 rfl) rfl (X.load rfl (F.ev 2 (.pointer (some ⟨w.heap.size, 0, none⟩))) (X.ld1 (Try.agg60 _) (hC.at 5 rfl))) ?_
 clear F ac
 intro ac F
 refine Y.pval F (X.w0 rfl) rfl (Y.nilC rfl (F.ev 44 (.pointer (some ⟨bp, 0, none⟩)))) ?_
 clear F ac
 intro ac F
 refine Y.pval F (X.w0 rfl) rfl (X.field rfl (F.ev 45 (.pointer (some ⟨bp, 0, none⟩))) (X.fld Try.underlying101 rfl (Try.siz99 _) rfl rfl)) ?_
 clear F ac
 intro ac F
 refine Y.pval F (X.w0 rfl) rfl (X.load rfl (F.ev 46 (.pointer (some ⟨bp, 4, none⟩))) (X.ld1 (Try.agg99 _) (hC.at 4 rfl))) ?_
 clear F ac
 intro ac F
 refine Y.pval F (X.w0 rfl) rfl (X.len1 Try.underlying99 rfl (F.ev 47 (.slice pa n cap))) ?_
 clear F ac
 intro ac F
 refine Y.pval F (X.w0 rfl) rfl (X.move rfl (X.kc (.int .i64 0) rfl)) ?_
 clear F ac
 intro ac F
 refine Y.nil ?_
 replace F : Fr ac 59 [(0, .pointer (some ⟨bp, 0, none⟩)), (1, .int .i64 t), (2, .pointer (some ⟨w.heap.size, 0, none⟩)), (4, .int .i64 0), (12, .func (.func 96) #[] #[.pointer (some ⟨bx, 0, none⟩), .pointer (some ⟨bt, 0, none⟩), .pointer (some ⟨bk, 0, none⟩)]), (47, .slice pa n cap), (48, .int .i64 n), (49, .int .i64 0)] [{ target := .collected w14.heap.size, args := #[] }] := F.sub _
 refine X.thenN ?_
 refine Y.block ?_
 have hE_1 := hE
 have hmk_1 := hmk
 have hP_1 := hP
 have hC_1 := hC
 refine Y.loop (fun me_ ac wr => ∃ (i : Nat), me_ = n - i ∧ i ≤ n ∧ Only (fun b => b = bn) w27 wr ∧ OwnP wr bn (n * 17) (NV (askS l t s)) ∧ Fr ac 59 [(0, .pointer (some ⟨bp, 0, none⟩)), (1, .int .i64 t), (2, .pointer (some ⟨w.heap.size, 0, none⟩)), (4, .int .i64 (asksG i (askS l t s))), (12, .func (.func 96) #[] #[.pointer (some ⟨bx, 0, none⟩), .pointer (some ⟨bt, 0, none⟩), .pointer (some ⟨bk, 0, none⟩)]), (47, .slice pa n cap), (48, .int .i64 n), (49, .int .i64 i)] [{ target := .collected w14.heap.size, args := #[] }]) _ ⟨0, rfl, Nat.zero_le _, Only.refl _ _, hS, F.sub _⟩ ?_
 clear F hP hC hS ac hE hmk
 intro me_ ac w28 hI
 obtain ⟨i, rfl, hi, hI1, hS, F⟩ := hI
 have hP := hP_1.on hI1
 have hE := hE_1.trans hI1
 have hmk := hmk_1.only hI1 (by show ¬ _ = _; omega)
 have hC : RCells w28 [(⟨bp, 0, none⟩, .int .i64 gr), (⟨bp, 1, none⟩, .int .i64 hold), (⟨bp, 2, none⟩, .slice na n nc), (⟨bp, 3, none⟩, .slice la m lc), (⟨bp, 4, none⟩, .slice pa n cap), (⟨w.heap.size, 0, none⟩, .pointer (some ⟨bp, 0, none⟩))] := (RCells.cons (hI1.cell (hC_1.at 0 rfl) (by show ¬ bp = bn; omega)) (RCells.cons (hI1.cell (hC_1.at 1 rfl) (by show ¬ bp = bn; omega)) (RCells.cons (hI1.cell (hC_1.at 2 rfl) (by show ¬ bp = bn; omega)) (RCells.cons (hI1.cell (hC_1.at 3 rfl) (by show ¬ bp = bn; omega)) (RCells.cons (hI1.cell (hC_1.at 4 rfl) (by show ¬ bp = bn; omega)) (RCells.cons (hI1.cell (hC_1.at 5 rfl) (by show ¬ w.heap.size = bn; omega)) (RCells.nil _)))))))
 replace G := Gr.refl w28
 refine Y.seq ?_
 refine Y.lit (by kernel_rfl) ?_
 refine Y.pval F (X.w0 rfl) rfl (X.binop rfl (F.ev 49 (.int .i64 i)) (F.ev 48 (.int .i64 n)) (X.lssI Try.underlying3 rfl)) ?_
 clear F ac
 intro ac F
 refine Y.nil ?_
 replace F : Fr ac 59 [(0, .pointer (some ⟨bp, 0, none⟩)), (1, .int .i64 t), (2, .pointer (some ⟨w.heap.size, 0, none⟩)), (4, .int .i64 (asksG i (askS l t s))), (12, .func (.func 96) #[] #[.pointer (some ⟨bx, 0, none⟩), .pointer (some ⟨bt, 0, none⟩), .pointer (some ⟨bk, 0, none⟩)]), (47, .slice pa n cap), (48, .int .i64 n), (49, .int .i64 i), (50, .bool (decide ((i : Int) < n)))] [{ target := .collected w14.heap.size, args := #[] }] := F.sub _
 refine X.thenN ?_
 refine Y.seq ?_
 cases h29 : decide ((i : Int) < n) with
 | false =>
  try rw [h29] at F
  have h29p : ¬ ((i : Int) < n) := of_decide_eq_false h29
  obtain rfl : n = i := by omega
  refine Y.condF (F.ev 50 (.bool false)) ?_
  refine Y.exit ?_
  refine X.thenX ?_
  refine X.thenX ?_
  refine X.blockX ?_
  refine X.thenN ?_
  refine Y.seq ?_
  refine Y.lit (by kernel_rfl) ?_
  refine Y.pval F (X.w0 rfl) rfl (X.move rfl (F.ev 4 (.int .i64 (asksG n (askS l t s))))) ?_
  clear F ac
  intro ac F
  refine Y.pval F (X.w0 rfl) rfl (X.assign rfl (F.ev 58 (.int .i64 (asksG n (askS l t s))))) ?_
  clear F ac
  intro ac F
  refine Y.nil ?_
  replace F : Fr ac 59 [(0, .pointer (some ⟨bp, 0, none⟩)), (1, .int .i64 t), (2, .pointer (some ⟨w.heap.size, 0, none⟩)), (4, .int .i64 (asksG n (askS l t s))), (12, .func (.func 96) #[] #[.pointer (some ⟨bx, 0, none⟩), .pointer (some ⟨bt, 0, none⟩), .pointer (some ⟨bk, 0, none⟩)]), (47, .slice pa n cap), (48, .int .i64 n), (49, .int .i64 n), (50, .bool false)] [{ target := .collected w14.heap.size, args := #[] }] := F.sub _
  refine X.thenN ?_
  refine Y.ret ?_
  exact ret_mark (v := .int .i64 (asksG n (askS l t s))) F hmk (Y.rs1 F rfl (by kernel_rfl)) (fun W2 hW2 => ⟨rfl, hE.step hW2 (.inr (by omega)), hS.only hW2 (by show ¬ _ = _; omega)⟩)
 | true =>
  try rw [h29] at F
  have h29p : ((i : Int) < n) := of_decide_eq_true h29
  refine Y.condT (F.ev 50 (.bool true)) ?_
  refine Y.skip ?_
  refine X.thenN ?_
  refine Y.seq ?_
  refine Y.block ?_
  refine Y.seq ?_
  refine Y.lit (by kernel_rfl) ?_
  obtain rfl : pa = some ⟨bn, 0, none⟩ := hP.hpa (by omega)
  refine Y.pval F (X.w0 rfl) rfl (X.index rfl (F.ev 47 (.slice (some ⟨bn, 0, none⟩) n cap)) (F.ev 49 (.int .i64 i)) (X.idx (k := i) Try.underlying99 (Try.siz104 _) (by omega) (by omega) (addr_add0 _ _))) ?_
  clear F ac
  intro ac F
  replace hC : RCells w28 [(⟨bp, 0, none⟩, .int .i64 gr), (⟨bp, 1, none⟩, .int .i64 hold), (⟨bp, 2, none⟩, .slice na n nc), (⟨bp, 3, none⟩, .slice la m lc), (⟨bp, 4, none⟩, .slice (some ⟨bn, 0, none⟩) n cap), (⟨w.heap.size, 0, none⟩, .pointer (some ⟨bp, 0, none⟩)), (⟨bn, i * 17, none⟩, .int .i64 ((askS l t s) i 0))] := hC.append ((RCells.cons ((hS.cell (k := i * 17 + 0) (by omega)).trans (congrArg some (NV_int (askS l t s) i 0 (by decide)))) (RCells.nil _)))
  replace hC : RCells w28 [(⟨bp, 0, none⟩, .int .i64 gr), (⟨bp, 1, none⟩, .int .i64 hold), (⟨bp, 2, none⟩, .slice na n nc), (⟨bp, 3, none⟩, .slice la m lc), (⟨bp, 4, none⟩, .slice (some ⟨bn, 0, none⟩) n cap), (⟨w.heap.size, 0, none⟩, .pointer (some ⟨bp, 0, none⟩)), (⟨bn, i * 17, none⟩, .int .i64 ((askS l t s) i 0)), (⟨bn, i * 17 + 1, none⟩, .int .i64 ((askS l t s) i 1))] := hC.append ((RCells.cons ((hS.cell (k := i * 17 + 1) (by omega)).trans (congrArg some (NV_int (askS l t s) i 1 (by decide)))) (RCells.nil _)))
  replace hC : RCells w28 [(⟨bp, 0, none⟩, .int .i64 gr), (⟨bp, 1, none⟩, .int .i64 hold), (⟨bp, 2, none⟩, .slice na n nc), (⟨bp, 3, none⟩, .slice la m lc), (⟨bp, 4, none⟩, .slice (some ⟨bn, 0, none⟩) n cap), (⟨w.heap.size, 0, none⟩, .pointer (some ⟨bp, 0, none⟩)), (⟨bn, i * 17, none⟩, .int .i64 ((askS l t s) i 0)), (⟨bn, i * 17 + 1, none⟩, .int .i64 ((askS l t s) i 1)), (⟨bn, i * 17 + 2, none⟩, .int .i64 ((askS l t s) i 2))] := hC.append ((RCells.cons ((hS.cell (k := i * 17 + 2) (by omega)).trans (congrArg some (NV_int (askS l t s) i 2 (by decide)))) (RCells.nil _)))
  replace hC : RCells w28 [(⟨bp, 0, none⟩, .int .i64 gr), (⟨bp, 1, none⟩, .int .i64 hold), (⟨bp, 2, none⟩, .slice na n nc), (⟨bp, 3, none⟩, .slice la m lc), (⟨bp, 4, none⟩, .slice (some ⟨bn, 0, none⟩) n cap), (⟨w.heap.size, 0, none⟩, .pointer (some ⟨bp, 0, none⟩)), (⟨bn, i * 17, none⟩, .int .i64 ((askS l t s) i 0)), (⟨bn, i * 17 + 1, none⟩, .int .i64 ((askS l t s) i 1)), (⟨bn, i * 17 + 2, none⟩, .int .i64 ((askS l t s) i 2)), (⟨bn, i * 17 + 3, none⟩, .int .i64 ((askS l t s) i 3))] := hC.append ((RCells.cons ((hS.cell (k := i * 17 + 3) (by omega)).trans (congrArg some (NV_int (askS l t s) i 3 (by decide)))) (RCells.nil _)))
  replace hC : RCells w28 [(⟨bp, 0, none⟩, .int .i64 gr), (⟨bp, 1, none⟩, .int .i64 hold), (⟨bp, 2, none⟩, .slice na n nc), (⟨bp, 3, none⟩, .slice la m lc), (⟨bp, 4, none⟩, .slice (some ⟨bn, 0, none⟩) n cap), (⟨w.heap.size, 0, none⟩, .pointer (some ⟨bp, 0, none⟩)), (⟨bn, i * 17, none⟩, .int .i64 ((askS l t s) i 0)), (⟨bn, i * 17 + 1, none⟩, .int .i64 ((askS l t s) i 1)), (⟨bn, i * 17 + 2, none⟩, .int .i64 ((askS l t s) i 2)), (⟨bn, i * 17 + 3, none⟩, .int .i64 ((askS l t s) i 3)), (⟨bn, i * 17 + 4, none⟩, .int .i64 ((askS l t s) i 4))] := hC.append ((RCells.cons ((hS.cell (k := i * 17 + 4) (by omega)).trans (congrArg some (NV_int (askS l t s) i 4 (by decide)))) (RCells.nil _)))
  replace hC : RCells w28 [(⟨bp, 0, none⟩, .int .i64 gr), (⟨bp, 1, none⟩, .int .i64 hold), (⟨bp, 2, none⟩, .slice na n nc), (⟨bp, 3, none⟩, .slice la m lc), (⟨bp, 4, none⟩, .slice (some ⟨bn, 0, none⟩) n cap), (⟨w.heap.size, 0, none⟩, .pointer (some ⟨bp, 0, none⟩)), (⟨bn, i * 17, none⟩, .int .i64 ((askS l t s) i 0)), (⟨bn, i * 17 + 1, none⟩, .int .i64 ((askS l t s) i 1)), (⟨bn, i * 17 + 2, none⟩, .int .i64 ((askS l t s) i 2)), (⟨bn, i * 17 + 3, none⟩, .int .i64 ((askS l t s) i 3)), (⟨bn, i * 17 + 4, none⟩, .int .i64 ((askS l t s) i 4)), (⟨bn, i * 17 + 5, none⟩, .int .i64 ((askS l t s) i 5))] := hC.append ((RCells.cons ((hS.cell (k := i * 17 + 5) (by omega)).trans (congrArg some (NV_int (askS l t s) i 5 (by decide)))) (RCells.nil _)))
  replace hC : RCells w28 [(⟨bp, 0, none⟩, .int .i64 gr), (⟨bp, 1, none⟩, .int .i64 hold), (⟨bp, 2, none⟩, .slice na n nc), (⟨bp, 3, none⟩, .slice la m lc), (⟨bp, 4, none⟩, .slice (some ⟨bn, 0, none⟩) n cap), (⟨w.heap.size, 0, none⟩, .pointer (some ⟨bp, 0, none⟩)), (⟨bn, i * 17, none⟩, .int .i64 ((askS l t s) i 0)), (⟨bn, i * 17 + 1, none⟩, .int .i64 ((askS l t s) i 1)), (⟨bn, i * 17 + 2, none⟩, .int .i64 ((askS l t s) i 2)), (⟨bn, i * 17 + 3, none⟩, .int .i64 ((askS l t s) i 3)), (⟨bn, i * 17 + 4, none⟩, .int .i64 ((askS l t s) i 4)), (⟨bn, i * 17 + 5, none⟩, .int .i64 ((askS l t s) i 5)), (⟨bn, i * 17 + 6, none⟩, .int .i64 ((askS l t s) i 6))] := hC.append ((RCells.cons ((hS.cell (k := i * 17 + 6) (by omega)).trans (congrArg some (NV_int (askS l t s) i 6 (by decide)))) (RCells.nil _)))
  replace hC : RCells w28 [(⟨bp, 0, none⟩, .int .i64 gr), (⟨bp, 1, none⟩, .int .i64 hold), (⟨bp, 2, none⟩, .slice na n nc), (⟨bp, 3, none⟩, .slice la m lc), (⟨bp, 4, none⟩, .slice (some ⟨bn, 0, none⟩) n cap), (⟨w.heap.size, 0, none⟩, .pointer (some ⟨bp, 0, none⟩)), (⟨bn, i * 17, none⟩, .int .i64 ((askS l t s) i 0)), (⟨bn, i * 17 + 1, none⟩, .int .i64 ((askS l t s) i 1)), (⟨bn, i * 17 + 2, none⟩, .int .i64 ((askS l t s) i 2)), (⟨bn, i * 17 + 3, none⟩, .int .i64 ((askS l t s) i 3)), (⟨bn, i * 17 + 4, none⟩, .int .i64 ((askS l t s) i 4)), (⟨bn, i * 17 + 5, none⟩, .int .i64 ((askS l t s) i 5)), (⟨bn, i * 17 + 6, none⟩, .int .i64 ((askS l t s) i 6)), (⟨bn, i * 17 + 7, none⟩, .int .i64 ((askS l t s) i 7))] := hC.append ((RCells.cons ((hS.cell (k := i * 17 + 7) (by omega)).trans (congrArg some (NV_int (askS l t s) i 7 (by decide)))) (RCells.nil _)))
  replace hC : RCells w28 [(⟨bp, 0, none⟩, .int .i64 gr), (⟨bp, 1, none⟩, .int .i64 hold), (⟨bp, 2, none⟩, .slice na n nc), (⟨bp, 3, none⟩, .slice la m lc), (⟨bp, 4, none⟩, .slice (some ⟨bn, 0, none⟩) n cap), (⟨w.heap.size, 0, none⟩, .pointer (some ⟨bp, 0, none⟩)), (⟨bn, i * 17, none⟩, .int .i64 ((askS l t s) i 0)), (⟨bn, i * 17 + 1, none⟩, .int .i64 ((askS l t s) i 1)), (⟨bn, i * 17 + 2, none⟩, .int .i64 ((askS l t s) i 2)), (⟨bn, i * 17 + 3, none⟩, .int .i64 ((askS l t s) i 3)), (⟨bn, i * 17 + 4, none⟩, .int .i64 ((askS l t s) i 4)), (⟨bn, i * 17 + 5, none⟩, .int .i64 ((askS l t s) i 5)), (⟨bn, i * 17 + 6, none⟩, .int .i64 ((askS l t s) i 6)), (⟨bn, i * 17 + 7, none⟩, .int .i64 ((askS l t s) i 7)), (⟨bn, i * 17 + 8, none⟩, .int .i64 ((askS l t s) i 8))] := hC.append ((RCells.cons ((hS.cell (k := i * 17 + 8) (by omega)).trans (congrArg some (NV_int (askS l t s) i 8 (by decide)))) (RCells.nil _)))
  replace hC : RCells w28 [(⟨bp, 0, none⟩, .int .i64 gr), (⟨bp, 1, none⟩, .int .i64 hold), (⟨bp, 2, none⟩, .slice na n nc), (⟨bp, 3, none⟩, .slice la m lc), (⟨bp, 4, none⟩, .slice (some ⟨bn, 0, none⟩) n cap), (⟨w.heap.size, 0, none⟩, .pointer (some ⟨bp, 0, none⟩)), (⟨bn, i * 17, none⟩, .int .i64 ((askS l t s) i 0)), (⟨bn, i * 17 + 1, none⟩, .int .i64 ((askS l t s) i 1)), (⟨bn, i * 17 + 2, none⟩, .int .i64 ((askS l t s) i 2)), (⟨bn, i * 17 + 3, none⟩, .int .i64 ((askS l t s) i 3)), (⟨bn, i * 17 + 4, none⟩, .int .i64 ((askS l t s) i 4)), (⟨bn, i * 17 + 5, none⟩, .int .i64 ((askS l t s) i 5)), (⟨bn, i * 17 + 6, none⟩, .int .i64 ((askS l t s) i 6)), (⟨bn, i * 17 + 7, none⟩, .int .i64 ((askS l t s) i 7)), (⟨bn, i * 17 + 8, none⟩, .int .i64 ((askS l t s) i 8)), (⟨bn, i * 17 + 9, none⟩, .int .i64 ((askS l t s) i 9))] := hC.append ((RCells.cons ((hS.cell (k := i * 17 + 9) (by omega)).trans (congrArg some (NV_int (askS l t s) i 9 (by decide)))) (RCells.nil _)))
  replace hC : RCells w28 [(⟨bp, 0, none⟩, .int .i64 gr), (⟨bp, 1, none⟩, .int .i64 hold), (⟨bp, 2, none⟩, .slice na n nc), (⟨bp, 3, none⟩, .slice la m lc), (⟨bp, 4, none⟩, .slice (some ⟨bn, 0, none⟩) n cap), (⟨w.heap.size, 0, none⟩, .pointer (some ⟨bp, 0, none⟩)), (⟨bn, i * 17, none⟩, .int .i64 ((askS l t s) i 0)), (⟨bn, i * 17 + 1, none⟩, .int .i64 ((askS l t s) i 1)), (⟨bn, i * 17 + 2, none⟩, .int .i64 ((askS l t s) i 2)), (⟨bn, i * 17 + 3, none⟩, .int .i64 ((askS l t s) i 3)), (⟨bn, i * 17 + 4, none⟩, .int .i64 ((askS l t s) i 4)), (⟨bn, i * 17 + 5, none⟩, .int .i64 ((askS l t s) i 5)), (⟨bn, i * 17 + 6, none⟩, .int .i64 ((askS l t s) i 6)), (⟨bn, i * 17 + 7, none⟩, .int .i64 ((askS l t s) i 7)), (⟨bn, i * 17 + 8, none⟩, .int .i64 ((askS l t s) i 8)), (⟨bn, i * 17 + 9, none⟩, .int .i64 ((askS l t s) i 9)), (⟨bn, i * 17 + 10, none⟩, .int .i64 ((askS l t s) i 10))] := hC.append ((RCells.cons ((hS.cell (k := i * 17 + 10) (by omega)).trans (congrArg some (NV_int (askS l t s) i 10 (by decide)))) (RCells.nil _)))
  replace hC : RCells w28 [(⟨bp, 0, none⟩, .int .i64 gr), (⟨bp, 1, none⟩, .int .i64 hold), (⟨bp, 2, none⟩, .slice na n nc), (⟨bp, 3, none⟩, .slice la m lc), (⟨bp, 4, none⟩, .slice (some ⟨bn, 0, none⟩) n cap), (⟨w.heap.size, 0, none⟩, .pointer (some ⟨bp, 0, none⟩)), (⟨bn, i * 17, none⟩, .int .i64 ((askS l t s) i 0)), (⟨bn, i * 17 + 1, none⟩, .int .i64 ((askS l t s) i 1)), (⟨bn, i * 17 + 2, none⟩, .int .i64 ((askS l t s) i 2)), (⟨bn, i * 17 + 3, none⟩, .int .i64 ((askS l t s) i 3)), (⟨bn, i * 17 + 4, none⟩, .int .i64 ((askS l t s) i 4)), (⟨bn, i * 17 + 5, none⟩, .int .i64 ((askS l t s) i 5)), (⟨bn, i * 17 + 6, none⟩, .int .i64 ((askS l t s) i 6)), (⟨bn, i * 17 + 7, none⟩, .int .i64 ((askS l t s) i 7)), (⟨bn, i * 17 + 8, none⟩, .int .i64 ((askS l t s) i 8)), (⟨bn, i * 17 + 9, none⟩, .int .i64 ((askS l t s) i 9)), (⟨bn, i * 17 + 10, none⟩, .int .i64 ((askS l t s) i 10)), (⟨bn, i * 17 + 11, none⟩, .int .i64 ((askS l t s) i 11))] := hC.append ((RCells.cons ((hS.cell (k := i * 17 + 11) (by omega)).trans (congrArg some (NV_int (askS l t s) i 11 (by decide)))) (RCells.nil _)))
  replace hC : RCells w28 [(⟨bp, 0, none⟩, .int .i64 gr), (⟨bp, 1, none⟩, .int .i64 hold), (⟨bp, 2, none⟩, .slice na n nc), (⟨bp, 3, none⟩, .slice la m lc), (⟨bp, 4, none⟩, .slice (some ⟨bn, 0, none⟩) n cap), (⟨w.heap.size, 0, none⟩, .pointer (some ⟨bp, 0, none⟩)), (⟨bn, i * 17, none⟩, .int .i64 ((askS l t s) i 0)), (⟨bn, i * 17 + 1, none⟩, .int .i64 ((askS l t s) i 1)), (⟨bn, i * 17 + 2, none⟩, .int .i64 ((askS l t s) i 2)), (⟨bn, i * 17 + 3, none⟩, .int .i64 ((askS l t s) i 3)), (⟨bn, i * 17 + 4, none⟩, .int .i64 ((askS l t s) i 4)), (⟨bn, i * 17 + 5, none⟩, .int .i64 ((askS l t s) i 5)), (⟨bn, i * 17 + 6, none⟩, .int .i64 ((askS l t s) i 6)), (⟨bn, i * 17 + 7, none⟩, .int .i64 ((askS l t s) i 7)), (⟨bn, i * 17 + 8, none⟩, .int .i64 ((askS l t s) i 8)), (⟨bn, i * 17 + 9, none⟩, .int .i64 ((askS l t s) i 9)), (⟨bn, i * 17 + 10, none⟩, .int .i64 ((askS l t s) i 10)), (⟨bn, i * 17 + 11, none⟩, .int .i64 ((askS l t s) i 11)), (⟨bn, i * 17 + 12, none⟩, .int .i64 ((askS l t s) i 12))] := hC.append ((RCells.cons ((hS.cell (k := i * 17 + 12) (by omega)).trans (congrArg some (NV_int (askS l t s) i 12 (by decide)))) (RCells.nil _)))
  replace hC : RCells w28 [(⟨bp, 0, none⟩, .int .i64 gr), (⟨bp, 1, none⟩, .int .i64 hold), (⟨bp, 2, none⟩, .slice na n nc), (⟨bp, 3, none⟩, .slice la m lc), (⟨bp, 4, none⟩, .slice (some ⟨bn, 0, none⟩) n cap), (⟨w.heap.size, 0, none⟩, .pointer (some ⟨bp, 0, none⟩)), (⟨bn, i * 17, none⟩, .int .i64 ((askS l t s) i 0)), (⟨bn, i * 17 + 1, none⟩, .int .i64 ((askS l t s) i 1)), (⟨bn, i * 17 + 2, none⟩, .int .i64 ((askS l t s) i 2)), (⟨bn, i * 17 + 3, none⟩, .int .i64 ((askS l t s) i 3)), (⟨bn, i * 17 + 4, none⟩, .int .i64 ((askS l t s) i 4)), (⟨bn, i * 17 + 5, none⟩, .int .i64 ((askS l t s) i 5)), (⟨bn, i * 17 + 6, none⟩, .int .i64 ((askS l t s) i 6)), (⟨bn, i * 17 + 7, none⟩, .int .i64 ((askS l t s) i 7)), (⟨bn, i * 17 + 8, none⟩, .int .i64 ((askS l t s) i 8)), (⟨bn, i * 17 + 9, none⟩, .int .i64 ((askS l t s) i 9)), (⟨bn, i * 17 + 10, none⟩, .int .i64 ((askS l t s) i 10)), (⟨bn, i * 17 + 11, none⟩, .int .i64 ((askS l t s) i 11)), (⟨bn, i * 17 + 12, none⟩, .int .i64 ((askS l t s) i 12)), (⟨bn, i * 17 + 13, none⟩, .int .i64 ((askS l t s) i 13))] := hC.append ((RCells.cons ((hS.cell (k := i * 17 + 13) (by omega)).trans (congrArg some (NV_int (askS l t s) i 13 (by decide)))) (RCells.nil _)))
  replace hC : RCells w28 [(⟨bp, 0, none⟩, .int .i64 gr), (⟨bp, 1, none⟩, .int .i64 hold), (⟨bp, 2, none⟩, .slice na n nc), (⟨bp, 3, none⟩, .slice la m lc), (⟨bp, 4, none⟩, .slice (some ⟨bn, 0, none⟩) n cap), (⟨w.heap.size, 0, none⟩, .pointer (some ⟨bp, 0, none⟩)), (⟨bn, i * 17, none⟩, .int .i64 ((askS l t s) i 0)), (⟨bn, i * 17 + 1, none⟩, .int .i64 ((askS l t s) i 1)), (⟨bn, i * 17 + 2, none⟩, .int .i64 ((askS l t s) i 2)), (⟨bn, i * 17 + 3, none⟩, .int .i64 ((askS l t s) i 3)), (⟨bn, i * 17 + 4, none⟩, .int .i64 ((askS l t s) i 4)), (⟨bn, i * 17 + 5, none⟩, .int .i64 ((askS l t s) i 5)), (⟨bn, i * 17 + 6, none⟩, .int .i64 ((askS l t s) i 6)), (⟨bn, i * 17 + 7, none⟩, .int .i64 ((askS l t s) i 7)), (⟨bn, i * 17 + 8, none⟩, .int .i64 ((askS l t s) i 8)), (⟨bn, i * 17 + 9, none⟩, .int .i64 ((askS l t s) i 9)), (⟨bn, i * 17 + 10, none⟩, .int .i64 ((askS l t s) i 10)), (⟨bn, i * 17 + 11, none⟩, .int .i64 ((askS l t s) i 11)), (⟨bn, i * 17 + 12, none⟩, .int .i64 ((askS l t s) i 12)), (⟨bn, i * 17 + 13, none⟩, .int .i64 ((askS l t s) i 13)), (⟨bn, i * 17 + 14, none⟩, .int .i64 ((askS l t s) i 14))] := hC.append ((RCells.cons ((hS.cell (k := i * 17 + 14) (by omega)).trans (congrArg some (NV_int (askS l t s) i 14 (by decide)))) (RCells.nil _)))
  replace hC : RCells w28 [(⟨bp, 0, none⟩, .int .i64 gr), (⟨bp, 1, none⟩, .int .i64 hold), (⟨bp, 2, none⟩, .slice na n nc), (⟨bp, 3, none⟩, .slice la m lc), (⟨bp, 4, none⟩, .slice (some ⟨bn, 0, none⟩) n cap), (⟨w.heap.size, 0, none⟩, .pointer (some ⟨bp, 0, none⟩)), (⟨bn, i * 17, none⟩, .int .i64 ((askS l t s) i 0)), (⟨bn, i * 17 + 1, none⟩, .int .i64 ((askS l t s) i 1)), (⟨bn, i * 17 + 2, none⟩, .int .i64 ((askS l t s) i 2)), (⟨bn, i * 17 + 3, none⟩, .int .i64 ((askS l t s) i 3)), (⟨bn, i * 17 + 4, none⟩, .int .i64 ((askS l t s) i 4)), (⟨bn, i * 17 + 5, none⟩, .int .i64 ((askS l t s) i 5)), (⟨bn, i * 17 + 6, none⟩, .int .i64 ((askS l t s) i 6)), (⟨bn, i * 17 + 7, none⟩, .int .i64 ((askS l t s) i 7)), (⟨bn, i * 17 + 8, none⟩, .int .i64 ((askS l t s) i 8)), (⟨bn, i * 17 + 9, none⟩, .int .i64 ((askS l t s) i 9)), (⟨bn, i * 17 + 10, none⟩, .int .i64 ((askS l t s) i 10)), (⟨bn, i * 17 + 11, none⟩, .int .i64 ((askS l t s) i 11)), (⟨bn, i * 17 + 12, none⟩, .int .i64 ((askS l t s) i 12)), (⟨bn, i * 17 + 13, none⟩, .int .i64 ((askS l t s) i 13)), (⟨bn, i * 17 + 14, none⟩, .int .i64 ((askS l t s) i 14)), (⟨bn, i * 17 + 15, none⟩, .int .i64 ((askS l t s) i 15))] := hC.append ((RCells.cons ((hS.cell (k := i * 17 + 15) (by omega)).trans (congrArg some (NV_int (askS l t s) i 15 (by decide)))) (RCells.nil _)))
  replace hC : RCells w28 [(⟨bp, 0, none⟩, .int .i64 gr), (⟨bp, 1, none⟩, .int .i64 hold), (⟨bp, 2, none⟩, .slice na n nc), (⟨bp, 3, none⟩, .slice la m lc), (⟨bp, 4, none⟩, .slice (some ⟨bn, 0, none⟩) n cap), (⟨w.heap.size, 0, none⟩, .pointer (some ⟨bp, 0, none⟩)), (⟨bn, i * 17, none⟩, .int .i64 ((askS l t s) i 0)), (⟨bn, i * 17 + 1, none⟩, .int .i64 ((askS l t s) i 1)), (⟨bn, i * 17 + 2, none⟩, .int .i64 ((askS l t s) i 2)), (⟨bn, i * 17 + 3, none⟩, .int .i64 ((askS l t s) i 3)), (⟨bn, i * 17 + 4, none⟩, .int .i64 ((askS l t s) i 4)), (⟨bn, i * 17 + 5, none⟩, .int .i64 ((askS l t s) i 5)), (⟨bn, i * 17 + 6, none⟩, .int .i64 ((askS l t s) i 6)), (⟨bn, i * 17 + 7, none⟩, .int .i64 ((askS l t s) i 7)), (⟨bn, i * 17 + 8, none⟩, .int .i64 ((askS l t s) i 8)), (⟨bn, i * 17 + 9, none⟩, .int .i64 ((askS l t s) i 9)), (⟨bn, i * 17 + 10, none⟩, .int .i64 ((askS l t s) i 10)), (⟨bn, i * 17 + 11, none⟩, .int .i64 ((askS l t s) i 11)), (⟨bn, i * 17 + 12, none⟩, .int .i64 ((askS l t s) i 12)), (⟨bn, i * 17 + 13, none⟩, .int .i64 ((askS l t s) i 13)), (⟨bn, i * 17 + 14, none⟩, .int .i64 ((askS l t s) i 14)), (⟨bn, i * 17 + 15, none⟩, .int .i64 ((askS l t s) i 15)), (⟨bn, i * 17 + 16, none⟩, .bool (bz ((askS l t s) i 16)))] := hC.append ((RCells.cons ((hS.cell (k := i * 17 + 16) (by omega)).trans (congrArg some (NV_bool (askS l t s) i))) (RCells.nil _)))
  refine Y.pval F (X.w0 rfl) rfl (X.load rfl (F.ev 51 (.pointer (some ⟨bn, i * 17, none⟩))) (X.ldN (Try.agg104 _) (Try.siz104 _) (Y.atz (⟨bn, i * 17, none⟩) (Y.AtFrom.cons (hC.at 6 rfl) (Y.AtFrom.cons (hC.at 7 rfl) (Y.AtFrom.cons (hC.at 8 rfl) (Y.AtFrom.cons (hC.at 9 rfl) (Y.AtFrom.cons (hC.at 10 rfl) (Y.AtFrom.cons (hC.at 11 rfl) (Y.AtFrom.cons (hC.at 12 rfl) (Y.AtFrom.cons (hC.at 13 rfl) (Y.AtFrom.cons (hC.at 14 rfl) (Y.AtFrom.cons (hC.at 15 rfl) (Y.AtFrom.cons (hC.at 16 rfl) (Y.AtFrom.cons (hC.at 17 rfl) (Y.AtFrom.cons (hC.at 18 rfl) (Y.AtFrom.cons (hC.at 19 rfl) (Y.AtFrom.cons (hC.at 20 rfl) (Y.AtFrom.cons (hC.at 21 rfl) (Y.AtFrom.cons (hC.at 22 rfl) (Y.AtFrom.nil _ _ _))))))))))))))))))))) ?_
  clear F ac
  intro ac F
  refine Y.pval F (X.w0 rfl) rfl (Y.al rfl (Try.new104 _)) ?_
  clear F ac
  intro ac F
  refine Y.punit F (X.w0 rfl) rfl (X.store rfl (F.ev 8 (.pointer (some ⟨w28.heap.size, 0, none⟩))) (F.ev 52 (.agg #[.int .i64 ((askS l t s) i 0), .int .i64 ((askS l t s) i 1), .int .i64 ((askS l t s) i 2), .int .i64 ((askS l t s) i 3), .int .i64 ((askS l t s) i 4), .int .i64 ((askS l t s) i 5), .int .i64 ((askS l t s) i 6), .int .i64 ((askS l t s) i 7), .int .i64 ((askS l t s) i 8), .int .i64 ((askS l t s) i 9), .int .i64 ((askS l t s) i 10), .int .i64 ((askS l t s) i 11), .int .i64 ((askS l t s) i 12), .int .i64 ((askS l t s) i 13), .int .i64 ((askS l t s) i 14), .int .i64 ((askS l t s) i 15), .bool (bz ((askS l t s) i 16))])) (Y.stNew [.int .i64 ((askS l t s) i 0), .int .i64 ((askS l t s) i 1), .int .i64 ((askS l t s) i 2), .int .i64 ((askS l t s) i 3), .int .i64 ((askS l t s) i 4), .int .i64 ((askS l t s) i 5), .int .i64 ((askS l t s) i 6), .int .i64 ((askS l t s) i 7), .int .i64 ((askS l t s) i 8), .int .i64 ((askS l t s) i 9), .int .i64 ((askS l t s) i 10), .int .i64 ((askS l t s) i 11), .int .i64 ((askS l t s) i 12), .int .i64 ((askS l t s) i 13), .int .i64 ((askS l t s) i 14), .int .i64 ((askS l t s) i 15), .bool (bz ((askS l t s) i 16))] [.int .i64 0, .int .i64 0, .int .i64 0, .int .i64 0, .int .i64 0, .int .i64 0, .int .i64 0, .int .i64 0, .int .i64 0, .int .i64 0, .int .i64 0, .int .i64 0, .int .i64 0, .int .i64 0, .int .i64 0, .int .i64 0, .bool false] (Try.siz104 _) rfl rfl)) ?_
  clear F ac
  intro ac F
  have hq30 : bn < w28.heap.size := hS.lt
  have hq31 : bp < w28.heap.size := lt_cell (hC.at 0 rfl)
  have hq32 : w.heap.size < w28.heap.size := lt_cell (hC.at 5 rfl)
  have g := Gr.alloc w28 (.cells #[.int .i64 ((askS l t s) i 0), .int .i64 ((askS l t s) i 1), .int .i64 ((askS l t s) i 2), .int .i64 ((askS l t s) i 3), .int .i64 ((askS l t s) i 4), .int .i64 ((askS l t s) i 5), .int .i64 ((askS l t s) i 6), .int .i64 ((askS l t s) i 7), .int .i64 ((askS l t s) i 8), .int .i64 ((askS l t s) i 9), .int .i64 ((askS l t s) i 10), .int .i64 ((askS l t s) i 11), .int .i64 ((askS l t s) i 12), .int .i64 ((askS l t s) i 13), .int .i64 ((askS l t s) i 14), .int .i64 ((askS l t s) i 15), .bool (bz ((askS l t s) i 16))] 104)
  have hb := heap_alloc_new w28 (.cells #[.int .i64 ((askS l t s) i 0), .int .i64 ((askS l t s) i 1), .int .i64 ((askS l t s) i 2), .int .i64 ((askS l t s) i 3), .int .i64 ((askS l t s) i 4), .int .i64 ((askS l t s) i 5), .int .i64 ((askS l t s) i 6), .int .i64 ((askS l t s) i 7), .int .i64 ((askS l t s) i 8), .int .i64 ((askS l t s) i 9), .int .i64 ((askS l t s) i 10), .int .i64 ((askS l t s) i 11), .int .i64 ((askS l t s) i 12), .int .i64 ((askS l t s) i 13), .int .i64 ((askS l t s) i 14), .int .i64 ((askS l t s) i 15), .bool (bz ((askS l t s) i 16))] 104)
  have hbl : w28.heap.size < (w28.alloc (.cells #[.int .i64 ((askS l t s) i 0), .int .i64 ((askS l t s) i 1), .int .i64 ((askS l t s) i 2), .int .i64 ((askS l t s) i 3), .int .i64 ((askS l t s) i 4), .int .i64 ((askS l t s) i 5), .int .i64 ((askS l t s) i 6), .int .i64 ((askS l t s) i 7), .int .i64 ((askS l t s) i 8), .int .i64 ((askS l t s) i 9), .int .i64 ((askS l t s) i 10), .int .i64 ((askS l t s) i 11), .int .i64 ((askS l t s) i 12), .int .i64 ((askS l t s) i 13), .int .i64 ((askS l t s) i 14), .int .i64 ((askS l t s) i 15), .bool (bz ((askS l t s) i 16))] 104)).heap.size := by simp
  have hC2 : RCells (w28.alloc (.cells #[.int .i64 ((askS l t s) i 0), .int .i64 ((askS l t s) i 1), .int .i64 ((askS l t s) i 2), .int .i64 ((askS l t s) i 3), .int .i64 ((askS l t s) i 4), .int .i64 ((askS l t s) i 5), .int .i64 ((askS l t s) i 6), .int .i64 ((askS l t s) i 7), .int .i64 ((askS l t s) i 8), .int .i64 ((askS l t s) i 9), .int .i64 ((askS l t s) i 10), .int .i64 ((askS l t s) i 11), .int .i64 ((askS l t s) i 12), .int .i64 ((askS l t s) i 13), .int .i64 ((askS l t s) i 14), .int .i64 ((askS l t s) i 15), .bool (bz ((askS l t s) i 16))] 104)) [(⟨bp, 0, none⟩, .int .i64 gr), (⟨bp, 1, none⟩, .int .i64 hold), (⟨bp, 2, none⟩, .slice na n nc), (⟨bp, 3, none⟩, .slice la m lc), (⟨bp, 4, none⟩, .slice (some ⟨bn, 0, none⟩) n cap), (⟨w.heap.size, 0, none⟩, .pointer (some ⟨bp, 0, none⟩)), (⟨bn, i * 17, none⟩, .int .i64 ((askS l t s) i 0)), (⟨bn, i * 17 + 1, none⟩, .int .i64 ((askS l t s) i 1)), (⟨bn, i * 17 + 2, none⟩, .int .i64 ((askS l t s) i 2)), (⟨bn, i * 17 + 3, none⟩, .int .i64 ((askS l t s) i 3)), (⟨bn, i * 17 + 4, none⟩, .int .i64 ((askS l t s) i 4)), (⟨bn, i * 17 + 5, none⟩, .int .i64 ((askS l t s) i 5)), (⟨bn, i * 17 + 6, none⟩, .int .i64 ((askS l t s) i 6)), (⟨bn, i * 17 + 7, none⟩, .int .i64 ((askS l t s) i 7)), (⟨bn, i * 17 + 8, none⟩, .int .i64 ((askS l t s) i 8)), (⟨bn, i * 17 + 9, none⟩, .int .i64 ((askS l t s) i 9)), (⟨bn, i * 17 + 10, none⟩, .int .i64 ((askS l t s) i 10)), (⟨bn, i * 17 + 11, none⟩, .int .i64 ((askS l t s) i 11)), (⟨bn, i * 17 + 12, none⟩, .int .i64 ((askS l t s) i 12)), (⟨bn, i * 17 + 13, none⟩, .int .i64 ((askS l t s) i 13)), (⟨bn, i * 17 + 14, none⟩, .int .i64 ((askS l t s) i 14)), (⟨bn, i * 17 + 15, none⟩, .int .i64 ((askS l t s) i 15)), (⟨bn, i * 17 + 16, none⟩, .bool (bz ((askS l t s) i 16))), (⟨w28.heap.size, 0, none⟩, .int .i64 ((askS l t s) i 0)), (⟨w28.heap.size, 1, none⟩, .int .i64 ((askS l t s) i 1)), (⟨w28.heap.size, 2, none⟩, .int .i64 ((askS l t s) i 2)), (⟨w28.heap.size, 3, none⟩, .int .i64 ((askS l t s) i 3)), (⟨w28.heap.size, 4, none⟩, .int .i64 ((askS l t s) i 4)), (⟨w28.heap.size, 5, none⟩, .int .i64 ((askS l t s) i 5)), (⟨w28.heap.size, 6, none⟩, .int .i64 ((askS l t s) i 6)), (⟨w28.heap.size, 7, none⟩, .int .i64 ((askS l t s) i 7)), (⟨w28.heap.size, 8, none⟩, .int .i64 ((askS l t s) i 8)), (⟨w28.heap.size, 9, none⟩, .int .i64 ((askS l t s) i 9)), (⟨w28.heap.size, 10, none⟩, .int .i64 ((askS l t s) i 10)), (⟨w28.heap.size, 11, none⟩, .int .i64 ((askS l t s) i 11)), (⟨w28.heap.size, 12, none⟩, .int .i64 ((askS l t s) i 12)), (⟨w28.heap.size, 13, none⟩, .int .i64 ((askS l t s) i 13)), (⟨w28.heap.size, 14, none⟩, .int .i64 ((askS l t s) i 14)), (⟨w28.heap.size, 15, none⟩, .int .i64 ((askS l t s) i 15)), (⟨w28.heap.size, 16, none⟩, .bool (bz ((askS l t s) i 16)))] := hC.box (b := w28.heap.size) #[.int .i64 ((askS l t s) i 0), .int .i64 ((askS l t s) i 1), .int .i64 ((askS l t s) i 2), .int .i64 ((askS l t s) i 3), .int .i64 ((askS l t s) i 4), .int .i64 ((askS l t s) i 5), .int .i64 ((askS l t s) i 6), .int .i64 ((askS l t s) i 7), .int .i64 ((askS l t s) i 8), .int .i64 ((askS l t s) i 9), .int .i64 ((askS l t s) i 10), .int .i64 ((askS l t s) i 11), .int .i64 ((askS l t s) i 12), .int .i64 ((askS l t s) i 13), .int .i64 ((askS l t s) i 14), .int .i64 ((askS l t s) i 15), .bool (bz ((askS l t s) i 16))] 104 rfl
  generalize w28.alloc (.cells #[.int .i64 ((askS l t s) i 0), .int .i64 ((askS l t s) i 1), .int .i64 ((askS l t s) i 2), .int .i64 ((askS l t s) i 3), .int .i64 ((askS l t s) i 4), .int .i64 ((askS l t s) i 5), .int .i64 ((askS l t s) i 6), .int .i64 ((askS l t s) i 7), .int .i64 ((askS l t s) i 8), .int .i64 ((askS l t s) i 9), .int .i64 ((askS l t s) i 10), .int .i64 ((askS l t s) i 11), .int .i64 ((askS l t s) i 12), .int .i64 ((askS l t s) i 13), .int .i64 ((askS l t s) i 14), .int .i64 ((askS l t s) i 15), .bool (bz ((askS l t s) i 16))] 104) = w33 at *
  replace G := G.trans g
  replace hC := hC2
  clear hC2
  replace hE := hE.thenGr g
  replace hI1 := hI1.thenGr g
  replace hP := hP.gr g
  replace hmk := hmk.gr g
  replace hS := hS.gr g
  clear g hb hbl
  refine Y.nil ?_
  replace F : Fr ac 59 [(0, .pointer (some ⟨bp, 0, none⟩)), (1, .int .i64 t), (2, .pointer (some ⟨w.heap.size, 0, none⟩)), (4, .int .i64 (asksG i (askS l t s))), (8, .pointer (some ⟨w28.heap.size, 0, none⟩)), (12, .func (.func 96) #[] #[.pointer (some ⟨bx, 0, none⟩), .pointer (some ⟨bt, 0, none⟩), .pointer (some ⟨bk, 0, none⟩)]), (47, .slice (some ⟨bn, 0, none⟩) n cap), (48, .int .i64 n), (49, .int .i64 i), (50, .bool true)] [{ target := .collected w14.heap.size, args := #[] }] := F.sub _
  refine X.thenN ?_
  refine Y.lit (by kernel_rfl) ?_
  refine Y.pval F (X.w0 rfl) rfl (X.move rfl (F.ev 4 (.int .i64 (asksG i (askS l t s))))) ?_
  clear F ac
  intro ac F
  refine Y.pval F (X.w0 rfl) rfl (X.field rfl (F.ev 8 (.pointer (some ⟨w28.heap.size, 0, none⟩))) (X.fld Try.underlying104 rfl (Try.siz3 _) rfl rfl)) ?_
  clear F ac
  intro ac F
  refine Y.pval F (X.w0 rfl) rfl (X.load rfl (F.ev 54 (.pointer (some ⟨w28.heap.size, 5, none⟩))) (X.ld1 (Try.agg3 _) (hC.at 28 rfl))) ?_
  clear F ac
  intro ac F
  refine Y.pval F (X.w0 rfl) rfl (X.binop rfl (F.ev 53 (.int .i64 (asksG i (askS l t s)))) (F.ev 55 (.int .i64 ((askS l t s) i 5))) (X.orI Try.underlying3 rfl)) ?_
  clear F ac
  intro ac F
  refine Y.pval F (X.w0 rfl) rfl (X.assign rfl (F.ev 56 (.int .i64 (orV (asksG i (askS l t s) : Int) ((askS l t s) i 5 : Int))))) ?_
  clear F ac
  intro ac F
  refine Y.nil ?_
  replace F : Fr ac 59 [(0, .pointer (some ⟨bp, 0, none⟩)), (1, .int .i64 t), (2, .pointer (some ⟨w.heap.size, 0, none⟩)), (4, .int .i64 (orV (asksG i (askS l t s) : Int) ((askS l t s) i 5 : Int))), (8, .pointer (some ⟨w28.heap.size, 0, none⟩)), (12, .func (.func 96) #[] #[.pointer (some ⟨bx, 0, none⟩), .pointer (some ⟨bt, 0, none⟩), .pointer (some ⟨bk, 0, none⟩)]), (47, .slice (some ⟨bn, 0, none⟩) n cap), (48, .int .i64 n), (49, .int .i64 i), (50, .bool true)] [{ target := .collected w14.heap.size, args := #[] }] := F.sub _
  refine X.blockN ?_
  refine X.thenN ?_
  refine Y.lit (by kernel_rfl) ?_
  refine Y.pval F (X.w0 rfl) rfl (X.binop rfl (F.ev 49 (.int .i64 i)) (X.kc (.int .i64 1) rfl) (X.addI Try.underlying3 rfl (by omega) (by omega))) ?_
  clear F ac
  intro ac F
  refine Y.pval F (X.w0 rfl) rfl (X.move rfl (F.ev 57 (.int .i64 ((i : Int) + 1)))) ?_
  clear F ac
  intro ac F
  refine Y.nil ?_
  replace F : Fr ac 59 [(0, .pointer (some ⟨bp, 0, none⟩)), (1, .int .i64 t), (2, .pointer (some ⟨w.heap.size, 0, none⟩)), (4, .int .i64 (orV (asksG i (askS l t s) : Int) ((askS l t s) i 5 : Int))), (8, .pointer (some ⟨w28.heap.size, 0, none⟩)), (12, .func (.func 96) #[] #[.pointer (some ⟨bx, 0, none⟩), .pointer (some ⟨bt, 0, none⟩), .pointer (some ⟨bk, 0, none⟩)]), (47, .slice (some ⟨bn, 0, none⟩) n cap), (48, .int .i64 n), (49, .int .i64 ((i : Int) + 1)), (50, .bool true)] [{ target := .collected w14.heap.size, args := #[] }] := F.sub _
  refine X.thenN ?_
  refine ⟨_, ?_, i + 1, rfl, by omega, hI1, hS, F.sub _⟩
  omega
end Go.Proofs.Ytoalamakhjbedaa
