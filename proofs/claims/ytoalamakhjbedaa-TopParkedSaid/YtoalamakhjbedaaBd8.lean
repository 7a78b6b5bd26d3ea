/- Several texts of this claim in one file. (1) Contract: the asks of a tick. (2) Contract: the noise of a tick. -/
import Derived.Test.YtoalamakhjbedaaBd2
namespace Go.Proofs.Ytoalamakhjbedaa
set_option linter.unusedSimpArgs false
set_option linter.unusedVariables false
section
open Go.RowKit

set_option maxRecDepth 100000 in
set_option maxHeartbeats 1000000 in
theorem ask_any (wB w : World) (bp bn : Nat) (gr hold : Int) (na la pa : Option Addr) (n nc m lc cap : Nat) (l : List (List Int)) (s : PS) (t : Int) (hP : PlE wB w bp bn gr hold na la pa n nc m lc cap l) (hS : OwnP w bn (n * 17) (NV s)) (h16 : n ≤ 16) (hn : ∃ nd : List (List Int), ∃ tt : Int, nd.length = n ∧ gr ≤ 8 ∧ ∀ x ∈ l, NuOk gr nd tt x) :
  Calls Try.prog 70 #[Vp bp, Vi t] w fun e w' => e = .returned (Vi (asksG n (askS l t s))) ∧ Only (fun b => b = bn) w w' ∧ OwnP w' bn (n * 17) (NV (askS l t s)) := by
 have G := Gr.refl w
 have hE := Only.refl (fun b => b = bn) w
 have hC := hP.p
 have hpb := hP.pb
 have hnb := hP.nb
 have hgb := hP.g.size
 have hpe := hP.ne
 have hplt := hP.lt
 have hnlt := hS.lt
 obtain ⟨nd, tt, hndl, hg8, hnu⟩ := hn
 refine Y.calls 59 Try.func70 rfl rfl ?_
 intro ac F0
 have F : Fr ac 59 [(0, Vp bp), (1, Vi t)] := F0.sub _
 clear F0
 refine Y.seq ?_
 refine Y.lit (by kernel_rfl) ?_
 refine Y.pv F (X.box rfl (F.e 0 rfl) (Y.bx1 rfl)) ?_;clear F ac;intro ac F
 have hq3 : bn < w.heap.size := hS.lt
 have hq4 : bp < w.heap.size := lt_cell (hC.at 0 rfl)
 have g := Gr.alloc w (.cells #[Vp bp] 60)
 have hb := heap_alloc_new w (.cells #[Vp bp] 60)
 have hbl : w.heap.size < (w.alloc (.cells #[Vp bp] 60)).heap.size := by simp
 have hC2 : RCells (w.alloc (.cells #[Vp bp] 60)) [(Ad bp 0, Vi gr), (Ad bp 1, Vi hold), (Ad bp 2, .slice na n nc), (Ad bp 3, .slice la m lc), (Ad bp 4, .slice pa n cap), (Ad w.heap.size 0, Vp bp)] := hC.box (b := w.heap.size) #[Vp bp] 60 rfl
 generalize w.alloc (.cells #[Vp bp] 60) = w5 at *
 replace G := G.trans g
 replace hC := hC2
 clear hC2
 replace hE := hE.thenGr g
 replace hP := hP.gr g
 replace hS := hS.gr g
 clear g hb hbl
 refine Y.pv F (X.assign rfl (X.kc (Vi 0) rfl)) ?_;clear F ac;intro ac F
 refine Y.nil ?_
 replace F : Fr ac 59 [(0, Vp bp), (1, Vi t), (2, Vp w.heap.size), (4, Vi 0)] := F.sub _
 refine X.thenN ?_
 refine Y.seq ?_
 refine Y.seq ?_
 refine Y.lit (by kernel_rfl) ?_
 refine Y.pv F (X.load rfl (F.e 2 rfl) (X.ld1 (Try.agg60 _) (hC.at 5 rfl))) ?_;clear F ac;intro ac F
 refine Y.pv F (X.move rfl (F.e 1 rfl)) ?_;clear F ac;intro ac F
 refine Y.pv F (X.bs rfl (X.b2 (X.kc (Vi 1) rfl) (X.kc (Vi 2) rfl)) (Try.bs34_2 1 2 _)) ?_;clear F ac;intro ac F
 have hq6 : bn < w5.heap.size := hS.lt
 have hq7 : bp < w5.heap.size := lt_cell (hC.at 0 rfl)
 have hq8 : w.heap.size < w5.heap.size := lt_cell (hC.at 5 rfl)
 have g := Gr.alloc w5 (.cells #[Vi 1, Vi 2] 3)
 have hb := heap_alloc_new w5 (.cells #[Vi 1, Vi 2] 3)
 have hbl : w5.heap.size < (w5.alloc (.cells #[Vi 1, Vi 2] 3)).heap.size := by simp
 have hC2 : RCells (w5.alloc (.cells #[Vi 1, Vi 2] 3)) [(Ad bp 0, Vi gr), (Ad bp 1, Vi hold), (Ad bp 2, .slice na n nc), (Ad bp 3, .slice la m lc), (Ad bp 4, .slice pa n cap), (Ad w.heap.size 0, Vp bp), (Ad w5.heap.size 0, Vi 1), (Ad w5.heap.size 1, Vi 2)] := hC.box (b := w5.heap.size) #[Vi 1, Vi 2] 3 rfl
 generalize w5.alloc (.cells #[Vi 1, Vi 2] 3) = w9 at *
 replace G := G.trans g
 replace hC := hC2
 clear hC2
 replace hE := hE.thenGr g
 replace hP := hP.gr g
 replace hS := hS.gr g
 have hks := (ints_two (hC.at 6 rfl) (hC.at 7 rfl) : Ints w9 (some ⟨w5.heap.size, 0, none⟩) 2 [1, 2])
 clear g hb hbl
 refine Y.pcall F (X.w0 rfl) rfl (X.enter (F := 84) rfl (X.kc (.func (.func 84) #[] #[]) rfl) (X.a3 (F.e 9 rfl) (F.e 10 rfl) (F.e 11 rfl)) (enters_of Try.func84 (by kernel_rfl) rfl _)) (at_any bp t (some ⟨w5.heap.size, 0, none⟩) 2 2 w9) ?_
 have hq10 : bn < w9.heap.size := hS.lt
 have hq11 : bp < w9.heap.size := lt_cell (hC.at 0 rfl)
 have hq12 : w.heap.size < w9.heap.size := lt_cell (hC.at 5 rfl)
 have hq13 : w5.heap.size < w9.heap.size := lt_cell (hC.at 6 rfl)
 clear F ac
 rintro e w14 ⟨bx, bt, bk, rfl, cx, ct, ck, hb1, ⟨hb2, hb3⟩, g⟩
 refine ⟨_, rfl, ?_⟩
 intro ac F
 replace G := G.trans g
 replace hC := hC.gr g
 replace hE := hE.thenGr g
 replace hP := hP.gr g
 replace hS := hS.gr g
 replace hks := hks.gr g
 clear g
 replace hC : RCells w14 [(Ad bp 0, Vi gr), (Ad bp 1, Vi hold), (Ad bp 2, .slice na n nc), (Ad bp 3, .slice la m lc), (Ad bp 4, .slice pa n cap), (Ad w.heap.size 0, Vp bp), (Ad w5.heap.size 0, Vi 1), (Ad w5.heap.size 1, Vi 2), (Ad bx 0, Vp bp), (Ad bt 0, Vi t), (Ad bk 0, .slice (some ⟨w5.heap.size, 0, none⟩) 2 2)] := hC.append ((RCells.cons cx (RCells.cons ct (RCells.cons ck (RCells.nil _)))))
 refine Y.nil ?_
 replace F : Fr ac 59 [(0, Vp bp), (1, Vi t), (2, Vp w.heap.size), (4, Vi 0), (12, .func (.func 96) #[] #[Vp bx, Vp bt, Vp bk])] := F.sub _
 refine X.thenN ?_
 refine Y.block ?_
 replace F : Fr ac 59 [(0, Vp bp), (1, Vi t), (2, Vp w.heap.size), (4, Vi 0), (12, .func (.func 96) #[] #[Vp bx, Vp bt, Vp bk])] := F.sub _
 have hq15 : bn < w14.heap.size := hS.lt
 have hq16 : bk < w14.heap.size := lt_cell (hC.at 10 rfl)
 have hq17 : bp < w14.heap.size := lt_cell (hC.at 0 rfl)
 have hq18 : bt < w14.heap.size := lt_cell (hC.at 9 rfl)
 have hq19 : bx < w14.heap.size := lt_cell (hC.at 8 rfl)
 have hq20 : w.heap.size < w14.heap.size := lt_cell (hC.at 5 rfl)
 have hq21 : w5.heap.size < w14.heap.size := lt_cell (hC.at 6 rfl)
 have hPb := hP.pb
 have hPn := hP.nb
 have hPe := hP.ne
 have hgB := hP.g.size
 have hmut : bn < w14.heap.size := hS.lt
 have hkb : w5.heap.size < w14.heap.size := lt_cell (hC.at 6 rfl)
 refine Y.atRange (D := []) F (by decide) (by decide) rfl rfl rfl rfl rfl rfl rfl (F.ev 12 _) (fun b => b = bn) (fun b e => by rw [e]; exact hmut) (hP.ate (hC.at 8 rfl) (hC.at 9 rfl) (hC.at 10 rfl) hks hkb (fun b e => by subst e; exact ⟨by omega, by omega, by omega, by omega, by omega, by omega⟩)) (fun xs W => OwnP W bn (n * 17) (NV (xs.foldl askX s))) hS (fun xs W W2 h g => h.only g (by omega)) ?_ ?_
 ·have hP_r := hP
  have hC_r := hC
  clear F ac G hP hC hE
  clear hS
  intro pre x w22 ac xb hQ hS hpre hx4 hxb hN F
  have hP := hP_r.on hQ
  have hC : RCells w22 [(Ad bp 0, Vi gr), (Ad bp 1, Vi hold), (Ad bp 2, .slice na n nc), (Ad bp 3, .slice la m lc), (Ad bp 4, .slice pa n cap), (Ad w.heap.size 0, Vp bp), (Ad xb 0, Vi (nv x 0)), (Ad xb 1, Vi (nv x 1)), (Ad xb 2, Vi (nv x 2)), (Ad xb 3, Vi (nv x 3))] := (hC_r.kc hQ 0 rfl (hC_r.kc hQ 1 rfl (hC_r.kc hQ 2 rfl (hC_r.kc hQ 3 rfl (hC_r.kc hQ 4 rfl (hC_r.kc hQ 5 rfl hN))))))
  have G := Gr.refl w22
  have hR_ := Only.refl (fun b => b = bn) w22
  replace F : Fr ac 59 [(0, Vp bp), (1, Vi t), (2, Vp w.heap.size), (4, Vi 0), (5, Vp xb), (12, .func (.func 96) #[] #[Vp bx, Vp bt, Vp bk]), (13, .agg #[Vi (nv x 0), Vi (nv x 1), Vi (nv x 2), Vi (nv x 3)])] := F.sub _
  have hnx := hnu x (mem_pre hpre)
  have hxn := hnx.n0
  have hxn1 := hnx.n1
  have hpk := pick_pre hpre
  have hxa := hnx.ask (by simpa [pickB] using hpk.2)
  have hx30 := hxa.1
  have hx31 := hxa.2.1
  refine Y.block ?_
  refine Y.seq ?_
  obtain rfl : pa = some ⟨bn, 0, none⟩ := hP.hpa (by omega)
  refine Y.region F [some (Vp bp), some (Vp bp), some (.pointer (some ⟨bp, 4, none⟩)), some (.slice (some ⟨bn, 0, none⟩) n cap), some (.pointer (some ⟨xb, 2, none⟩)), some (Vi (nv x 2)), some (.pointer (some ⟨bn, ((nv x 2).toNat) * 17, none⟩)), some (.pointer (some ⟨bn, ((nv x 2).toNat) * 17, none⟩))] [] rfl ⟨by kernel_rfl, of_decide_eq_true (by kernel_rfl), by kernel_rfl, by kernel_rfl, by kernel_rfl⟩ ⟨?_, ?_, ?_, ?_, ?_, ?_, ?_, ?_, trivial⟩ ?_
  ·intro ac done u W Sx hR
   have g : Gr w22 W := hR.1
   exact X.vl (X.load rfl (Sx.ev 2 (Vp w.heap.size)) (X.ld1 (Try.agg60 _) ((hC.gr g).at 5 rfl))) hR.st0
  ·intro ac done u W Sx hR
   exact X.vl (Y.nilC rfl (Sx.ev 14 (Vp bp))) hR.st0
  ·intro ac done u W Sx hR
   exact X.vl (X.field rfl (Sx.ev 15 (Vp bp)) (X.fld Try.underlying101 rfl (Try.siz99 _) rfl rfl)) hR.st0
  ·intro ac done u W Sx hR
   have g : Gr w22 W := hR.1
   exact X.vl (X.load rfl (Sx.ev 16 (.pointer (some ⟨bp, 4, none⟩))) (X.ld1 (Try.agg99 _) ((hC.gr g).at 4 rfl))) hR.st0
  ·intro ac done u W Sx hR
   exact X.vl (X.field rfl (Sx.ev 5 (Vp xb)) (X.fld Try.underlying33 rfl (Try.siz3 _) rfl rfl)) hR.st0
  ·intro ac done u W Sx hR
   have g : Gr w22 W := hR.1
   exact X.vl (X.load rfl (Sx.ev 18 (.pointer (some ⟨xb, 2, none⟩))) (X.ld1 (Try.agg3 _) ((hC.gr g).at 8 rfl))) hR.st0
  ·intro ac done u W Sx hR
   exact X.vl (X.index rfl (Sx.ev 17 (.slice (some ⟨bn, 0, none⟩) n cap)) (Sx.ev 19 (Vi (nv x 2))) (X.idx (k := (nv x 2).toNat) Try.underlying99 (Try.siz104 _) (by omega) (by omega) (addr_add0 _ _))) hR.st0
  ·intro ac done u W Sx hR
   exact X.vl (X.assign rfl (Sx.ev 20 (.pointer (some ⟨bn, ((nv x 2).toNat) * 17, none⟩)))) hR.st0
  intro ac u w23 hs hd hl ho hR
  have g : Gr w22 w23 := hR.1
  replace F : Fr ac 59 [(0, Vp bp), (1, Vi t), (2, Vp w.heap.size), (4, Vi 0), (5, Vp xb), (6, .pointer (some ⟨bn, ((nv x 2).toNat) * 17, none⟩)), (12, .func (.func 96) #[] #[Vp bx, Vp bt, Vp bk]), (13, .agg #[Vi (nv x 0), Vi (nv x 1), Vi (nv x 2), Vi (nv x 3)])] := X.fr hs hd hl _ (by kernel_rfl)
  clear hs hd hl ho hR
  replace G := G.trans g
  replace hC := hC.gr g
  replace hQ := hQ.thenGr g
  replace hR_ := hR_.thenGr g
  replace hP := hP.gr g
  replace hS := hS.gr g
  clear g
  refine X.thenN ?_
  refine Y.seq ?_
  replace hC : RCells w23 [(Ad bp 0, Vi gr), (Ad bp 1, Vi hold), (Ad bp 2, .slice na n nc), (Ad bp 3, .slice la m lc), (Ad bp 4, .slice (some ⟨bn, 0, none⟩) n cap), (Ad w.heap.size 0, Vp bp), (Ad xb 0, Vi (nv x 0)), (Ad xb 1, Vi (nv x 1)), (Ad xb 2, Vi (nv x 2)), (Ad xb 3, Vi (nv x 3)), (⟨bn, ((nv x 2).toNat) * 17 + 5, none⟩, Vi ((pre.foldl askX s) ((nv x 2).toNat) 5))] := hC.append ((RCells.cons ((hS.cell (k := ((nv x 2).toNat) * 17 + 5) (by omega)).trans (congrArg some (NV_int (pre.foldl askX s) ((nv x 2).toNat) 5 (by decide)))) (RCells.nil _)))
  refine Y.regionS F [some (.pointer (some ⟨bn, ((nv x 2).toNat) * 17, none⟩)), some (.pointer (some ⟨bn, ((nv x 2).toNat) * 17, none⟩)), some (.pointer (some ⟨bn, ((nv x 2).toNat) * 17 + 5, none⟩)), some (Vi ((pre.foldl askX s) ((nv x 2).toNat) 5)), some (.pointer (some ⟨xb, 3, none⟩)), some (Vi (nv x 3)), some (Vi (shlV 1 (nv x 3 : Int))), some (Vi (orV ((pre.foldl askX s) ((nv x 2).toNat) 5 : Int) (shlV 1 (nv x 3 : Int) : Int))), some (.pointer (some ⟨bn, ((nv x 2).toNat) * 17, none⟩)), some (.pointer (some ⟨bn, ((nv x 2).toNat) * 17 + 5, none⟩)), none] [] 10 (fun _ W => Only (fun x => x = bn) w23 W ∧ OwnP W bn (n * 17) (NV (up (pre.foldl askX s) ((nv x 2).toNat) 5 (orV ((pre.foldl askX s) ((nv x 2).toNat) 5 : Int) (shlV 1 (nv x 3 : Int) : Int) : Int)))) rfl ⟨by kernel_rfl, of_decide_eq_true (by kernel_rfl), by kernel_rfl, by kernel_rfl, by kernel_rfl⟩ (of_decide_eq_true (by kernel_rfl)) ⟨?_, ?_, ?_, ?_, ?_, ?_, ?_, ?_, ?_, ?_, ?_, trivial⟩ ?_
  ·intro ac done u W Sx hT
   have hs := Sx.no 10 (by kernel_rfl)
   have hR := hT.1 hs
   exact X.vl (X.move rfl (Sx.ev 6 (.pointer (some ⟨bn, ((nv x 2).toNat) * 17, none⟩)))) (Y.RT.of hs rfl hR.st0)
  ·intro ac done u W Sx hT
   have hs := Sx.no 10 (by kernel_rfl)
   have hR := hT.1 hs
   exact X.vl (Y.nilC rfl (Sx.ev 21 (.pointer (some ⟨bn, ((nv x 2).toNat) * 17, none⟩)))) (Y.RT.of hs rfl hR.st0)
  ·intro ac done u W Sx hT
   have hs := Sx.no 10 (by kernel_rfl)
   have hR := hT.1 hs
   exact X.vl (X.field rfl (Sx.ev 22 (.pointer (some ⟨bn, ((nv x 2).toNat) * 17, none⟩))) (X.fld Try.underlying104 rfl (Try.siz3 _) rfl rfl)) (Y.RT.of hs rfl hR.st0)
  ·intro ac done u W Sx hT
   have hs := Sx.no 10 (by kernel_rfl)
   have hR := hT.1 hs
   have g : Gr w23 W := hR.1
   exact X.vl (X.load rfl (Sx.ev 23 (.pointer (some ⟨bn, ((nv x 2).toNat) * 17 + 5, none⟩))) (X.ld1 (Try.agg3 _) ((hC.gr g).at 10 rfl))) (Y.RT.of hs rfl hR.st0)
  ·intro ac done u W Sx hT
   have hs := Sx.no 10 (by kernel_rfl)
   have hR := hT.1 hs
   exact X.vl (X.field rfl (Sx.ev 5 (Vp xb)) (X.fld Try.underlying33 rfl (Try.siz3 _) rfl rfl)) (Y.RT.of hs rfl hR.st0)
  ·intro ac done u W Sx hT
   have hs := Sx.no 10 (by kernel_rfl)
   have hR := hT.1 hs
   have g : Gr w23 W := hR.1
   exact X.vl (X.load rfl (Sx.ev 25 (.pointer (some ⟨xb, 3, none⟩))) (X.ld1 (Try.agg3 _) ((hC.gr g).at 9 rfl))) (Y.RT.of hs rfl hR.st0)
  ·intro ac done u W Sx hT
   have hs := Sx.no 10 (by kernel_rfl)
   have hR := hT.1 hs
   exact X.vl (X.binop rfl (X.kc (Vi 1) rfl) (Sx.ev 26 (Vi (nv x 3))) (X.shlI Try.underlying3 rfl (by omega))) (Y.RT.of hs rfl hR.st0)
  ·intro ac done u W Sx hT
   have hs := Sx.no 10 (by kernel_rfl)
   have hR := hT.1 hs
   exact X.vl (X.binop rfl (Sx.ev 24 (Vi ((pre.foldl askX s) ((nv x 2).toNat) 5))) (Sx.ev 27 (Vi (shlV 1 (nv x 3 : Int)))) (X.orI Try.underlying3 rfl)) (Y.RT.of hs rfl hR.st0)
  ·intro ac done u W Sx hT
   have hs := Sx.no 10 (by kernel_rfl)
   have hR := hT.1 hs
   exact X.vl (Y.nilC rfl (Sx.ev 21 (.pointer (some ⟨bn, ((nv x 2).toNat) * 17, none⟩)))) (Y.RT.of hs rfl hR.st0)
  ·intro ac done u W Sx hT
   have hs := Sx.no 10 (by kernel_rfl)
   have hR := hT.1 hs
   exact X.vl (X.field rfl (Sx.ev 29 (.pointer (some ⟨bn, ((nv x 2).toNat) * 17, none⟩))) (X.fld Try.underlying104 rfl (Try.siz3 _) rfl rfl)) (Y.RT.of hs rfl hR.st0)
  ·intro ac done u W Sx hT
   have hR := hT.1 Sx.nd
   have g : Gr w23 W := hR.1
   have hS2 := (hS.gr g).set (k := ((nv x 2).toNat) * 17 + 5) (Vi (orV ((pre.foldl askX s) ((nv x 2).toNat) 5 : Int) (shlV 1 (nv x 3 : Int) : Int)))
   rw [NV_up _ _ _ (by decide)] at hS2
   exact X.unit (X.w0 rfl) rfl (X.store rfl (Sx.ev 30 (.pointer (some ⟨bn, ((nv x 2).toNat) * 17 + 5, none⟩))) (Sx.ev 28 (Vi (orV ((pre.foldl askX s) ((nv x 2).toNat) 5 : Int) (shlV 1 (nv x 3 : Int) : Int)))) ((hS.gr g).st1 (Try.siz3 _) rfl rfl (by omega))) (Y.RT.fin ⟨(g.only _).trans (Y.set_only _ _ _ _), hS2⟩)
  rintro ac u w24 hs hd hl_ ho ⟨hon, hS2⟩
  replace F : Fr ac 59 [(0, Vp bp), (1, Vi t), (2, Vp w.heap.size), (4, Vi 0), (5, Vp xb), (6, .pointer (some ⟨bn, ((nv x 2).toNat) * 17, none⟩)), (12, .func (.func 96) #[] #[Vp bx, Vp bt, Vp bk]), (13, .agg #[Vi (nv x 0), Vi (nv x 1), Vi (nv x 2), Vi (nv x 3)])] := X.fr hs hd hl_ _ (by kernel_rfl)
  clear hs hd hl_ ho
  replace hP := hP.on hon
  replace hC := (hC.kc hon 0 rfl (hC.kc hon 1 rfl (hC.kc hon 2 rfl (hC.kc hon 3 rfl (hC.kc hon 4 rfl (hC.kc hon 5 rfl (hC.kc hon 6 rfl (hC.kc hon 7 rfl (hC.kc hon 8 rfl (hC.kc hon 9 rfl (RCells.nil _)))))))))))
  replace hQ := hQ.step hon (.inl rfl)
  replace hR_ := hR_.step hon (.inl rfl)
  replace G := Gr.refl w24
  replace hS : OwnP w24 bn (n * 17) (NV (up (pre.foldl askX s) ((nv x 2).toNat) 5 (orV ((pre.foldl askX s) ((nv x 2).toNat) 5 : Int) (shlV 1 (nv x 3 : Int) : Int) : Int))) := hS2
  clear hS2 hon
  refine X.thenN ?_
  refine Y.seq ?_
  refine Y.lit (by kernel_rfl) ?_
  refine Y.pv F (X.field rfl (F.e 5 rfl) (X.fld Try.underlying33 rfl (Try.siz3 _) rfl rfl)) ?_;clear F ac;intro ac F
  refine Y.pv F (X.load rfl (F.e 31 rfl) (X.ld1 (Try.agg3 _) (hC.at 7 rfl))) ?_;clear F ac;intro ac F
  refine Y.pv F (X.binop rfl (F.e 32 rfl) (X.kc (Vi 2) rfl) (X.eqlI Try.underlying3 rfl)) ?_;clear F ac;intro ac F
  refine Y.nil ?_
  replace F : Fr ac 59 [(0, Vp bp), (1, Vi t), (2, Vp w.heap.size), (4, Vi 0), (5, Vp xb), (6, .pointer (some ⟨bn, ((nv x 2).toNat) * 17, none⟩)), (12, .func (.func 96) #[] #[Vp bx, Vp bt, Vp bk]), (13, .agg #[Vi (nv x 0), Vi (nv x 1), Vi (nv x 2), Vi (nv x 3)]), (33, .bool ((nv x 1 : Int) == 2))] := F.sub _
  refine X.thenN ?_
  cases h25 : ((nv x 1 : Int) == 2) with
  | false =>
   try rw [h25] at F
   have h25p : ¬ (nv x 1 : Int) = 2 := by simpa using h25
   refine Y.condF (F.e 33 rfl) ?_
   refine Y.skip ?_
   refine X.blockN ?_
   exact ⟨hR_, hQ, by rw [List.foldl_append]; exact (by show OwnP _ _ _ (NV (askX _ x)); unfold askX; rw [if_neg (by simpa using h25)]; exact hS)⟩
  | true =>
   try rw [h25] at F
   have h25p : (nv x 1 : Int) = 2 := by simpa using h25
   refine Y.condT (F.e 33 rfl) ?_
   replace hC : RCells w24 [(Ad bp 0, Vi gr), (Ad bp 1, Vi hold), (Ad bp 2, .slice na n nc), (Ad bp 3, .slice la m lc), (Ad bp 4, .slice (some ⟨bn, 0, none⟩) n cap), (Ad w.heap.size 0, Vp bp), (Ad xb 0, Vi (nv x 0)), (Ad xb 1, Vi (nv x 1)), (Ad xb 2, Vi (nv x 2)), (Ad xb 3, Vi (nv x 3)), (⟨bn, ((nv x 2).toNat) * 17 + 5, none⟩, Vi ((up (pre.foldl askX s) ((nv x 2).toNat) 5 (orV ((pre.foldl askX s) ((nv x 2).toNat) 5 : Int) (shlV 1 (nv x 3 : Int) : Int) : Int)) ((nv x 2).toNat) 5))] := hC.append ((RCells.cons ((hS.cell (k := ((nv x 2).toNat) * 17 + 5) (by omega)).trans (congrArg some (NV_int (up (pre.foldl askX s) ((nv x 2).toNat) 5 (orV ((pre.foldl askX s) ((nv x 2).toNat) 5 : Int) (shlV 1 (nv x 3 : Int) : Int) : Int)) ((nv x 2).toNat) 5 (by decide)))) (RCells.nil _)))
   refine Y.regionS F [some (.pointer (some ⟨bn, ((nv x 2).toNat) * 17, none⟩)), some (.pointer (some ⟨bn, ((nv x 2).toNat) * 17, none⟩)), some (.pointer (some ⟨bn, ((nv x 2).toNat) * 17 + 5, none⟩)), some (Vi ((up (pre.foldl askX s) ((nv x 2).toNat) 5 (orV ((pre.foldl askX s) ((nv x 2).toNat) 5 : Int) (shlV 1 (nv x 3 : Int) : Int) : Int)) ((nv x 2).toNat) 5)), some (.pointer (some ⟨xb, 3, none⟩)), some (Vi (nv x 3)), some (Vi (shlV 1 (nv x 3 : Int))), some (Vi (anotV ((up (pre.foldl askX s) ((nv x 2).toNat) 5 (orV ((pre.foldl askX s) ((nv x 2).toNat) 5 : Int) (shlV 1 (nv x 3 : Int) : Int) : Int)) ((nv x 2).toNat) 5 : Int) (shlV 1 (nv x 3 : Int) : Int))), some (.pointer (some ⟨bn, ((nv x 2).toNat) * 17, none⟩)), some (.pointer (some ⟨bn, ((nv x 2).toNat) * 17 + 5, none⟩)), none] [] 10 (fun _ W => Only (fun x => x = bn) w24 W ∧ OwnP W bn (n * 17) (NV (up (up (pre.foldl askX s) ((nv x 2).toNat) 5 (orV ((pre.foldl askX s) ((nv x 2).toNat) 5 : Int) (shlV 1 (nv x 3 : Int) : Int) : Int)) ((nv x 2).toNat) 5 (anotV ((up (pre.foldl askX s) ((nv x 2).toNat) 5 (orV ((pre.foldl askX s) ((nv x 2).toNat) 5 : Int) (shlV 1 (nv x 3 : Int) : Int) : Int)) ((nv x 2).toNat) 5 : Int) (shlV 1 (nv x 3 : Int) : Int) : Int)))) rfl ⟨by kernel_rfl, of_decide_eq_true (by kernel_rfl), by kernel_rfl, by kernel_rfl, by kernel_rfl⟩ (of_decide_eq_true (by kernel_rfl)) ⟨?_, ?_, ?_, ?_, ?_, ?_, ?_, ?_, ?_, ?_, ?_, trivial⟩ ?_
   ·intro ac done u W Sx hT
    have hs := Sx.no 10 (by kernel_rfl)
    have hR := hT.1 hs
    exact X.vl (X.move rfl (Sx.ev 6 (.pointer (some ⟨bn, ((nv x 2).toNat) * 17, none⟩)))) (Y.RT.of hs rfl hR.st0)
   ·intro ac done u W Sx hT
    have hs := Sx.no 10 (by kernel_rfl)
    have hR := hT.1 hs
    exact X.vl (Y.nilC rfl (Sx.ev 34 (.pointer (some ⟨bn, ((nv x 2).toNat) * 17, none⟩)))) (Y.RT.of hs rfl hR.st0)
   ·intro ac done u W Sx hT
    have hs := Sx.no 10 (by kernel_rfl)
    have hR := hT.1 hs
    exact X.vl (X.field rfl (Sx.ev 35 (.pointer (some ⟨bn, ((nv x 2).toNat) * 17, none⟩))) (X.fld Try.underlying104 rfl (Try.siz3 _) rfl rfl)) (Y.RT.of hs rfl hR.st0)
   ·intro ac done u W Sx hT
    have hs := Sx.no 10 (by kernel_rfl)
    have hR := hT.1 hs
    have g : Gr w24 W := hR.1
    exact X.vl (X.load rfl (Sx.ev 36 (.pointer (some ⟨bn, ((nv x 2).toNat) * 17 + 5, none⟩))) (X.ld1 (Try.agg3 _) ((hC.gr g).at 10 rfl))) (Y.RT.of hs rfl hR.st0)
   ·intro ac done u W Sx hT
    have hs := Sx.no 10 (by kernel_rfl)
    have hR := hT.1 hs
    exact X.vl (X.field rfl (Sx.ev 5 (Vp xb)) (X.fld Try.underlying33 rfl (Try.siz3 _) rfl rfl)) (Y.RT.of hs rfl hR.st0)
   ·intro ac done u W Sx hT
    have hs := Sx.no 10 (by kernel_rfl)
    have hR := hT.1 hs
    have g : Gr w24 W := hR.1
    exact X.vl (X.load rfl (Sx.ev 38 (.pointer (some ⟨xb, 3, none⟩))) (X.ld1 (Try.agg3 _) ((hC.gr g).at 9 rfl))) (Y.RT.of hs rfl hR.st0)
   ·intro ac done u W Sx hT
    have hs := Sx.no 10 (by kernel_rfl)
    have hR := hT.1 hs
    exact X.vl (X.binop rfl (X.kc (Vi 1) rfl) (Sx.ev 39 (Vi (nv x 3))) (X.shlI Try.underlying3 rfl (by omega))) (Y.RT.of hs rfl hR.st0)
   ·intro ac done u W Sx hT
    have hs := Sx.no 10 (by kernel_rfl)
    have hR := hT.1 hs
    exact X.vl (X.binop rfl (Sx.ev 37 (Vi ((up (pre.foldl askX s) ((nv x 2).toNat) 5 (orV ((pre.foldl askX s) ((nv x 2).toNat) 5 : Int) (shlV 1 (nv x 3 : Int) : Int) : Int)) ((nv x 2).toNat) 5))) (Sx.ev 40 (Vi (shlV 1 (nv x 3 : Int)))) (X.andNotI Try.underlying3 rfl)) (Y.RT.of hs rfl hR.st0)
   ·intro ac done u W Sx hT
    have hs := Sx.no 10 (by kernel_rfl)
    have hR := hT.1 hs
    exact X.vl (Y.nilC rfl (Sx.ev 34 (.pointer (some ⟨bn, ((nv x 2).toNat) * 17, none⟩)))) (Y.RT.of hs rfl hR.st0)
   ·intro ac done u W Sx hT
    have hs := Sx.no 10 (by kernel_rfl)
    have hR := hT.1 hs
    exact X.vl (X.field rfl (Sx.ev 42 (.pointer (some ⟨bn, ((nv x 2).toNat) * 17, none⟩))) (X.fld Try.underlying104 rfl (Try.siz3 _) rfl rfl)) (Y.RT.of hs rfl hR.st0)
   ·intro ac done u W Sx hT
    have hR := hT.1 Sx.nd
    have g : Gr w24 W := hR.1
    have hS2 := (hS.gr g).set (k := ((nv x 2).toNat) * 17 + 5) (Vi (anotV ((up (pre.foldl askX s) ((nv x 2).toNat) 5 (orV ((pre.foldl askX s) ((nv x 2).toNat) 5 : Int) (shlV 1 (nv x 3 : Int) : Int) : Int)) ((nv x 2).toNat) 5 : Int) (shlV 1 (nv x 3 : Int) : Int)))
    rw [NV_up _ _ _ (by decide)] at hS2
    exact X.unit (X.w0 rfl) rfl (X.store rfl (Sx.ev 43 (.pointer (some ⟨bn, ((nv x 2).toNat) * 17 + 5, none⟩))) (Sx.ev 41 (Vi (anotV ((up (pre.foldl askX s) ((nv x 2).toNat) 5 (orV ((pre.foldl askX s) ((nv x 2).toNat) 5 : Int) (shlV 1 (nv x 3 : Int) : Int) : Int)) ((nv x 2).toNat) 5 : Int) (shlV 1 (nv x 3 : Int) : Int)))) ((hS.gr g).st1 (Try.siz3 _) rfl rfl (by omega))) (Y.RT.fin ⟨(g.only _).trans (Y.set_only _ _ _ _), hS2⟩)
   rintro ac u w26 hs hd hl_ ho ⟨hon, hS2⟩
   replace F : Fr ac 59 [(0, Vp bp), (1, Vi t), (2, Vp w.heap.size), (4, Vi 0), (5, Vp xb), (6, .pointer (some ⟨bn, ((nv x 2).toNat) * 17, none⟩)), (12, .func (.func 96) #[] #[Vp bx, Vp bt, Vp bk]), (13, .agg #[Vi (nv x 0), Vi (nv x 1), Vi (nv x 2), Vi (nv x 3)]), (33, .bool true)] := X.fr hs hd hl_ _ (by kernel_rfl)
   clear hs hd hl_ ho
   replace hP := hP.on hon
   replace hC := (hC.kc hon 0 rfl (hC.kc hon 1 rfl (hC.kc hon 2 rfl (hC.kc hon 3 rfl (hC.kc hon 4 rfl (hC.kc hon 5 rfl (hC.kc hon 6 rfl (hC.kc hon 7 rfl (hC.kc hon 8 rfl (hC.kc hon 9 rfl (RCells.nil _)))))))))))
   replace hQ := hQ.step hon (.inl rfl)
   replace hR_ := hR_.step hon (.inl rfl)
   replace G := Gr.refl w26
   replace hS : OwnP w26 bn (n * 17) (NV (up (up (pre.foldl askX s) ((nv x 2).toNat) 5 (orV ((pre.foldl askX s) ((nv x 2).toNat) 5 : Int) (shlV 1 (nv x 3 : Int) : Int) : Int)) ((nv x 2).toNat) 5 (anotV ((up (pre.foldl askX s) ((nv x 2).toNat) 5 (orV ((pre.foldl askX s) ((nv x 2).toNat) 5 : Int) (shlV 1 (nv x 3 : Int) : Int) : Int)) ((nv x 2).toNat) 5 : Int) (shlV 1 (nv x 3 : Int) : Int) : Int))) := hS2
   clear hS2 hon
   refine X.blockN ?_
   exact ⟨hR_, hQ, by rw [List.foldl_append]; exact (by show OwnP _ _ _ (NV (askX _ x)); unfold askX; rw [if_pos (by simpa using h25)]; exact hS)⟩
 have hE_r := hE
 have hP_r := hP
 have hC_r := hC
 clear F ac G hP hC hS
 intro w27 ac hQ hS2 hk F
 have hS := hS2
 clear hS2
 replace hE := hE_r.trans hQ
 have hP := hP_r.on hQ
 have hC := (hC_r.kc hQ 0 rfl (hC_r.kc hQ 1 rfl (hC_r.kc hQ 2 rfl (hC_r.kc hQ 3 rfl (hC_r.kc hQ 4 rfl (hC_r.kc hQ 5 rfl (RCells.nil _)))))))
 clear hC_r hP_r
 have G := Gr.refl w27
 have hmk : Mk1 w27 w14.heap.size := hk
 clear hk
 have hmlt : w14.heap.size < w27.heap.size := hmk.lt
 refine X.blockN ?_
 refine X.thenN ?_
 refine Y.seq ?_
 refine Y.seq ?_
 refine Y.lit (by kernel_rfl) ?_
 refine Y.pv F (X.load rfl (F.e 2 rfl) (X.ld1 (Try.agg60 _) (hC.at 5 rfl))) ?_;clear F ac;intro ac F
 refine Y.pv F (Y.nilC rfl (F.e 44 rfl)) ?_;clear F ac;intro ac F
 refine Y.pv F (X.field rfl (F.e 45 rfl) (X.fld Try.underlying101 rfl (Try.siz99 _) rfl rfl)) ?_;clear F ac;intro ac F
 refine Y.pv F (X.load rfl (F.e 46 rfl) (X.ld1 (Try.agg99 _) (hC.at 4 rfl))) ?_;clear F ac;intro ac F
 refine Y.pv F (X.len1 Try.underlying99 rfl (F.e 47 rfl)) ?_;clear F ac;intro ac F
 refine Y.pv F (X.move rfl (X.kc (Vi 0) rfl)) ?_;clear F ac;intro ac F
 refine Y.nil ?_
 replace F : Fr ac 59 [(0, Vp bp), (1, Vi t), (2, Vp w.heap.size), (4, Vi 0), (12, .func (.func 96) #[] #[Vp bx, Vp bt, Vp bk]), (47, .slice pa n cap), (48, Vi n), (49, Vi 0)] [{ target := .collected w14.heap.size, args := #[] }] := F.sub _
 refine X.thenN ?_
 refine Y.block ?_
 have hE_1 := hE
 have hmk_1 := hmk
 have hP_1 := hP
 have hC_1 := hC
 refine Y.loop (fun me_ ac wr => ∃ (i : Nat), me_ = n - i ∧ i ≤ n ∧ Only (fun b => b = bn) w27 wr ∧ OwnP wr bn (n * 17) (NV (askS l t s)) ∧ Fr ac 59 [(0, Vp bp), (1, Vi t), (2, Vp w.heap.size), (4, Vi (asksG i (askS l t s))), (12, .func (.func 96) #[] #[Vp bx, Vp bt, Vp bk]), (47, .slice pa n cap), (48, Vi n), (49, Vi i)] [{ target := .collected w14.heap.size, args := #[] }]) _ ⟨0, rfl, Nat.zero_le _, Only.refl _ _, hS, F.sub _⟩ ?_
 clear F hP hC hS ac hE hmk
 intro me_ ac w28 hI
 obtain ⟨i, rfl, hi, hI1, hS, F⟩ := hI
 have hP := hP_1.on hI1
 have hE := hE_1.trans hI1
 have hmk := hmk_1.only hI1 (by show ¬ _ = _; omega)
 have hC := (hC_1.kc hI1 0 rfl (hC_1.kc hI1 1 rfl (hC_1.kc hI1 2 rfl (hC_1.kc hI1 3 rfl (hC_1.kc hI1 4 rfl (hC_1.kc hI1 5 rfl (RCells.nil _)))))))
 replace G := Gr.refl w28
 refine Y.seq ?_
 refine Y.lit (by kernel_rfl) ?_
 refine Y.pv F (X.binop rfl (F.e 49 rfl) (F.e 48 rfl) (X.lssI Try.underlying3 rfl)) ?_;clear F ac;intro ac F
 refine Y.nil ?_
 replace F : Fr ac 59 [(0, Vp bp), (1, Vi t), (2, Vp w.heap.size), (4, Vi (asksG i (askS l t s))), (12, .func (.func 96) #[] #[Vp bx, Vp bt, Vp bk]), (47, .slice pa n cap), (48, Vi n), (49, Vi i), (50, .bool (decide ((i : Int) < n)))] [{ target := .collected w14.heap.size, args := #[] }] := F.sub _
 refine X.thenN ?_
 refine Y.seq ?_
 cases h29 : decide ((i : Int) < n) with
 | false =>
  try rw [h29] at F
  have h29p : ¬ ((i : Int) < n) := of_decide_eq_false h29
  obtain rfl : n = i := by omega
  refine Y.condF (F.e 50 rfl) ?_
  refine Y.exit ?_
  refine X.thenX ?_
  refine X.thenX ?_
  refine X.blockX ?_
  refine X.thenN ?_
  refine Y.seq ?_
  refine Y.lit (by kernel_rfl) ?_
  refine Y.pv F (X.move rfl (F.e 4 rfl)) ?_;clear F ac;intro ac F
  refine Y.pv F (X.assign rfl (F.e 58 rfl)) ?_;clear F ac;intro ac F
  refine Y.nil ?_
  replace F : Fr ac 59 [(0, Vp bp), (1, Vi t), (2, Vp w.heap.size), (4, Vi (asksG n (askS l t s))), (12, .func (.func 96) #[] #[Vp bx, Vp bt, Vp bk]), (47, .slice pa n cap), (48, Vi n), (49, Vi n), (50, .bool false)] [{ target := .collected w14.heap.size, args := #[] }] := F.sub _
  refine X.thenN ?_
  refine Y.ret ?_
  exact ret_mark (v := Vi (asksG n (askS l t s))) F hmk (Y.rs1 F rfl (by kernel_rfl)) (fun W2 hW2 => ⟨rfl, hE.step hW2 (.inr (by omega)), hS.only hW2 (by show ¬ _ = _; omega)⟩)
 | true =>
  try rw [h29] at F
  have h29p : ((i : Int) < n) := of_decide_eq_true h29
  refine Y.condT (F.e 50 rfl) ?_
  refine Y.skip ?_
  refine X.thenN ?_
  refine Y.seq ?_
  refine Y.block ?_
  refine Y.seq ?_
  refine Y.lit (by kernel_rfl) ?_
  obtain rfl : pa = some ⟨bn, 0, none⟩ := hP.hpa (by omega)
  refine Y.pv F (X.index rfl (F.e 47 rfl) (F.e 49 rfl) (X.idx (k := i) Try.underlying99 (Try.siz104 _) (by omega) (by omega) (addr_add0 _ _))) ?_;clear F ac;intro ac F
  replace hC : RCells w28 [(Ad bp 0, Vi gr), (Ad bp 1, Vi hold), (Ad bp 2, .slice na n nc), (Ad bp 3, .slice la m lc), (Ad bp 4, .slice (some ⟨bn, 0, none⟩) n cap), (Ad w.heap.size 0, Vp bp), (⟨bn, i * 17, none⟩, Vi ((askS l t s) i 0))] := hC.append ((RCells.cons ((hS.cell (k := i * 17 + 0) (by omega)).trans (congrArg some (NV_int (askS l t s) i 0 (by decide)))) (RCells.nil _)))
  replace hC : RCells w28 [(Ad bp 0, Vi gr), (Ad bp 1, Vi hold), (Ad bp 2, .slice na n nc), (Ad bp 3, .slice la m lc), (Ad bp 4, .slice (some ⟨bn, 0, none⟩) n cap), (Ad w.heap.size 0, Vp bp), (⟨bn, i * 17, none⟩, Vi ((askS l t s) i 0)), (⟨bn, i * 17 + 1, none⟩, Vi ((askS l t s) i 1))] := hC.append ((RCells.cons ((hS.cell (k := i * 17 + 1) (by omega)).trans (congrArg some (NV_int (askS l t s) i 1 (by decide)))) (RCells.nil _)))
  replace hC : RCells w28 [(Ad bp 0, Vi gr), (Ad bp 1, Vi hold), (Ad bp 2, .slice na n nc), (Ad bp 3, .slice la m lc), (Ad bp 4, .slice (some ⟨bn, 0, none⟩) n cap), (Ad w.heap.size 0, Vp bp), (⟨bn, i * 17, none⟩, Vi ((askS l t s) i 0)), (⟨bn, i * 17 + 1, none⟩, Vi ((askS l t s) i 1)), (⟨bn, i * 17 + 2, none⟩, Vi ((askS l t s) i 2))] := hC.append ((RCells.cons ((hS.cell (k := i * 17 + 2) (by omega)).trans (congrArg some (NV_int (askS l t s) i 2 (by decide)))) (RCells.nil _)))
  replace hC : RCells w28 [(Ad bp 0, Vi gr), (Ad bp 1, Vi hold), (Ad bp 2, .slice na n nc), (Ad bp 3, .slice la m lc), (Ad bp 4, .slice (some ⟨bn, 0, none⟩) n cap), (Ad w.heap.size 0, Vp bp), (⟨bn, i * 17, none⟩, Vi ((askS l t s) i 0)), (⟨bn, i * 17 + 1, none⟩, Vi ((askS l t s) i 1)), (⟨bn, i * 17 + 2, none⟩, Vi ((askS l t s) i 2)), (⟨bn, i * 17 + 3, none⟩, Vi ((askS l t s) i 3))] := hC.append ((RCells.cons ((hS.cell (k := i * 17 + 3) (by omega)).trans (congrArg some (NV_int (askS l t s) i 3 (by decide)))) (RCells.nil _)))
  replace hC : RCells w28 [(Ad bp 0, Vi gr), (Ad bp 1, Vi hold), (Ad bp 2, .slice na n nc), (Ad bp 3, .slice la m lc), (Ad bp 4, .slice (some ⟨bn, 0, none⟩) n cap), (Ad w.heap.size 0, Vp bp), (⟨bn, i * 17, none⟩, Vi ((askS l t s) i 0)), (⟨bn, i * 17 + 1, none⟩, Vi ((askS l t s) i 1)), (⟨bn, i * 17 + 2, none⟩, Vi ((askS l t s) i 2)), (⟨bn, i * 17 + 3, none⟩, Vi ((askS l t s) i 3)), (⟨bn, i * 17 + 4, none⟩, Vi ((askS l t s) i 4))] := hC.append ((RCells.cons ((hS.cell (k := i * 17 + 4) (by omega)).trans (congrArg some (NV_int (askS l t s) i 4 (by decide)))) (RCells.nil _)))
  replace hC : RCells w28 [(Ad bp 0, Vi gr), (Ad bp 1, Vi hold), (Ad bp 2, .slice na n nc), (Ad bp 3, .slice la m lc), (Ad bp 4, .slice (some ⟨bn, 0, none⟩) n cap), (Ad w.heap.size 0, Vp bp), (⟨bn, i * 17, none⟩, Vi ((askS l t s) i 0)), (⟨bn, i * 17 + 1, none⟩, Vi ((askS l t s) i 1)), (⟨bn, i * 17 + 2, none⟩, Vi ((askS l t s) i 2)), (⟨bn, i * 17 + 3, none⟩, Vi ((askS l t s) i 3)), (⟨bn, i * 17 + 4, none⟩, Vi ((askS l t s) i 4)), (⟨bn, i * 17 + 5, none⟩, Vi ((askS l t s) i 5))] := hC.append ((RCells.cons ((hS.cell (k := i * 17 + 5) (by omega)).trans (congrArg some (NV_int (askS l t s) i 5 (by decide)))) (RCells.nil _)))
  replace hC : RCells w28 [(Ad bp 0, Vi gr), (Ad bp 1, Vi hold), (Ad bp 2, .slice na n nc), (Ad bp 3, .slice la m lc), (Ad bp 4, .slice (some ⟨bn, 0, none⟩) n cap), (Ad w.heap.size 0, Vp bp), (⟨bn, i * 17, none⟩, Vi ((askS l t s) i 0)), (⟨bn, i * 17 + 1, none⟩, Vi ((askS l t s) i 1)), (⟨bn, i * 17 + 2, none⟩, Vi ((askS l t s) i 2)), (⟨bn, i * 17 + 3, none⟩, Vi ((askS l t s) i 3)), (⟨bn, i * 17 + 4, none⟩, Vi ((askS l t s) i 4)), (⟨bn, i * 17 + 5, none⟩, Vi ((askS l t s) i 5)), (⟨bn, i * 17 + 6, none⟩, Vi ((askS l t s) i 6))] := hC.append ((RCells.cons ((hS.cell (k := i * 17 + 6) (by omega)).trans (congrArg some (NV_int (askS l t s) i 6 (by decide)))) (RCells.nil _)))
  replace hC : RCells w28 [(Ad bp 0, Vi gr), (Ad bp 1, Vi hold), (Ad bp 2, .slice na n nc), (Ad bp 3, .slice la m lc), (Ad bp 4, .slice (some ⟨bn, 0, none⟩) n cap), (Ad w.heap.size 0, Vp bp), (⟨bn, i * 17, none⟩, Vi ((askS l t s) i 0)), (⟨bn, i * 17 + 1, none⟩, Vi ((askS l t s) i 1)), (⟨bn, i * 17 + 2, none⟩, Vi ((askS l t s) i 2)), (⟨bn, i * 17 + 3, none⟩, Vi ((askS l t s) i 3)), (⟨bn, i * 17 + 4, none⟩, Vi ((askS l t s) i 4)), (⟨bn, i * 17 + 5, none⟩, Vi ((askS l t s) i 5)), (⟨bn, i * 17 + 6, none⟩, Vi ((askS l t s) i 6)), (⟨bn, i * 17 + 7, none⟩, Vi ((askS l t s) i 7))] := hC.append ((RCells.cons ((hS.cell (k := i * 17 + 7) (by omega)).trans (congrArg some (NV_int (askS l t s) i 7 (by decide)))) (RCells.nil _)))
  replace hC : RCells w28 [(Ad bp 0, Vi gr), (Ad bp 1, Vi hold), (Ad bp 2, .slice na n nc), (Ad bp 3, .slice la m lc), (Ad bp 4, .slice (some ⟨bn, 0, none⟩) n cap), (Ad w.heap.size 0, Vp bp), (⟨bn, i * 17, none⟩, Vi ((askS l t s) i 0)), (⟨bn, i * 17 + 1, none⟩, Vi ((askS l t s) i 1)), (⟨bn, i * 17 + 2, none⟩, Vi ((askS l t s) i 2)), (⟨bn, i * 17 + 3, none⟩, Vi ((askS l t s) i 3)), (⟨bn, i * 17 + 4, none⟩, Vi ((askS l t s) i 4)), (⟨bn, i * 17 + 5, none⟩, Vi ((askS l t s) i 5)), (⟨bn, i * 17 + 6, none⟩, Vi ((askS l t s) i 6)), (⟨bn, i * 17 + 7, none⟩, Vi ((askS l t s) i 7)), (⟨bn, i * 17 + 8, none⟩, Vi ((askS l t s) i 8))] := hC.append ((RCells.cons ((hS.cell (k := i * 17 + 8) (by omega)).trans (congrArg some (NV_int (askS l t s) i 8 (by decide)))) (RCells.nil _)))
  replace hC : RCells w28 [(Ad bp 0, Vi gr), (Ad bp 1, Vi hold), (Ad bp 2, .slice na n nc), (Ad bp 3, .slice la m lc), (Ad bp 4, .slice (some ⟨bn, 0, none⟩) n cap), (Ad w.heap.size 0, Vp bp), (⟨bn, i * 17, none⟩, Vi ((askS l t s) i 0)), (⟨bn, i * 17 + 1, none⟩, Vi ((askS l t s) i 1)), (⟨bn, i * 17 + 2, none⟩, Vi ((askS l t s) i 2)), (⟨bn, i * 17 + 3, none⟩, Vi ((askS l t s) i 3)), (⟨bn, i * 17 + 4, none⟩, Vi ((askS l t s) i 4)), (⟨bn, i * 17 + 5, none⟩, Vi ((askS l t s) i 5)), (⟨bn, i * 17 + 6, none⟩, Vi ((askS l t s) i 6)), (⟨bn, i * 17 + 7, none⟩, Vi ((askS l t s) i 7)), (⟨bn, i * 17 + 8, none⟩, Vi ((askS l t s) i 8)), (⟨bn, i * 17 + 9, none⟩, Vi ((askS l t s) i 9))] := hC.append ((RCells.cons ((hS.cell (k := i * 17 + 9) (by omega)).trans (congrArg some (NV_int (askS l t s) i 9 (by decide)))) (RCells.nil _)))
  replace hC : RCells w28 [(Ad bp 0, Vi gr), (Ad bp 1, Vi hold), (Ad bp 2, .slice na n nc), (Ad bp 3, .slice la m lc), (Ad bp 4, .slice (some ⟨bn, 0, none⟩) n cap), (Ad w.heap.size 0, Vp bp), (⟨bn, i * 17, none⟩, Vi ((askS l t s) i 0)), (⟨bn, i * 17 + 1, none⟩, Vi ((askS l t s) i 1)), (⟨bn, i * 17 + 2, none⟩, Vi ((askS l t s) i 2)), (⟨bn, i * 17 + 3, none⟩, Vi ((askS l t s) i 3)), (⟨bn, i * 17 + 4, none⟩, Vi ((askS l t s) i 4)), (⟨bn, i * 17 + 5, none⟩, Vi ((askS l t s) i 5)), (⟨bn, i * 17 + 6, none⟩, Vi ((askS l t s) i 6)), (⟨bn, i * 17 + 7, none⟩, Vi ((askS l t s) i 7)), (⟨bn, i * 17 + 8, none⟩, Vi ((askS l t s) i 8)), (⟨bn, i * 17 + 9, none⟩, Vi ((askS l t s) i 9)), (⟨bn, i * 17 + 10, none⟩, Vi ((askS l t s) i 10))] := hC.append ((RCells.cons ((hS.cell (k := i * 17 + 10) (by omega)).trans (congrArg some (NV_int (askS l t s) i 10 (by decide)))) (RCells.nil _)))
  replace hC : RCells w28 [(Ad bp 0, Vi gr), (Ad bp 1, Vi hold), (Ad bp 2, .slice na n nc), (Ad bp 3, .slice la m lc), (Ad bp 4, .slice (some ⟨bn, 0, none⟩) n cap), (Ad w.heap.size 0, Vp bp), (⟨bn, i * 17, none⟩, Vi ((askS l t s) i 0)), (⟨bn, i * 17 + 1, none⟩, Vi ((askS l t s) i 1)), (⟨bn, i * 17 + 2, none⟩, Vi ((askS l t s) i 2)), (⟨bn, i * 17 + 3, none⟩, Vi ((askS l t s) i 3)), (⟨bn, i * 17 + 4, none⟩, Vi ((askS l t s) i 4)), (⟨bn, i * 17 + 5, none⟩, Vi ((askS l t s) i 5)), (⟨bn, i * 17 + 6, none⟩, Vi ((askS l t s) i 6)), (⟨bn, i * 17 + 7, none⟩, Vi ((askS l t s) i 7)), (⟨bn, i * 17 + 8, none⟩, Vi ((askS l t s) i 8)), (⟨bn, i * 17 + 9, none⟩, Vi ((askS l t s) i 9)), (⟨bn, i * 17 + 10, none⟩, Vi ((askS l t s) i 10)), (⟨bn, i * 17 + 11, none⟩, Vi ((askS l t s) i 11))] := hC.append ((RCells.cons ((hS.cell (k := i * 17 + 11) (by omega)).trans (congrArg some (NV_int (askS l t s) i 11 (by decide)))) (RCells.nil _)))
  replace hC : RCells w28 [(Ad bp 0, Vi gr), (Ad bp 1, Vi hold), (Ad bp 2, .slice na n nc), (Ad bp 3, .slice la m lc), (Ad bp 4, .slice (some ⟨bn, 0, none⟩) n cap), (Ad w.heap.size 0, Vp bp), (⟨bn, i * 17, none⟩, Vi ((askS l t s) i 0)), (⟨bn, i * 17 + 1, none⟩, Vi ((askS l t s) i 1)), (⟨bn, i * 17 + 2, none⟩, Vi ((askS l t s) i 2)), (⟨bn, i * 17 + 3, none⟩, Vi ((askS l t s) i 3)), (⟨bn, i * 17 + 4, none⟩, Vi ((askS l t s) i 4)), (⟨bn, i * 17 + 5, none⟩, Vi ((askS l t s) i 5)), (⟨bn, i * 17 + 6, none⟩, Vi ((askS l t s) i 6)), (⟨bn, i * 17 + 7, none⟩, Vi ((askS l t s) i 7)), (⟨bn, i * 17 + 8, none⟩, Vi ((askS l t s) i 8)), (⟨bn, i * 17 + 9, none⟩, Vi ((askS l t s) i 9)), (⟨bn, i * 17 + 10, none⟩, Vi ((askS l t s) i 10)), (⟨bn, i * 17 + 11, none⟩, Vi ((askS l t s) i 11)), (⟨bn, i * 17 + 12, none⟩, Vi ((askS l t s) i 12))] := hC.append ((RCells.cons ((hS.cell (k := i * 17 + 12) (by omega)).trans (congrArg some (NV_int (askS l t s) i 12 (by decide)))) (RCells.nil _)))
  replace hC : RCells w28 [(Ad bp 0, Vi gr), (Ad bp 1, Vi hold), (Ad bp 2, .slice na n nc), (Ad bp 3, .slice la m lc), (Ad bp 4, .slice (some ⟨bn, 0, none⟩) n cap), (Ad w.heap.size 0, Vp bp), (⟨bn, i * 17, none⟩, Vi ((askS l t s) i 0)), (⟨bn, i * 17 + 1, none⟩, Vi ((askS l t s) i 1)), (⟨bn, i * 17 + 2, none⟩, Vi ((askS l t s) i 2)), (⟨bn, i * 17 + 3, none⟩, Vi ((askS l t s) i 3)), (⟨bn, i * 17 + 4, none⟩, Vi ((askS l t s) i 4)), (⟨bn, i * 17 + 5, none⟩, Vi ((askS l t s) i 5)), (⟨bn, i * 17 + 6, none⟩, Vi ((askS l t s) i 6)), (⟨bn, i * 17 + 7, none⟩, Vi ((askS l t s) i 7)), (⟨bn, i * 17 + 8, none⟩, Vi ((askS l t s) i 8)), (⟨bn, i * 17 + 9, none⟩, Vi ((askS l t s) i 9)), (⟨bn, i * 17 + 10, none⟩, Vi ((askS l t s) i 10)), (⟨bn, i * 17 + 11, none⟩, Vi ((askS l t s) i 11)), (⟨bn, i * 17 + 12, none⟩, Vi ((askS l t s) i 12)), (⟨bn, i * 17 + 13, none⟩, Vi ((askS l t s) i 13))] := hC.append ((RCells.cons ((hS.cell (k := i * 17 + 13) (by omega)).trans (congrArg some (NV_int (askS l t s) i 13 (by decide)))) (RCells.nil _)))
  replace hC : RCells w28 [(Ad bp 0, Vi gr), (Ad bp 1, Vi hold), (Ad bp 2, .slice na n nc), (Ad bp 3, .slice la m lc), (Ad bp 4, .slice (some ⟨bn, 0, none⟩) n cap), (Ad w.heap.size 0, Vp bp), (⟨bn, i * 17, none⟩, Vi ((askS l t s) i 0)), (⟨bn, i * 17 + 1, none⟩, Vi ((askS l t s) i 1)), (⟨bn, i * 17 + 2, none⟩, Vi ((askS l t s) i 2)), (⟨bn, i * 17 + 3, none⟩, Vi ((askS l t s) i 3)), (⟨bn, i * 17 + 4, none⟩, Vi ((askS l t s) i 4)), (⟨bn, i * 17 + 5, none⟩, Vi ((askS l t s) i 5)), (⟨bn, i * 17 + 6, none⟩, Vi ((askS l t s) i 6)), (⟨bn, i * 17 + 7, none⟩, Vi ((askS l t s) i 7)), (⟨bn, i * 17 + 8, none⟩, Vi ((askS l t s) i 8)), (⟨bn, i * 17 + 9, none⟩, Vi ((askS l t s) i 9)), (⟨bn, i * 17 + 10, none⟩, Vi ((askS l t s) i 10)), (⟨bn, i * 17 + 11, none⟩, Vi ((askS l t s) i 11)), (⟨bn, i * 17 + 12, none⟩, Vi ((askS l t s) i 12)), (⟨bn, i * 17 + 13, none⟩, Vi ((askS l t s) i 13)), (⟨bn, i * 17 + 14, none⟩, Vi ((askS l t s) i 14))] := hC.append ((RCells.cons ((hS.cell (k := i * 17 + 14) (by omega)).trans (congrArg some (NV_int (askS l t s) i 14 (by decide)))) (RCells.nil _)))
  replace hC : RCells w28 [(Ad bp 0, Vi gr), (Ad bp 1, Vi hold), (Ad bp 2, .slice na n nc), (Ad bp 3, .slice la m lc), (Ad bp 4, .slice (some ⟨bn, 0, none⟩) n cap), (Ad w.heap.size 0, Vp bp), (⟨bn, i * 17, none⟩, Vi ((askS l t s) i 0)), (⟨bn, i * 17 + 1, none⟩, Vi ((askS l t s) i 1)), (⟨bn, i * 17 + 2, none⟩, Vi ((askS l t s) i 2)), (⟨bn, i * 17 + 3, none⟩, Vi ((askS l t s) i 3)), (⟨bn, i * 17 + 4, none⟩, Vi ((askS l t s) i 4)), (⟨bn, i * 17 + 5, none⟩, Vi ((askS l t s) i 5)), (⟨bn, i * 17 + 6, none⟩, Vi ((askS l t s) i 6)), (⟨bn, i * 17 + 7, none⟩, Vi ((askS l t s) i 7)), (⟨bn, i * 17 + 8, none⟩, Vi ((askS l t s) i 8)), (⟨bn, i * 17 + 9, none⟩, Vi ((askS l t s) i 9)), (⟨bn, i * 17 + 10, none⟩, Vi ((askS l t s) i 10)), (⟨bn, i * 17 + 11, none⟩, Vi ((askS l t s) i 11)), (⟨bn, i * 17 + 12, none⟩, Vi ((askS l t s) i 12)), (⟨bn, i * 17 + 13, none⟩, Vi ((askS l t s) i 13)), (⟨bn, i * 17 + 14, none⟩, Vi ((askS l t s) i 14)), (⟨bn, i * 17 + 15, none⟩, Vi ((askS l t s) i 15))] := hC.append ((RCells.cons ((hS.cell (k := i * 17 + 15) (by omega)).trans (congrArg some (NV_int (askS l t s) i 15 (by decide)))) (RCells.nil _)))
  replace hC : RCells w28 [(Ad bp 0, Vi gr), (Ad bp 1, Vi hold), (Ad bp 2, .slice na n nc), (Ad bp 3, .slice la m lc), (Ad bp 4, .slice (some ⟨bn, 0, none⟩) n cap), (Ad w.heap.size 0, Vp bp), (⟨bn, i * 17, none⟩, Vi ((askS l t s) i 0)), (⟨bn, i * 17 + 1, none⟩, Vi ((askS l t s) i 1)), (⟨bn, i * 17 + 2, none⟩, Vi ((askS l t s) i 2)), (⟨bn, i * 17 + 3, none⟩, Vi ((askS l t s) i 3)), (⟨bn, i * 17 + 4, none⟩, Vi ((askS l t s) i 4)), (⟨bn, i * 17 + 5, none⟩, Vi ((askS l t s) i 5)), (⟨bn, i * 17 + 6, none⟩, Vi ((askS l t s) i 6)), (⟨bn, i * 17 + 7, none⟩, Vi ((askS l t s) i 7)), (⟨bn, i * 17 + 8, none⟩, Vi ((askS l t s) i 8)), (⟨bn, i * 17 + 9, none⟩, Vi ((askS l t s) i 9)), (⟨bn, i * 17 + 10, none⟩, Vi ((askS l t s) i 10)), (⟨bn, i * 17 + 11, none⟩, Vi ((askS l t s) i 11)), (⟨bn, i * 17 + 12, none⟩, Vi ((askS l t s) i 12)), (⟨bn, i * 17 + 13, none⟩, Vi ((askS l t s) i 13)), (⟨bn, i * 17 + 14, none⟩, Vi ((askS l t s) i 14)), (⟨bn, i * 17 + 15, none⟩, Vi ((askS l t s) i 15)), (⟨bn, i * 17 + 16, none⟩, .bool (bz ((askS l t s) i 16)))] := hC.append ((RCells.cons ((hS.cell (k := i * 17 + 16) (by omega)).trans (congrArg some (NV_bool (askS l t s) i))) (RCells.nil _)))
  refine Y.pv F (X.load rfl (F.e 51 rfl) (X.ldN (Try.agg104 _) (Try.siz104 _) (Y.atz (⟨bn, i * 17, none⟩) (Y.AtFrom.cons (hC.at 6 rfl) (Y.AtFrom.cons (hC.at 7 rfl) (Y.AtFrom.cons (hC.at 8 rfl) (Y.AtFrom.cons (hC.at 9 rfl) (Y.AtFrom.cons (hC.at 10 rfl) (Y.AtFrom.cons (hC.at 11 rfl) (Y.AtFrom.cons (hC.at 12 rfl) (Y.AtFrom.cons (hC.at 13 rfl) (Y.AtFrom.cons (hC.at 14 rfl) (Y.AtFrom.cons (hC.at 15 rfl) (Y.AtFrom.cons (hC.at 16 rfl) (Y.AtFrom.cons (hC.at 17 rfl) (Y.AtFrom.cons (hC.at 18 rfl) (Y.AtFrom.cons (hC.at 19 rfl) (Y.AtFrom.cons (hC.at 20 rfl) (Y.AtFrom.cons (hC.at 21 rfl) (Y.AtFrom.cons (hC.at 22 rfl) (Y.AtFrom.nil _ _ _))))))))))))))))))))) ?_;clear F ac;intro ac F
  refine Y.pv F (Y.al rfl (Try.new104 _)) ?_;clear F ac;intro ac F
  refine Y.punit F (X.w0 rfl) rfl (X.store rfl (F.e 8 rfl) (F.e 52 rfl) (Y.stNew [Vi ((askS l t s) i 0), Vi ((askS l t s) i 1), Vi ((askS l t s) i 2), Vi ((askS l t s) i 3), Vi ((askS l t s) i 4), Vi ((askS l t s) i 5), Vi ((askS l t s) i 6), Vi ((askS l t s) i 7), Vi ((askS l t s) i 8), Vi ((askS l t s) i 9), Vi ((askS l t s) i 10), Vi ((askS l t s) i 11), Vi ((askS l t s) i 12), Vi ((askS l t s) i 13), Vi ((askS l t s) i 14), Vi ((askS l t s) i 15), .bool (bz ((askS l t s) i 16))] [Vi 0, Vi 0, Vi 0, Vi 0, Vi 0, Vi 0, Vi 0, Vi 0, Vi 0, Vi 0, Vi 0, Vi 0, Vi 0, Vi 0, Vi 0, Vi 0, .bool false] (Try.siz104 _) rfl rfl)) ?_;clear F ac;intro ac F
  have hq30 : bn < w28.heap.size := hS.lt
  have hq31 : bp < w28.heap.size := lt_cell (hC.at 0 rfl)
  have hq32 : w.heap.size < w28.heap.size := lt_cell (hC.at 5 rfl)
  have g := Gr.alloc w28 (.cells #[Vi ((askS l t s) i 0), Vi ((askS l t s) i 1), Vi ((askS l t s) i 2), Vi ((askS l t s) i 3), Vi ((askS l t s) i 4), Vi ((askS l t s) i 5), Vi ((askS l t s) i 6), Vi ((askS l t s) i 7), Vi ((askS l t s) i 8), Vi ((askS l t s) i 9), Vi ((askS l t s) i 10), Vi ((askS l t s) i 11), Vi ((askS l t s) i 12), Vi ((askS l t s) i 13), Vi ((askS l t s) i 14), Vi ((askS l t s) i 15), .bool (bz ((askS l t s) i 16))] 104)
  have hb := heap_alloc_new w28 (.cells #[Vi ((askS l t s) i 0), Vi ((askS l t s) i 1), Vi ((askS l t s) i 2), Vi ((askS l t s) i 3), Vi ((askS l t s) i 4), Vi ((askS l t s) i 5), Vi ((askS l t s) i 6), Vi ((askS l t s) i 7), Vi ((askS l t s) i 8), Vi ((askS l t s) i 9), Vi ((askS l t s) i 10), Vi ((askS l t s) i 11), Vi ((askS l t s) i 12), Vi ((askS l t s) i 13), Vi ((askS l t s) i 14), Vi ((askS l t s) i 15), .bool (bz ((askS l t s) i 16))] 104)
  have hbl : w28.heap.size < (w28.alloc (.cells #[Vi ((askS l t s) i 0), Vi ((askS l t s) i 1), Vi ((askS l t s) i 2), Vi ((askS l t s) i 3), Vi ((askS l t s) i 4), Vi ((askS l t s) i 5), Vi ((askS l t s) i 6), Vi ((askS l t s) i 7), Vi ((askS l t s) i 8), Vi ((askS l t s) i 9), Vi ((askS l t s) i 10), Vi ((askS l t s) i 11), Vi ((askS l t s) i 12), Vi ((askS l t s) i 13), Vi ((askS l t s) i 14), Vi ((askS l t s) i 15), .bool (bz ((askS l t s) i 16))] 104)).heap.size := by simp
  have hC2 : RCells (w28.alloc (.cells #[Vi ((askS l t s) i 0), Vi ((askS l t s) i 1), Vi ((askS l t s) i 2), Vi ((askS l t s) i 3), Vi ((askS l t s) i 4), Vi ((askS l t s) i 5), Vi ((askS l t s) i 6), Vi ((askS l t s) i 7), Vi ((askS l t s) i 8), Vi ((askS l t s) i 9), Vi ((askS l t s) i 10), Vi ((askS l t s) i 11), Vi ((askS l t s) i 12), Vi ((askS l t s) i 13), Vi ((askS l t s) i 14), Vi ((askS l t s) i 15), .bool (bz ((askS l t s) i 16))] 104)) [(Ad bp 0, Vi gr), (Ad bp 1, Vi hold), (Ad bp 2, .slice na n nc), (Ad bp 3, .slice la m lc), (Ad bp 4, .slice (some ⟨bn, 0, none⟩) n cap), (Ad w.heap.size 0, Vp bp), (⟨bn, i * 17, none⟩, Vi ((askS l t s) i 0)), (⟨bn, i * 17 + 1, none⟩, Vi ((askS l t s) i 1)), (⟨bn, i * 17 + 2, none⟩, Vi ((askS l t s) i 2)), (⟨bn, i * 17 + 3, none⟩, Vi ((askS l t s) i 3)), (⟨bn, i * 17 + 4, none⟩, Vi ((askS l t s) i 4)), (⟨bn, i * 17 + 5, none⟩, Vi ((askS l t s) i 5)), (⟨bn, i * 17 + 6, none⟩, Vi ((askS l t s) i 6)), (⟨bn, i * 17 + 7, none⟩, Vi ((askS l t s) i 7)), (⟨bn, i * 17 + 8, none⟩, Vi ((askS l t s) i 8)), (⟨bn, i * 17 + 9, none⟩, Vi ((askS l t s) i 9)), (⟨bn, i * 17 + 10, none⟩, Vi ((askS l t s) i 10)), (⟨bn, i * 17 + 11, none⟩, Vi ((askS l t s) i 11)), (⟨bn, i * 17 + 12, none⟩, Vi ((askS l t s) i 12)), (⟨bn, i * 17 + 13, none⟩, Vi ((askS l t s) i 13)), (⟨bn, i * 17 + 14, none⟩, Vi ((askS l t s) i 14)), (⟨bn, i * 17 + 15, none⟩, Vi ((askS l t s) i 15)), (⟨bn, i * 17 + 16, none⟩, .bool (bz ((askS l t s) i 16))), (Ad w28.heap.size 0, Vi ((askS l t s) i 0)), (Ad w28.heap.size 1, Vi ((askS l t s) i 1)), (Ad w28.heap.size 2, Vi ((askS l t s) i 2)), (Ad w28.heap.size 3, Vi ((askS l t s) i 3)), (Ad w28.heap.size 4, Vi ((askS l t s) i 4)), (Ad w28.heap.size 5, Vi ((askS l t s) i 5)), (Ad w28.heap.size 6, Vi ((askS l t s) i 6)), (Ad w28.heap.size 7, Vi ((askS l t s) i 7)), (Ad w28.heap.size 8, Vi ((askS l t s) i 8)), (Ad w28.heap.size 9, Vi ((askS l t s) i 9)), (Ad w28.heap.size 10, Vi ((askS l t s) i 10)), (Ad w28.heap.size 11, Vi ((askS l t s) i 11)), (Ad w28.heap.size 12, Vi ((askS l t s) i 12)), (Ad w28.heap.size 13, Vi ((askS l t s) i 13)), (Ad w28.heap.size 14, Vi ((askS l t s) i 14)), (Ad w28.heap.size 15, Vi ((askS l t s) i 15)), (Ad w28.heap.size 16, .bool (bz ((askS l t s) i 16)))] := hC.box (b := w28.heap.size) #[Vi ((askS l t s) i 0), Vi ((askS l t s) i 1), Vi ((askS l t s) i 2), Vi ((askS l t s) i 3), Vi ((askS l t s) i 4), Vi ((askS l t s) i 5), Vi ((askS l t s) i 6), Vi ((askS l t s) i 7), Vi ((askS l t s) i 8), Vi ((askS l t s) i 9), Vi ((askS l t s) i 10), Vi ((askS l t s) i 11), Vi ((askS l t s) i 12), Vi ((askS l t s) i 13), Vi ((askS l t s) i 14), Vi ((askS l t s) i 15), .bool (bz ((askS l t s) i 16))] 104 rfl
  generalize w28.alloc (.cells #[Vi ((askS l t s) i 0), Vi ((askS l t s) i 1), Vi ((askS l t s) i 2), Vi ((askS l t s) i 3), Vi ((askS l t s) i 4), Vi ((askS l t s) i 5), Vi ((askS l t s) i 6), Vi ((askS l t s) i 7), Vi ((askS l t s) i 8), Vi ((askS l t s) i 9), Vi ((askS l t s) i 10), Vi ((askS l t s) i 11), Vi ((askS l t s) i 12), Vi ((askS l t s) i 13), Vi ((askS l t s) i 14), Vi ((askS l t s) i 15), .bool (bz ((askS l t s) i 16))] 104) = w33 at *
  replace G := G.trans g
  replace hC := hC2
  clear hC2
  replace hE := hE.thenGr g
  replace hI1 := hI1.thenGr g
  replace hP := hP.gr g
  replace hmk := hmk.gr g
  replace hS := hS.gr g
  clear g hb hbl
  refine Y.nil ?_
  replace F : Fr ac 59 [(0, Vp bp), (1, Vi t), (2, Vp w.heap.size), (4, Vi (asksG i (askS l t s))), (8, Vp w28.heap.size), (12, .func (.func 96) #[] #[Vp bx, Vp bt, Vp bk]), (47, .slice (some ⟨bn, 0, none⟩) n cap), (48, Vi n), (49, Vi i), (50, .bool true)] [{ target := .collected w14.heap.size, args := #[] }] := F.sub _
  refine X.thenN ?_
  refine Y.lit (by kernel_rfl) ?_
  refine Y.pv F (X.move rfl (F.e 4 rfl)) ?_;clear F ac;intro ac F
  refine Y.pv F (X.field rfl (F.e 8 rfl) (X.fld Try.underlying104 rfl (Try.siz3 _) rfl rfl)) ?_;clear F ac;intro ac F
  refine Y.pv F (X.load rfl (F.e 54 rfl) (X.ld1 (Try.agg3 _) (hC.at 28 rfl))) ?_;clear F ac;intro ac F
  refine Y.pv F (X.binop rfl (F.e 53 rfl) (F.e 55 rfl) (X.orI Try.underlying3 rfl)) ?_;clear F ac;intro ac F
  refine Y.pv F (X.assign rfl (F.e 56 rfl)) ?_;clear F ac;intro ac F
  refine Y.nil ?_
  replace F : Fr ac 59 [(0, Vp bp), (1, Vi t), (2, Vp w.heap.size), (4, Vi (orV (asksG i (askS l t s) : Int) ((askS l t s) i 5 : Int))), (8, Vp w28.heap.size), (12, .func (.func 96) #[] #[Vp bx, Vp bt, Vp bk]), (47, .slice (some ⟨bn, 0, none⟩) n cap), (48, Vi n), (49, Vi i), (50, .bool true)] [{ target := .collected w14.heap.size, args := #[] }] := F.sub _
  refine X.blockN ?_
  refine X.thenN ?_
  refine Y.lit (by kernel_rfl) ?_
  refine Y.pv F (X.binop rfl (F.e 49 rfl) (X.kc (Vi 1) rfl) (X.addI Try.underlying3 rfl (by omega) (by omega))) ?_;clear F ac;intro ac F
  refine Y.pv F (X.move rfl (F.e 57 rfl)) ?_;clear F ac;intro ac F
  refine Y.nil ?_
  replace F : Fr ac 59 [(0, Vp bp), (1, Vi t), (2, Vp w.heap.size), (4, Vi (orV (asksG i (askS l t s) : Int) ((askS l t s) i 5 : Int))), (8, Vp w28.heap.size), (12, .func (.func 96) #[] #[Vp bx, Vp bt, Vp bk]), (47, .slice (some ⟨bn, 0, none⟩) n cap), (48, Vi n), (49, Vi ((i : Int) + 1)), (50, .bool true)] [{ target := .collected w14.heap.size, args := #[] }] := F.sub _
  refine X.thenN ?_
  refine ⟨_, ?_, i + 1, rfl, by omega, hI1, hS, F.sub _⟩
  omega
end
section
open Go.RowKit

set_option maxRecDepth 100000 in
set_option maxHeartbeats 1000000 in
theorem disturb_any (wB w : World) (bp bn : Nat) (gr hold : Int) (na la pa : Option Addr) (n nc m lc cap : Nat) (l : List (List Int)) (s : PS) (t : Int) (hP : PlE wB w bp bn gr hold na la pa n nc m lc cap l) (hS : OwnP w bn (n * 17) (NV s)) (h16 : n ≤ 16) (hn : ∃ nd : List (List Int), ∃ tt : Int, nd.length = n ∧ gr ≤ 8 ∧ ∀ x ∈ l, NuOk gr nd tt x) (hok : SOk n s) (h1 : 1 ≤ hold) (h100 : hold ≤ 100) (ht : 0 ≤ t ∧ t ≤ 1000) :
  Calls Try.prog 71 #[Vp bp, Vi t] w fun e w' => e = .returned (.tuple #[]) ∧ Only (fun b => b = bn) w w' ∧ OwnP w' bn (n * 17) (NV (disturbS hold l n t s)) := by
 have G := Gr.refl w
 have hE := Only.refl (fun b => b = bn) w
 have hC := hP.p
 have hpb := hP.pb
 have hnb := hP.nb
 have hgb := hP.g.size
 have hpe := hP.ne
 have hplt := hP.lt
 have hnlt := hS.lt
 obtain ⟨nd, tt, hndl, hg8, hnu⟩ := hn
 refine Y.calls 98 Try.func71 rfl rfl ?_
 intro ac F0
 have F : Fr ac 98 [(0, Vp bp), (1, Vi t)] := F0.sub _
 clear F0
 refine Y.seq ?_
 refine Y.lit (by kernel_rfl) ?_
 refine Y.pv F (X.box rfl (F.e 0 rfl) (Y.bx1 rfl)) ?_;clear F ac;intro ac F
 have hq3 : bn < w.heap.size := hS.lt
 have hq4 : bp < w.heap.size := lt_cell (hC.at 0 rfl)
 have g := Gr.alloc w (.cells #[Vp bp] 60)
 have hb := heap_alloc_new w (.cells #[Vp bp] 60)
 have hbl : w.heap.size < (w.alloc (.cells #[Vp bp] 60)).heap.size := by simp
 have hC2 : RCells (w.alloc (.cells #[Vp bp] 60)) [(Ad bp 0, Vi gr), (Ad bp 1, Vi hold), (Ad bp 2, .slice na n nc), (Ad bp 3, .slice la m lc), (Ad bp 4, .slice pa n cap), (Ad w.heap.size 0, Vp bp)] := hC.box (b := w.heap.size) #[Vp bp] 60 rfl
 generalize w.alloc (.cells #[Vp bp] 60) = w5 at *
 replace G := G.trans g
 replace hC := hC2
 clear hC2
 replace hE := hE.thenGr g
 replace hP := hP.gr g
 replace hS := hS.gr g
 clear g hb hbl
 refine Y.nil ?_
 replace F : Fr ac 98 [(0, Vp bp), (1, Vi t), (2, Vp w.heap.size)] := F.sub _
 refine X.thenN ?_
 refine Y.seq ?_
 refine Y.seq ?_
 refine Y.lit (by kernel_rfl) ?_
 refine Y.pv F (X.load rfl (F.e 2 rfl) (X.ld1 (Try.agg60 _) (hC.at 5 rfl))) ?_;clear F ac;intro ac F
 refine Y.pv F (Y.nilC rfl (F.e 9 rfl)) ?_;clear F ac;intro ac F
 refine Y.pv F (X.field rfl (F.e 10 rfl) (X.fld Try.underlying101 rfl (Try.siz99 _) rfl rfl)) ?_;clear F ac;intro ac F
 refine Y.pv F (X.load rfl (F.e 11 rfl) (X.ld1 (Try.agg99 _) (hC.at 4 rfl))) ?_;clear F ac;intro ac F
 refine Y.pv F (X.len1 Try.underlying99 rfl (F.e 12 rfl)) ?_;clear F ac;intro ac F
 refine Y.pv F (X.move rfl (X.kc (Vi 0) rfl)) ?_;clear F ac;intro ac F
 refine Y.nil ?_
 replace F : Fr ac 98 [(0, Vp bp), (1, Vi t), (2, Vp w.heap.size), (13, Vi n), (14, Vi 0)] := F.sub _
 refine X.thenN ?_
 refine Y.block ?_
 have hE_1 := hE
 have hP_1 := hP
 have hC_1 := hC
 refine Y.loop (fun me_ ac wr => ∃ (i : Nat), me_ = n - i ∧ i ≤ n ∧ Only (fun b => b = bn) w5 wr ∧ OwnP wr bn (n * 17) (NV (itN (refill1 t) i s)) ∧ Fr ac 98 [(0, Vp bp), (1, Vi t), (2, Vp w.heap.size), (13, Vi n), (14, Vi i)]) _ ⟨0, rfl, Nat.zero_le _, Only.refl _ _, hS, F.sub _⟩ ?_
 clear F hP hC hS ac hE
 intro me_ ac w6 hI
 obtain ⟨i, rfl, hi, hI1, hS, F⟩ := hI
 have hP := hP_1.on hI1
 have hE := hE_1.trans hI1
 have hC := (hC_1.kc hI1 0 rfl (hC_1.kc hI1 1 rfl (hC_1.kc hI1 2 rfl (hC_1.kc hI1 3 rfl (hC_1.kc hI1 4 rfl (hC_1.kc hI1 5 rfl (RCells.nil _)))))))
 replace G := Gr.refl w6
 refine Y.seq ?_
 refine Y.lit (by kernel_rfl) ?_
 refine Y.pv F (X.binop rfl (F.e 14 rfl) (F.e 13 rfl) (X.lssI Try.underlying3 rfl)) ?_;clear F ac;intro ac F
 refine Y.nil ?_
 replace F : Fr ac 98 [(0, Vp bp), (1, Vi t), (2, Vp w.heap.size), (13, Vi n), (14, Vi i), (15, .bool (decide ((i : Int) < n)))] := F.sub _
 refine X.thenN ?_
 refine Y.seq ?_
 cases h7 : decide ((i : Int) < n) with
 | false =>
  try rw [h7] at F
  have h7p : ¬ ((i : Int) < n) := of_decide_eq_false h7
  obtain rfl : n = i := by omega
  refine Y.condF (F.e 15 rfl) ?_
  refine Y.exit ?_
  refine X.thenX ?_
  refine X.thenX ?_
  refine X.blockX ?_
  refine X.thenN ?_
  refine Y.seq ?_
  refine Y.lit (by kernel_rfl) ?_
  refine Y.pv F (X.load rfl (F.e 2 rfl) (X.ld1 (Try.agg60 _) (hC.at 5 rfl))) ?_;clear F ac;intro ac F
  refine Y.pv F (X.move rfl (F.e 1 rfl)) ?_;clear F ac;intro ac F
  refine Y.pv F (X.bs rfl (X.b1 (X.kc (Vi 3) rfl)) (Try.bs34_1 3 _)) ?_;clear F ac;intro ac F
  have hq8 : bn < w6.heap.size := hS.lt
  have hq9 : bp < w6.heap.size := lt_cell (hC.at 0 rfl)
  have hq10 : w.heap.size < w6.heap.size := lt_cell (hC.at 5 rfl)
  have g := Gr.alloc w6 (.cells #[Vi 3] 3)
  have hb := heap_alloc_new w6 (.cells #[Vi 3] 3)
  have hbl : w6.heap.size < (w6.alloc (.cells #[Vi 3] 3)).heap.size := by simp
  have hC2 : RCells (w6.alloc (.cells #[Vi 3] 3)) [(Ad bp 0, Vi gr), (Ad bp 1, Vi hold), (Ad bp 2, .slice na n nc), (Ad bp 3, .slice la m lc), (Ad bp 4, .slice pa n cap), (Ad w.heap.size 0, Vp bp), (Ad w6.heap.size 0, Vi 3)] := hC.box (b := w6.heap.size) #[Vi 3] 3 rfl
  generalize w6.alloc (.cells #[Vi 3] 3) = w11 at *
  replace G := G.trans g
  replace hC := hC2
  clear hC2
  replace hE := hE.thenGr g
  replace hI1 := hI1.thenGr g
  replace hP := hP.gr g
  replace hS := hS.gr g
  have hks := (ints_one (hC.at 6 rfl) : Ints w11 (some ⟨w6.heap.size, 0, none⟩) 1 [3])
  clear g hb hbl
  refine Y.pcall F (X.w0 rfl) rfl (X.enter (F := 84) rfl (X.kc (.func (.func 84) #[] #[]) rfl) (X.a3 (F.e 50 rfl) (F.e 51 rfl) (F.e 52 rfl)) (enters_of Try.func84 (by kernel_rfl) rfl _)) (at_any bp t (some ⟨w6.heap.size, 0, none⟩) 1 1 w11) ?_
  have hq12 : bn < w11.heap.size := hS.lt
  have hq13 : bp < w11.heap.size := lt_cell (hC.at 0 rfl)
  have hq14 : w.heap.size < w11.heap.size := lt_cell (hC.at 5 rfl)
  have hq15 : w6.heap.size < w11.heap.size := lt_cell (hC.at 6 rfl)
  clear F ac
  rintro e w16 ⟨bx, bt, bk, rfl, cx, ct, ck, hb1, ⟨hb2, hb3⟩, g⟩
  refine ⟨_, rfl, ?_⟩
  intro ac F
  replace G := G.trans g
  replace hC := hC.gr g
  replace hE := hE.thenGr g
  replace hI1 := hI1.thenGr g
  replace hP := hP.gr g
  replace hS := hS.gr g
  replace hks := hks.gr g
  clear g
  replace hC : RCells w16 [(Ad bp 0, Vi gr), (Ad bp 1, Vi hold), (Ad bp 2, .slice na n nc), (Ad bp 3, .slice la m lc), (Ad bp 4, .slice pa n cap), (Ad w.heap.size 0, Vp bp), (Ad w6.heap.size 0, Vi 3), (Ad bx 0, Vp bp), (Ad bt 0, Vi t), (Ad bk 0, .slice (some ⟨w6.heap.size, 0, none⟩) 1 1)] := hC.append ((RCells.cons cx (RCells.cons ct (RCells.cons ck (RCells.nil _)))))
  refine Y.nil ?_
  replace F : Fr ac 98 [(0, Vp bp), (1, Vi t), (2, Vp w.heap.size), (13, Vi n), (14, Vi n), (15, .bool false), (53, .func (.func 96) #[] #[Vp bx, Vp bt, Vp bk])] := F.sub _
  refine X.thenN ?_
  refine Y.block ?_
  replace F : Fr ac 98 [(0, Vp bp), (1, Vi t), (2, Vp w.heap.size), (13, Vi n), (14, Vi n), (15, .bool false), (53, .func (.func 96) #[] #[Vp bx, Vp bt, Vp bk])] := F.sub _
  have hq17 : bn < w16.heap.size := hS.lt
  have hq18 : bk < w16.heap.size := lt_cell (hC.at 9 rfl)
  have hq19 : bp < w16.heap.size := lt_cell (hC.at 0 rfl)
  have hq20 : bt < w16.heap.size := lt_cell (hC.at 8 rfl)
  have hq21 : bx < w16.heap.size := lt_cell (hC.at 7 rfl)
  have hq22 : w.heap.size < w16.heap.size := lt_cell (hC.at 5 rfl)
  have hq23 : w6.heap.size < w16.heap.size := lt_cell (hC.at 6 rfl)
  have hPb := hP.pb
  have hPn := hP.nb
  have hPe := hP.ne
  have hgB := hP.g.size
  have hmut : bn < w16.heap.size := hS.lt
  have hkb : w6.heap.size < w16.heap.size := lt_cell (hC.at 6 rfl)
  refine Y.atRange (D := []) F (by decide) (by decide) rfl rfl rfl rfl rfl rfl rfl (F.ev 53 _) (fun b => b = bn) (fun b e => by rw [e]; exact hmut) (hP.ate (hC.at 7 rfl) (hC.at 8 rfl) (hC.at 9 rfl) hks hkb (fun b e => by subst e; exact ⟨by omega, by omega, by omega, by omega, by omega, by omega⟩)) (fun xs W => OwnP W bn (n * 17) (NV (xs.foldl (noiseX hold) (itN (refill1 t) n s)))) hS (fun xs W W2 h g => h.only g (by omega)) ?_ ?_
  ·have hP_r := hP
   have hC_r := hC
   clear F ac G hP hC hE hI1
   clear hS
   intro pre x w24 ac xb hQ hS hpre hx4 hxb hN F
   have hP := hP_r.on hQ
   have hC : RCells w24 [(Ad bp 0, Vi gr), (Ad bp 1, Vi hold), (Ad bp 2, .slice na n nc), (Ad bp 3, .slice la m lc), (Ad bp 4, .slice pa n cap), (Ad w.heap.size 0, Vp bp), (Ad xb 0, Vi (nv x 0)), (Ad xb 1, Vi (nv x 1)), (Ad xb 2, Vi (nv x 2)), (Ad xb 3, Vi (nv x 3))] := (hC_r.kc hQ 0 rfl (hC_r.kc hQ 1 rfl (hC_r.kc hQ 2 rfl (hC_r.kc hQ 3 rfl (hC_r.kc hQ 4 rfl (hC_r.kc hQ 5 rfl hN))))))
   have G := Gr.refl w24
   have hR_ := Only.refl (fun b => b = bn) w24
   replace F : Fr ac 98 [(0, Vp bp), (1, Vi t), (2, Vp w.heap.size), (6, Vp xb), (13, Vi n), (14, Vi n), (15, .bool false), (53, .func (.func 96) #[] #[Vp bx, Vp bt, Vp bk]), (54, .agg #[Vi (nv x 0), Vi (nv x 1), Vi (nv x 2), Vi (nv x 3)])] := F.sub _
   have hnx := hnu x (mem_pre hpre)
   have hxn := hnx.n0
   have hxn1 := hnx.n1
   have hkk := (hok.refill t n (Nat.le_refl _)).noise h1 h100 pre (fun y hy => by have := (hnu y (pre_mem hpre hy)).n0; have := (hnu y (pre_mem hpre hy)).n1; omega)
   have hkt := hkk.t (nv x 2).toNat (by omega) 15 (by decide) (by decide)
   refine Y.block ?_
   refine Y.seq ?_
   obtain rfl : pa = some ⟨bn, 0, none⟩ := hP.hpa (by omega)
   refine Y.region F [some (Vp bp), some (Vp bp), some (.pointer (some ⟨bp, 4, none⟩)), some (.slice (some ⟨bn, 0, none⟩) n cap), some (.pointer (some ⟨xb, 2, none⟩)), some (Vi (nv x 2)), some (.pointer (some ⟨bn, ((nv x 2).toNat) * 17, none⟩)), some (.pointer (some ⟨bn, ((nv x 2).toNat) * 17, none⟩))] [] rfl ⟨by kernel_rfl, of_decide_eq_true (by kernel_rfl), by kernel_rfl, by kernel_rfl, by kernel_rfl⟩ ⟨?_, ?_, ?_, ?_, ?_, ?_, ?_, ?_, trivial⟩ ?_
   ·intro ac done u W Sx hR
    have g : Gr w24 W := hR.1
    exact X.vl (X.load rfl (Sx.ev 2 (Vp w.heap.size)) (X.ld1 (Try.agg60 _) ((hC.gr g).at 5 rfl))) hR.st0
   ·intro ac done u W Sx hR
    exact X.vl (Y.nilC rfl (Sx.ev 55 (Vp bp))) hR.st0
   ·intro ac done u W Sx hR
    exact X.vl (X.field rfl (Sx.ev 56 (Vp bp)) (X.fld Try.underlying101 rfl (Try.siz99 _) rfl rfl)) hR.st0
   ·intro ac done u W Sx hR
    have g : Gr w24 W := hR.1
    exact X.vl (X.load rfl (Sx.ev 57 (.pointer (some ⟨bp, 4, none⟩))) (X.ld1 (Try.agg99 _) ((hC.gr g).at 4 rfl))) hR.st0
   ·intro ac done u W Sx hR
    exact X.vl (X.field rfl (Sx.ev 6 (Vp xb)) (X.fld Try.underlying33 rfl (Try.siz3 _) rfl rfl)) hR.st0
   ·intro ac done u W Sx hR
    have g : Gr w24 W := hR.1
    exact X.vl (X.load rfl (Sx.ev 59 (.pointer (some ⟨xb, 2, none⟩))) (X.ld1 (Try.agg3 _) ((hC.gr g).at 8 rfl))) hR.st0
   ·intro ac done u W Sx hR
    exact X.vl (X.index rfl (Sx.ev 58 (.slice (some ⟨bn, 0, none⟩) n cap)) (Sx.ev 60 (Vi (nv x 2))) (X.idx (k := (nv x 2).toNat) Try.underlying99 (Try.siz104 _) (by omega) (by omega) (addr_add0 _ _))) hR.st0
   ·intro ac done u W Sx hR
    exact X.vl (X.assign rfl (Sx.ev 61 (.pointer (some ⟨bn, ((nv x 2).toNat) * 17, none⟩)))) hR.st0
   intro ac u w25 hs hd hl ho hR
   have g : Gr w24 w25 := hR.1
   replace F : Fr ac 98 [(0, Vp bp), (1, Vi t), (2, Vp w.heap.size), (6, Vp xb), (7, .pointer (some ⟨bn, ((nv x 2).toNat) * 17, none⟩)), (13, Vi n), (14, Vi n), (15, .bool false), (53, .func (.func 96) #[] #[Vp bx, Vp bt, Vp bk]), (54, .agg #[Vi (nv x 0), Vi (nv x 1), Vi (nv x 2), Vi (nv x 3)])] := X.fr hs hd hl _ (by kernel_rfl)
   clear hs hd hl ho hR
   replace G := G.trans g
   replace hC := hC.gr g
   replace hQ := hQ.thenGr g
   replace hR_ := hR_.thenGr g
   replace hP := hP.gr g
   replace hS := hS.gr g
   clear g
   refine X.thenN ?_
   refine Y.seq ?_
   refine Y.lit (by kernel_rfl) ?_
   refine Y.pv F (X.move rfl (F.ev 7 (.pointer (some ⟨bn, ((nv x 2).toNat) * 17, none⟩)))) ?_;clear F ac;intro ac F
   refine Y.pv F (Y.nilC rfl (F.ev 62 (.pointer (some ⟨bn, ((nv x 2).toNat) * 17, none⟩)))) ?_;clear F ac;intro ac F
   refine Y.pv F (X.field rfl (F.ev 63 (.pointer (some ⟨bn, ((nv x 2).toNat) * 17, none⟩))) (X.fld Try.underlying104 rfl (Try.siz102 _) rfl rfl)) ?_;clear F ac;intro ac F
   refine Y.pv F (X.index rfl (F.ev 64 (.pointer (some ⟨bn, ((nv x 2).toNat) * 17 + 6, none⟩))) (X.kc (Vi 8) rfl) (Y.idxA (k := 8) Try.underlying102 (Try.siz3 _) (by decide) (by omega) (by omega) rfl)) ?_;clear F ac;intro ac F
   refine Y.pv F (X.assign rfl (F.ev 65 (.pointer (some ⟨bn, ((nv x 2).toNat) * 17 + 14, none⟩)))) ?_;clear F ac;intro ac F
   refine Y.nil ?_
   replace F : Fr ac 98 [(0, Vp bp), (1, Vi t), (2, Vp w.heap.size), (6, Vp xb), (7, .pointer (some ⟨bn, ((nv x 2).toNat) * 17, none⟩)), (8, .pointer (some ⟨bn, ((nv x 2).toNat) * 17 + 14, none⟩)), (13, Vi n), (14, Vi n), (15, .bool false), (53, .func (.func 96) #[] #[Vp bx, Vp bt, Vp bk]), (54, .agg #[Vi (nv x 0), Vi (nv x 1), Vi (nv x 2), Vi (nv x 3)])] := F.sub _
   refine X.thenN ?_
   refine Y.seq ?_
   refine Y.lit (by kernel_rfl) ?_
   refine Y.pv F (X.move rfl (F.ev 7 (.pointer (some ⟨bn, ((nv x 2).toNat) * 17, none⟩)))) ?_;clear F ac;intro ac F
   refine Y.pv F (Y.nilC rfl (F.ev 66 (.pointer (some ⟨bn, ((nv x 2).toNat) * 17, none⟩)))) ?_;clear F ac;intro ac F
   refine Y.pv F (X.field rfl (F.ev 67 (.pointer (some ⟨bn, ((nv x 2).toNat) * 17, none⟩))) (X.fld Try.underlying104 rfl (Try.siz4 _) rfl rfl)) ?_;clear F ac;intro ac F
   replace hC : RCells w25 [(Ad bp 0, Vi gr), (Ad bp 1, Vi hold), (Ad bp 2, .slice na n nc), (Ad bp 3, .slice la m lc), (Ad bp 4, .slice (some ⟨bn, 0, none⟩) n cap), (Ad w.heap.size 0, Vp bp), (Ad xb 0, Vi (nv x 0)), (Ad xb 1, Vi (nv x 1)), (Ad xb 2, Vi (nv x 2)), (Ad xb 3, Vi (nv x 3)), (⟨bn, ((nv x 2).toNat) * 17 + 16, none⟩, .bool (bz ((pre.foldl (noiseX hold) (itN (refill1 t) n s)) ((nv x 2).toNat) 16)))] := hC.append ((RCells.cons ((hS.cell (k := ((nv x 2).toNat) * 17 + 16) (by omega)).trans (congrArg some (NV_bool (pre.foldl (noiseX hold) (itN (refill1 t) n s)) ((nv x 2).toNat)))) (RCells.nil _)))
   refine Y.pv F (X.load rfl (F.ev 68 (.pointer (some ⟨bn, ((nv x 2).toNat) * 17 + 16, none⟩))) (X.ld1 (Try.agg4 _) (hC.at 10 rfl))) ?_;clear F ac;intro ac F
   refine Y.pv F (X.notB rfl (F.e 69 rfl) rfl) ?_;clear F ac;intro ac F
   refine Y.pv F (X.move rfl (F.e 70 rfl)) ?_;clear F ac;intro ac F
   cases h26 : bz ((pre.foldl (noiseX hold) (itN (refill1 t) n s)) ((nv x 2).toNat) 16) with
   | false =>
    try rw [h26] at F
    have haw := bz_false h26
    refine Y.pval F (X.w1 rfl (F.yl (j := 5) (d := 71) (b := true) rfl (by kernel_rfl))) rfl (X.move rfl (F.ev 7 (.pointer (some ⟨bn, ((nv x 2).toNat) * 17, none⟩)))) ?_;clear F ac;intro ac F
    refine Y.pval F (X.w1 rfl (F.yl (j := 5) (d := 71) (b := true) rfl (by kernel_rfl))) rfl (Y.nilC rfl (F.ev 72 (.pointer (some ⟨bn, ((nv x 2).toNat) * 17, none⟩)))) ?_;clear F ac;intro ac F
    refine Y.pval F (X.w1 rfl (F.yl (j := 5) (d := 71) (b := true) rfl (by kernel_rfl))) rfl (X.field rfl (F.ev 73 (.pointer (some ⟨bn, ((nv x 2).toNat) * 17, none⟩))) (X.fld Try.underlying104 rfl (Try.siz3 _) rfl rfl)) ?_;clear F ac;intro ac F
    replace hC : RCells w25 [(Ad bp 0, Vi gr), (Ad bp 1, Vi hold), (Ad bp 2, .slice na n nc), (Ad bp 3, .slice la m lc), (Ad bp 4, .slice (some ⟨bn, 0, none⟩) n cap), (Ad w.heap.size 0, Vp bp), (Ad xb 0, Vi (nv x 0)), (Ad xb 1, Vi (nv x 1)), (Ad xb 2, Vi (nv x 2)), (Ad xb 3, Vi (nv x 3)), (⟨bn, ((nv x 2).toNat) * 17 + 16, none⟩, .bool (bz ((pre.foldl (noiseX hold) (itN (refill1 t) n s)) ((nv x 2).toNat) 16))), (⟨bn, ((nv x 2).toNat) * 17 + 15, none⟩, Vi ((pre.foldl (noiseX hold) (itN (refill1 t) n s)) ((nv x 2).toNat) 15))] := hC.append ((RCells.cons ((hS.cell (k := ((nv x 2).toNat) * 17 + 15) (by omega)).trans (congrArg some (NV_int (pre.foldl (noiseX hold) (itN (refill1 t) n s)) ((nv x 2).toNat) 15 (by decide)))) (RCells.nil _)))
    refine Y.pval F (X.w1 rfl (F.yl (j := 5) (d := 71) (b := true) rfl (by kernel_rfl))) rfl (X.load rfl (F.ev 74 (.pointer (some ⟨bn, ((nv x 2).toNat) * 17 + 15, none⟩))) (X.ld1 (Try.agg3 _) (hC.at 11 rfl))) ?_;clear F ac;intro ac F
    refine Y.pval F (X.w1 rfl (F.yl (j := 5) (d := 71) (b := true) rfl (by kernel_rfl))) rfl (X.binop rfl (F.e 75 rfl) (X.kc (Vi 0) rfl) (X.gtrI Try.underlying3 rfl)) ?_;clear F ac;intro ac F
    refine Y.pv F (X.pickT rfl (F.e 71 rfl) (F.e 76 rfl)) ?_;clear F ac;intro ac F
    refine Y.pv F (X.move rfl (F.e 77 rfl)) ?_;clear F ac;intro ac F
    cases h27 : decide ((0 : Int) < ((pre.foldl (noiseX hold) (itN (refill1 t) n s)) ((nv x 2).toNat) 15)) with
    | false =>
     try rw [h27] at F
     have h27p : ¬ ((0 : Int) < ((pre.foldl (noiseX hold) (itN (refill1 t) n s)) ((nv x 2).toNat) 15)) := of_decide_eq_false h27
     refine Y.pskip F (X.w2 rfl (F.yl (j := 12) (d := 78) (b := false) rfl (by kernel_rfl)) rfl) rfl ?_;clear F ac;intro ac F
     refine Y.pskip F (X.w2 rfl (F.yl (j := 12) (d := 78) (b := false) rfl (by kernel_rfl)) rfl) rfl ?_;clear F ac;intro ac F
     refine Y.pskip F (X.w2 rfl (F.yl (j := 12) (d := 78) (b := false) rfl (by kernel_rfl)) rfl) rfl ?_;clear F ac;intro ac F
     refine Y.pskip F (X.w2 rfl (F.yl (j := 12) (d := 78) (b := false) rfl (by kernel_rfl)) rfl) rfl ?_;clear F ac;intro ac F
     refine Y.pv F (X.pickF rfl (F.e 78 rfl) (X.kc (.bool false) rfl)) ?_;clear F ac;intro ac F
     refine Y.nil ?_
     replace F : Fr ac 98 [(0, Vp bp), (1, Vi t), (2, Vp w.heap.size), (6, Vp xb), (7, .pointer (some ⟨bn, ((nv x 2).toNat) * 17, none⟩)), (8, .pointer (some ⟨bn, ((nv x 2).toNat) * 17 + 14, none⟩)), (13, Vi n), (14, Vi n), (15, .bool false), (53, .func (.func 96) #[] #[Vp bx, Vp bt, Vp bk]), (54, .agg #[Vi (nv x 0), Vi (nv x 1), Vi (nv x 2), Vi (nv x 3)]), (83, .bool false)] := F.sub _
     refine X.thenN ?_
     refine Y.condF (F.e 83 rfl) ?_
     refine Y.skip ?_
     refine X.blockN ?_
     exact ⟨hR_, hQ, by rw [List.foldl_append]; exact (by show OwnP _ _ _ (NV (noiseX hold _ x)); rw [noiseX_neg (by omega)]; exact hS)⟩
    | true =>
     try rw [h27] at F
     have h27p : ((0 : Int) < ((pre.foldl (noiseX hold) (itN (refill1 t) n s)) ((nv x 2).toNat) 15)) := of_decide_eq_true h27
     refine Y.pval F (X.w1 rfl (F.yl (j := 12) (d := 78) (b := true) rfl (by kernel_rfl))) rfl (X.move rfl (F.ev 8 (.pointer (some ⟨bn, ((nv x 2).toNat) * 17 + 14, none⟩)))) ?_;clear F ac;intro ac F
     refine Y.pval F (X.w1 rfl (F.yl (j := 12) (d := 78) (b := true) rfl (by kernel_rfl))) rfl (Y.nilC rfl (F.ev 79 (.pointer (some ⟨bn, ((nv x 2).toNat) * 17 + 14, none⟩)))) ?_;clear F ac;intro ac F
     replace hC : RCells w25 [(Ad bp 0, Vi gr), (Ad bp 1, Vi hold), (Ad bp 2, .slice na n nc), (Ad bp 3, .slice la m lc), (Ad bp 4, .slice (some ⟨bn, 0, none⟩) n cap), (Ad w.heap.size 0, Vp bp), (Ad xb 0, Vi (nv x 0)), (Ad xb 1, Vi (nv x 1)), (Ad xb 2, Vi (nv x 2)), (Ad xb 3, Vi (nv x 3)), (⟨bn, ((nv x 2).toNat) * 17 + 16, none⟩, .bool (bz ((pre.foldl (noiseX hold) (itN (refill1 t) n s)) ((nv x 2).toNat) 16))), (⟨bn, ((nv x 2).toNat) * 17 + 15, none⟩, Vi ((pre.foldl (noiseX hold) (itN (refill1 t) n s)) ((nv x 2).toNat) 15)), (⟨bn, ((nv x 2).toNat) * 17 + 14, none⟩, Vi ((pre.foldl (noiseX hold) (itN (refill1 t) n s)) ((nv x 2).toNat) 14))] := hC.append ((RCells.cons ((hS.cell (k := ((nv x 2).toNat) * 17 + 14) (by omega)).trans (congrArg some (NV_int (pre.foldl (noiseX hold) (itN (refill1 t) n s)) ((nv x 2).toNat) 14 (by decide)))) (RCells.nil _)))
     refine Y.pval F (X.w1 rfl (F.yl (j := 12) (d := 78) (b := true) rfl (by kernel_rfl))) rfl (X.load rfl (F.ev 80 (.pointer (some ⟨bn, ((nv x 2).toNat) * 17 + 14, none⟩))) (X.ld1 (Try.agg3 _) (hC.at 12 rfl))) ?_;clear F ac;intro ac F
     refine Y.pval F (X.w1 rfl (F.yl (j := 12) (d := 78) (b := true) rfl (by kernel_rfl))) rfl (X.binop rfl (F.e 81 rfl) (X.kc (Vi 0) rfl) (X.eqlI Try.underlying3 rfl)) ?_;clear F ac;intro ac F
     refine Y.pv F (X.pickT rfl (F.e 78 rfl) (F.e 82 rfl)) ?_;clear F ac;intro ac F
     refine Y.nil ?_
     replace F : Fr ac 98 [(0, Vp bp), (1, Vi t), (2, Vp w.heap.size), (6, Vp xb), (7, .pointer (some ⟨bn, ((nv x 2).toNat) * 17, none⟩)), (8, .pointer (some ⟨bn, ((nv x 2).toNat) * 17 + 14, none⟩)), (13, Vi n), (14, Vi n), (15, .bool false), (53, .func (.func 96) #[] #[Vp bx, Vp bt, Vp bk]), (54, .agg #[Vi (nv x 0), Vi (nv x 1), Vi (nv x 2), Vi (nv x 3)]), (83, .bool (((pre.foldl (noiseX hold) (itN (refill1 t) n s)) ((nv x 2).toNat) 14 : Int) == 0))] := F.sub _
     refine X.thenN ?_
     cases h28 : (((pre.foldl (noiseX hold) (itN (refill1 t) n s)) ((nv x 2).toNat) 14 : Int) == 0) with
     | false =>
      try rw [h28] at F
      have h28p : ¬ ((pre.foldl (noiseX hold) (itN (refill1 t) n s)) ((nv x 2).toNat) 14 : Int) = 0 := by simpa using h28
      refine Y.condF (F.e 83 rfl) ?_
      refine Y.skip ?_
      refine X.blockN ?_
      exact ⟨hR_, hQ, by rw [List.foldl_append]; exact (by show OwnP _ _ _ (NV (noiseX hold _ x)); rw [noiseX_neg (by omega)]; exact hS)⟩
     | true =>
      try rw [h28] at F
      have h28p : ((pre.foldl (noiseX hold) (itN (refill1 t) n s)) ((nv x 2).toNat) 14 : Int) = 0 := by simpa using h28
      refine Y.condT (F.e 83 rfl) ?_
      refine Y.seq ?_
      refine Y.lit (by kernel_rfl) ?_
      refine Y.pv F (X.move rfl (F.ev 7 (.pointer (some ⟨bn, ((nv x 2).toNat) * 17, none⟩)))) ?_;clear F ac;intro ac F
      refine Y.pv F (Y.nilC rfl (F.ev 84 (.pointer (some ⟨bn, ((nv x 2).toNat) * 17, none⟩)))) ?_;clear F ac;intro ac F
      refine Y.pv F (X.field rfl (F.ev 85 (.pointer (some ⟨bn, ((nv x 2).toNat) * 17, none⟩))) (X.fld Try.underlying104 rfl (Try.siz3 _) rfl rfl)) ?_;clear F ac;intro ac F
      refine Y.pv F (X.load rfl (F.ev 86 (.pointer (some ⟨bn, ((nv x 2).toNat) * 17 + 15, none⟩))) (X.ld1 (Try.agg3 _) (hC.at 11 rfl))) ?_;clear F ac;intro ac F
      refine Y.pv F (X.binop rfl (F.e 87 rfl) (X.kc (Vi 1) rfl) (X.subI Try.underlying3 rfl (by omega) (by omega))) ?_;clear F ac;intro ac F
      refine Y.pv F (Y.nilC rfl (F.ev 84 (.pointer (some ⟨bn, ((nv x 2).toNat) * 17, none⟩)))) ?_;clear F ac;intro ac F
      refine Y.pv F (X.field rfl (F.ev 89 (.pointer (some ⟨bn, ((nv x 2).toNat) * 17, none⟩))) (X.fld Try.underlying104 rfl (Try.siz3 _) rfl rfl)) ?_;clear F ac;intro ac F
      refine Y.punit F (X.w0 rfl) rfl (X.store rfl (F.ev 90 (.pointer (some ⟨bn, ((nv x 2).toNat) * 17 + 15, none⟩))) (F.e 88 rfl) (hS.st1 (Try.siz3 _) rfl rfl (by omega))) ?_;clear F ac;intro ac F
      have hon := Y.set_only w25 bn (((nv x 2).toNat) * 17 + 15) (Vi (((pre.foldl (noiseX hold) (itN (refill1 t) n s)) ((nv x 2).toNat) 15 : Int) - 1))
      have hS2 := hS.set (k := ((nv x 2).toNat) * 17 + 15) (Vi (((pre.foldl (noiseX hold) (itN (refill1 t) n s)) ((nv x 2).toNat) 15 : Int) - 1))
      rw [NV_up _ _ _ (by decide)] at hS2
      generalize w25.setCell ⟨bn, ((nv x 2).toNat) * 17 + 15, none⟩ (Vi (((pre.foldl (noiseX hold) (itN (refill1 t) n s)) ((nv x 2).toNat) 15 : Int) - 1)) = w29 at *
      replace hP := hP.on hon
      replace hC := (hC.kc hon 0 rfl (hC.kc hon 1 rfl (hC.kc hon 2 rfl (hC.kc hon 3 rfl (hC.kc hon 4 rfl (hC.kc hon 5 rfl (hC.kc hon 6 rfl (hC.kc hon 7 rfl (hC.kc hon 8 rfl (hC.kc hon 9 rfl (RCells.nil _)))))))))))
      replace hQ := hQ.step hon (.inl rfl)
      replace hR_ := hR_.step hon (.inl rfl)
      replace G := Gr.refl w29
      replace hS : OwnP w29 bn (n * 17) (NV (up (pre.foldl (noiseX hold) (itN (refill1 t) n s)) ((nv x 2).toNat) 15 (((pre.foldl (noiseX hold) (itN (refill1 t) n s)) ((nv x 2).toNat) 15 : Int) - 1 : Int))) := hS2
      clear hS2 hon
      refine Y.nil ?_
      replace F : Fr ac 98 [(0, Vp bp), (1, Vi t), (2, Vp w.heap.size), (6, Vp xb), (7, .pointer (some ⟨bn, ((nv x 2).toNat) * 17, none⟩)), (8, .pointer (some ⟨bn, ((nv x 2).toNat) * 17 + 14, none⟩)), (13, Vi n), (14, Vi n), (15, .bool false), (53, .func (.func 96) #[] #[Vp bx, Vp bt, Vp bk]), (54, .agg #[Vi (nv x 0), Vi (nv x 1), Vi (nv x 2), Vi (nv x 3)]), (83, .bool true)] := F.sub _
      refine X.thenN ?_
      refine Y.lit (by kernel_rfl) ?_
      refine Y.pv F (X.move rfl (F.ev 8 (.pointer (some ⟨bn, ((nv x 2).toNat) * 17 + 14, none⟩)))) ?_;clear F ac;intro ac F
      refine Y.pv F (X.load rfl (F.e 2 rfl) (X.ld1 (Try.agg60 _) (hC.at 5 rfl))) ?_;clear F ac;intro ac F
      refine Y.pv F (Y.nilC rfl (F.e 92 rfl)) ?_;clear F ac;intro ac F
      refine Y.pv F (X.field rfl (F.e 93 rfl) (X.fld Try.underlying101 rfl (Try.siz24 _) rfl rfl)) ?_;clear F ac;intro ac F
      refine Y.pv F (X.field rfl (F.e 94 rfl) (X.fld Try.underlying24 rfl (Try.siz3 _) rfl rfl)) ?_;clear F ac;intro ac F
      refine Y.pv F (X.load rfl (F.e 95 rfl) (X.ld1 (Try.agg3 _) (hC.at 1 rfl))) ?_;clear F ac;intro ac F
      refine Y.pv F (Y.nilC rfl (F.ev 91 (.pointer (some ⟨bn, ((nv x 2).toNat) * 17 + 14, none⟩)))) ?_;clear F ac;intro ac F
      refine Y.punit F (X.w0 rfl) rfl (X.store rfl (F.ev 97 (.pointer (some ⟨bn, ((nv x 2).toNat) * 17 + 14, none⟩))) (F.e 96 rfl) (hS.st1 (Try.siz3 _) rfl rfl (by omega))) ?_;clear F ac;intro ac F
      have hon := Y.set_only w29 bn (((nv x 2).toNat) * 17 + 14) (Vi hold)
      have hS2 := hS.set (k := ((nv x 2).toNat) * 17 + 14) (Vi hold)
      rw [NV_up _ _ _ (by decide)] at hS2
      generalize w29.setCell ⟨bn, ((nv x 2).toNat) * 17 + 14, none⟩ (Vi hold) = w30 at *
      replace hP := hP.on hon
      replace hC := (hC.kc hon 0 rfl (hC.kc hon 1 rfl (hC.kc hon 2 rfl (hC.kc hon 3 rfl (hC.kc hon 4 rfl (hC.kc hon 5 rfl (hC.kc hon 6 rfl (hC.kc hon 7 rfl (hC.kc hon 8 rfl (hC.kc hon 9 rfl (RCells.nil _)))))))))))
      replace hQ := hQ.step hon (.inl rfl)
      replace hR_ := hR_.step hon (.inl rfl)
      replace G := Gr.refl w30
      replace hS : OwnP w30 bn (n * 17) (NV (up (up (pre.foldl (noiseX hold) (itN (refill1 t) n s)) ((nv x 2).toNat) 15 (((pre.foldl (noiseX hold) (itN (refill1 t) n s)) ((nv x 2).toNat) 15 : Int) - 1 : Int)) ((nv x 2).toNat) 14 (hold : Int))) := hS2
      clear hS2 hon
      refine Y.nil ?_
      replace F : Fr ac 98 [(0, Vp bp), (1, Vi t), (2, Vp w.heap.size), (6, Vp xb), (7, .pointer (some ⟨bn, ((nv x 2).toNat) * 17, none⟩)), (8, .pointer (some ⟨bn, ((nv x 2).toNat) * 17 + 14, none⟩)), (13, Vi n), (14, Vi n), (15, .bool false), (53, .func (.func 96) #[] #[Vp bx, Vp bt, Vp bk]), (54, .agg #[Vi (nv x 0), Vi (nv x 1), Vi (nv x 2), Vi (nv x 3)]), (83, .bool true)] := F.sub _
      refine X.blockN ?_
      exact ⟨hR_, hQ, by rw [List.foldl_append]; exact (by show OwnP _ _ _ (NV (noiseX hold _ x)); rw [noiseX_pos haw (by omega) (by omega)]; exact hS)⟩
   | true =>
    try rw [h26] at F
    have haw := bz_true h26
    refine Y.pskip F (X.w2 rfl (F.yl (j := 5) (d := 71) (b := false) rfl (by kernel_rfl)) rfl) rfl ?_;clear F ac;intro ac F
    refine Y.pskip F (X.w2 rfl (F.yl (j := 5) (d := 71) (b := false) rfl (by kernel_rfl)) rfl) rfl ?_;clear F ac;intro ac F
    refine Y.pskip F (X.w2 rfl (F.yl (j := 5) (d := 71) (b := false) rfl (by kernel_rfl)) rfl) rfl ?_;clear F ac;intro ac F
    refine Y.pskip F (X.w2 rfl (F.yl (j := 5) (d := 71) (b := false) rfl (by kernel_rfl)) rfl) rfl ?_;clear F ac;intro ac F
    refine Y.pskip F (X.w2 rfl (F.yl (j := 5) (d := 71) (b := false) rfl (by kernel_rfl)) rfl) rfl ?_;clear F ac;intro ac F
    refine Y.pv F (X.pickF rfl (F.e 71 rfl) (X.kc (.bool false) rfl)) ?_;clear F ac;intro ac F
    refine Y.pv F (X.move rfl (F.e 77 rfl)) ?_;clear F ac;intro ac F
    refine Y.pskip F (X.w2 rfl (F.yl (j := 12) (d := 78) (b := false) rfl (by kernel_rfl)) rfl) rfl ?_;clear F ac;intro ac F
    refine Y.pskip F (X.w2 rfl (F.yl (j := 12) (d := 78) (b := false) rfl (by kernel_rfl)) rfl) rfl ?_;clear F ac;intro ac F
    refine Y.pskip F (X.w2 rfl (F.yl (j := 12) (d := 78) (b := false) rfl (by kernel_rfl)) rfl) rfl ?_;clear F ac;intro ac F
    refine Y.pskip F (X.w2 rfl (F.yl (j := 12) (d := 78) (b := false) rfl (by kernel_rfl)) rfl) rfl ?_;clear F ac;intro ac F
    refine Y.pv F (X.pickF rfl (F.e 78 rfl) (X.kc (.bool false) rfl)) ?_;clear F ac;intro ac F
    refine Y.nil ?_
    replace F : Fr ac 98 [(0, Vp bp), (1, Vi t), (2, Vp w.heap.size), (6, Vp xb), (7, .pointer (some ⟨bn, ((nv x 2).toNat) * 17, none⟩)), (8, .pointer (some ⟨bn, ((nv x 2).toNat) * 17 + 14, none⟩)), (13, Vi n), (14, Vi n), (15, .bool false), (53, .func (.func 96) #[] #[Vp bx, Vp bt, Vp bk]), (54, .agg #[Vi (nv x 0), Vi (nv x 1), Vi (nv x 2), Vi (nv x 3)]), (83, .bool false)] := F.sub _
    refine X.thenN ?_
    refine Y.condF (F.e 83 rfl) ?_
    refine Y.skip ?_
    refine X.blockN ?_
    exact ⟨hR_, hQ, by rw [List.foldl_append]; exact (by show OwnP _ _ _ (NV (noiseX hold _ x)); rw [noiseX_neg (by omega)]; exact hS)⟩
  have hE_r := hE
  have hI1_r := hI1
  have hP_r := hP
  have hC_r := hC
  clear F ac G hP hC hS
  intro w31 ac hQ hS2 hk F
  have hS := hS2
  clear hS2
  replace hE := hE_r.trans hQ
  replace hI1 := hI1_r.trans hQ
  have hP := hP_r.on hQ
  have hC := (hC_r.kc hQ 0 rfl (hC_r.kc hQ 1 rfl (hC_r.kc hQ 2 rfl (hC_r.kc hQ 3 rfl (hC_r.kc hQ 4 rfl (hC_r.kc hQ 5 rfl (RCells.nil _)))))))
  clear hC_r hP_r
  have G := Gr.refl w31
  have hmk : Mk1 w31 w16.heap.size := hk
  clear hk
  have hmlt : w16.heap.size < w31.heap.size := hmk.lt
  refine X.blockN ?_
  show bodyPostM _ _ _ _ _ .ret _ _
  exact ret_mark (v := .tuple #[]) F hmk (Y.rs0 rfl) (fun W2 hW2 => ⟨rfl, hE.step hW2 (.inr (by omega)), hS.only hW2 (by show ¬ _ = _; omega)⟩)
 | true =>
  try rw [h7] at F
  have h7p : ((i : Int) < n) := of_decide_eq_true h7
  have hi2 : i < n := by omega
  have hk := hok.refill t i (by omega)
  have hkb := hk.b i hi2
  have hkr := hk.r i hi2
  have hkt := hk.t i hi2 15 (by decide) (by decide)
  refine Y.condT (F.e 15 rfl) ?_
  refine Y.skip ?_
  refine X.thenN ?_
  refine Y.seq ?_
  refine Y.block ?_
  refine Y.seq ?_
  refine Y.lit (by kernel_rfl) ?_
  refine Y.pv F (X.move rfl (F.e 14 rfl)) ?_;clear F ac;intro ac F
  refine Y.pv F (X.assign rfl (F.e 16 rfl)) ?_;clear F ac;intro ac F
  refine Y.nil ?_
  replace F : Fr ac 98 [(0, Vp bp), (1, Vi t), (2, Vp w.heap.size), (4, Vi i), (13, Vi n), (14, Vi i), (15, .bool true)] := F.sub _
  refine X.thenN ?_
  refine Y.seq ?_
  refine Y.lit (by kernel_rfl) ?_
  refine Y.pv F (X.load rfl (F.e 2 rfl) (X.ld1 (Try.agg60 _) (hC.at 5 rfl))) ?_;clear F ac;intro ac F
  refine Y.pv F (Y.nilC rfl (F.e 17 rfl)) ?_;clear F ac;intro ac F
  refine Y.pv F (X.field rfl (F.e 18 rfl) (X.fld Try.underlying101 rfl (Try.siz99 _) rfl rfl)) ?_;clear F ac;intro ac F
  refine Y.pv F (X.load rfl (F.e 19 rfl) (X.ld1 (Try.agg99 _) (hC.at 4 rfl))) ?_;clear F ac;intro ac F
  refine Y.pv F (X.move rfl (F.e 4 rfl)) ?_;clear F ac;intro ac F
  obtain rfl : pa = some ⟨bn, 0, none⟩ := hP.hpa (by omega)
  refine Y.pv F (X.index rfl (F.e 20 rfl) (F.e 21 rfl) (X.idx (k := i) Try.underlying99 (Try.siz104 _) (by omega) (by omega) (addr_add0 _ _))) ?_;clear F ac;intro ac F
  refine Y.pv F (X.assign rfl (F.ev 22 (.pointer (some ⟨bn, i * 17, none⟩)))) ?_;clear F ac;intro ac F
  refine Y.nil ?_
  replace F : Fr ac 98 [(0, Vp bp), (1, Vi t), (2, Vp w.heap.size), (4, Vi i), (5, .pointer (some ⟨bn, i * 17, none⟩)), (13, Vi n), (14, Vi i), (15, .bool true)] := F.sub _
  refine X.thenN ?_
  refine Y.seq ?_
  refine Y.lit (by kernel_rfl) ?_
  refine Y.pv F (X.move rfl (F.e 1 rfl)) ?_;clear F ac;intro ac F
  refine Y.pv F (X.binop rfl (F.e 23 rfl) (X.kc (Vi 0) rfl) (X.gtrI Try.underlying3 rfl)) ?_;clear F ac;intro ac F
  refine Y.pv F (X.move rfl (F.e 24 rfl)) ?_;clear F ac;intro ac F
  cases h32 : decide ((0 : Int) < t) with
  | false =>
   try rw [h32] at F
   have h32p : ¬ ((0 : Int) < t) := of_decide_eq_false h32
   refine Y.pskip F (X.w2 rfl (F.yl (j := 2) (d := 25) (b := false) rfl (by kernel_rfl)) rfl) rfl ?_;clear F ac;intro ac F
   refine Y.pskip F (X.w2 rfl (F.yl (j := 2) (d := 25) (b := false) rfl (by kernel_rfl)) rfl) rfl ?_;clear F ac;intro ac F
   refine Y.pskip F (X.w2 rfl (F.yl (j := 2) (d := 25) (b := false) rfl (by kernel_rfl)) rfl) rfl ?_;clear F ac;intro ac F
   refine Y.pskip F (X.w2 rfl (F.yl (j := 2) (d := 25) (b := false) rfl (by kernel_rfl)) rfl) rfl ?_;clear F ac;intro ac F
   refine Y.pskip F (X.w2 rfl (F.yl (j := 2) (d := 25) (b := false) rfl (by kernel_rfl)) rfl) rfl ?_;clear F ac;intro ac F
   refine Y.pskip F (X.w2 rfl (F.yl (j := 2) (d := 25) (b := false) rfl (by kernel_rfl)) rfl) rfl ?_;clear F ac;intro ac F
   refine Y.pskip F (X.w2 rfl (F.yl (j := 2) (d := 25) (b := false) rfl (by kernel_rfl)) rfl) rfl ?_;clear F ac;intro ac F
   refine Y.pskip F (X.w2 rfl (F.yl (j := 2) (d := 25) (b := false) rfl (by kernel_rfl)) rfl) rfl ?_;clear F ac;intro ac F
   refine Y.pv F (X.pickF rfl (F.e 25 rfl) (X.kc (.bool false) rfl)) ?_;clear F ac;intro ac F
   refine Y.nil ?_
   replace F : Fr ac 98 [(0, Vp bp), (1, Vi t), (2, Vp w.heap.size), (4, Vi i), (5, .pointer (some ⟨bn, i * 17, none⟩)), (13, Vi n), (14, Vi i), (15, .bool true), (34, .bool false)] := F.sub _
   refine X.thenN ?_
   refine Y.condF (F.e 34 rfl) ?_
   refine Y.skip ?_
   refine X.blockN ?_
   refine X.thenN ?_
   refine Y.lit (by kernel_rfl) ?_
   refine Y.pv F (X.binop rfl (F.e 14 rfl) (X.kc (Vi 1) rfl) (X.addI Try.underlying3 rfl (by omega) (by omega))) ?_;clear F ac;intro ac F
   refine Y.pv F (X.move rfl (F.e 49 rfl)) ?_;clear F ac;intro ac F
   refine Y.nil ?_
   replace F : Fr ac 98 [(0, Vp bp), (1, Vi t), (2, Vp w.heap.size), (4, Vi i), (5, .pointer (some ⟨bn, i * 17, none⟩)), (13, Vi n), (14, Vi ((i : Int) + 1)), (15, .bool true), (34, .bool false)] := F.sub _
   refine X.thenN ?_
   refine ⟨_, ?_, i + 1, rfl, by omega, hI1, (by rw [itN_succ, refill1_neg (by omega)]; exact hS), F.sub _⟩
   omega
  | true =>
   try rw [h32] at F
   have h32p : ((0 : Int) < t) := of_decide_eq_true h32
   refine Y.pval F (X.w1 rfl (F.yl (j := 2) (d := 25) (b := true) rfl (by kernel_rfl))) rfl (X.move rfl (F.e 1 rfl)) ?_;clear F ac;intro ac F
   refine Y.pval F (X.w1 rfl (F.yl (j := 2) (d := 25) (b := true) rfl (by kernel_rfl))) rfl (X.move rfl (F.ev 5 (.pointer (some ⟨bn, i * 17, none⟩)))) ?_;clear F ac;intro ac F
   refine Y.pval F (X.w1 rfl (F.yl (j := 2) (d := 25) (b := true) rfl (by kernel_rfl))) rfl (Y.nilC rfl (F.ev 27 (.pointer (some ⟨bn, i * 17, none⟩)))) ?_;clear F ac;intro ac F
   refine Y.pval F (X.w1 rfl (F.yl (j := 2) (d := 25) (b := true) rfl (by kernel_rfl))) rfl (X.field rfl (F.ev 28 (.pointer (some ⟨bn, i * 17, none⟩))) (X.fld Try.underlying104 rfl (Try.siz31 _) rfl rfl)) ?_;clear F ac;intro ac F
   refine Y.pval F (X.w1 rfl (F.yl (j := 2) (d := 25) (b := true) rfl (by kernel_rfl))) rfl (X.field rfl (F.ev 29 (.pointer (some ⟨bn, i * 17, none⟩))) (X.fld Try.underlying31 rfl (Try.siz3 _) rfl rfl)) ?_;clear F ac;intro ac F
   replace hC : RCells w6 [(Ad bp 0, Vi gr), (Ad bp 1, Vi hold), (Ad bp 2, .slice na n nc), (Ad bp 3, .slice la m lc), (Ad bp 4, .slice (some ⟨bn, 0, none⟩) n cap), (Ad w.heap.size 0, Vp bp), (⟨bn, i * 17 + 4, none⟩, Vi ((itN (refill1 t) i s) i 4))] := hC.append ((RCells.cons ((hS.cell (k := i * 17 + 4) (by omega)).trans (congrArg some (NV_int (itN (refill1 t) i s) i 4 (by decide)))) (RCells.nil _)))
   refine Y.pval F (X.w1 rfl (F.yl (j := 2) (d := 25) (b := true) rfl (by kernel_rfl))) rfl (X.load rfl (F.ev 30 (.pointer (some ⟨bn, i * 17 + 4, none⟩))) (X.ld1 (Try.agg3 _) (hC.at 6 rfl))) ?_;clear F ac;intro ac F
   refine Y.pval F (X.w1 rfl (F.yl (j := 2) (d := 25) (b := true) rfl (by kernel_rfl))) rfl (X.binop rfl (F.e 26 rfl) (F.e 31 rfl) (X.remI Try.underlying3 rfl (by omega) (by omega))) ?_;clear F ac;intro ac F
   refine Y.pval F (X.w1 rfl (F.yl (j := 2) (d := 25) (b := true) rfl (by kernel_rfl))) rfl (X.binop rfl (F.e 32 rfl) (X.kc (Vi 0) rfl) (X.eqlI Try.underlying3 rfl)) ?_;clear F ac;intro ac F
   refine Y.pv F (X.pickT rfl (F.e 25 rfl) (F.e 33 rfl)) ?_;clear F ac;intro ac F
   refine Y.nil ?_
   replace F : Fr ac 98 [(0, Vp bp), (1, Vi t), (2, Vp w.heap.size), (4, Vi i), (5, .pointer (some ⟨bn, i * 17, none⟩)), (13, Vi n), (14, Vi i), (15, .bool true), (34, .bool (((t : Int) % ((itN (refill1 t) i s) i 4 : Int) : Int) == 0))] := F.sub _
   refine X.thenN ?_
   cases h33 : (((t : Int) % ((itN (refill1 t) i s) i 4 : Int) : Int) == 0) with
   | false =>
    try rw [h33] at F
    have h33p : ¬ ((t : Int) % ((itN (refill1 t) i s) i 4 : Int) : Int) = 0 := by simpa using h33
    refine Y.condF (F.e 34 rfl) ?_
    refine Y.skip ?_
    refine X.blockN ?_
    refine X.thenN ?_
    refine Y.lit (by kernel_rfl) ?_
    refine Y.pv F (X.binop rfl (F.e 14 rfl) (X.kc (Vi 1) rfl) (X.addI Try.underlying3 rfl (by omega) (by omega))) ?_;clear F ac;intro ac F
    refine Y.pv F (X.move rfl (F.e 49 rfl)) ?_;clear F ac;intro ac F
    refine Y.nil ?_
    replace F : Fr ac 98 [(0, Vp bp), (1, Vi t), (2, Vp w.heap.size), (4, Vi i), (5, .pointer (some ⟨bn, i * 17, none⟩)), (13, Vi n), (14, Vi ((i : Int) + 1)), (15, .bool true), (34, .bool false)] := F.sub _
    refine X.thenN ?_
    refine ⟨_, ?_, i + 1, rfl, by omega, hI1, (by rw [itN_succ, refill1_neg (by omega)]; exact hS), F.sub _⟩
    omega
   | true =>
    try rw [h33] at F
    have h33p : ((t : Int) % ((itN (refill1 t) i s) i 4 : Int) : Int) = 0 := by simpa using h33
    refine Y.condT (F.e 34 rfl) ?_
    replace hC : RCells w6 [(Ad bp 0, Vi gr), (Ad bp 1, Vi hold), (Ad bp 2, .slice na n nc), (Ad bp 3, .slice la m lc), (Ad bp 4, .slice (some ⟨bn, 0, none⟩) n cap), (Ad w.heap.size 0, Vp bp), (⟨bn, i * 17 + 4, none⟩, Vi ((itN (refill1 t) i s) i 4)), (⟨bn, i * 17 + 15, none⟩, Vi ((itN (refill1 t) i s) i 15))] := hC.append ((RCells.cons ((hS.cell (k := i * 17 + 15) (by omega)).trans (congrArg some (NV_int (itN (refill1 t) i s) i 15 (by decide)))) (RCells.nil _)))
    replace hC : RCells w6 [(Ad bp 0, Vi gr), (Ad bp 1, Vi hold), (Ad bp 2, .slice na n nc), (Ad bp 3, .slice la m lc), (Ad bp 4, .slice (some ⟨bn, 0, none⟩) n cap), (Ad w.heap.size 0, Vp bp), (⟨bn, i * 17 + 4, none⟩, Vi ((itN (refill1 t) i s) i 4)), (⟨bn, i * 17 + 15, none⟩, Vi ((itN (refill1 t) i s) i 15)), (⟨bn, i * 17 + 3, none⟩, Vi ((itN (refill1 t) i s) i 3))] := hC.append ((RCells.cons ((hS.cell (k := i * 17 + 3) (by omega)).trans (congrArg some (NV_int (itN (refill1 t) i s) i 3 (by decide)))) (RCells.nil _)))
    refine Y.regionS F [some (.pointer (some ⟨bn, i * 17, none⟩)), some (.pointer (some ⟨bn, i * 17, none⟩)), some (.pointer (some ⟨bn, i * 17, none⟩)), some (.pointer (some ⟨bn, i * 17 + 15, none⟩)), some (Vi ((itN (refill1 t) i s) i 15)), some (Vi (((itN (refill1 t) i s) i 15 : Int) + 1)), some (.pointer (some ⟨bn, i * 17, none⟩)), some (.pointer (some ⟨bn, i * 17, none⟩)), some (.pointer (some ⟨bn, i * 17, none⟩)), some (.pointer (some ⟨bn, i * 17 + 3, none⟩)), some (Vi ((itN (refill1 t) i s) i 3)), some (Vi (min (((itN (refill1 t) i s) i 15 : Int) + 1 : Int) ((itN (refill1 t) i s) i 3 : Int))), some (.pointer (some ⟨bn, i * 17, none⟩)), some (.pointer (some ⟨bn, i * 17 + 15, none⟩)), none] [] 14 (fun _ W => Only (fun x => x = bn) w6 W ∧ OwnP W bn (n * 17) (NV (up (itN (refill1 t) i s) i 15 ((min (((itN (refill1 t) i s) i 15 : Int) + 1 : Int) ((itN (refill1 t) i s) i 3 : Int)) : Int)))) rfl ⟨by kernel_rfl, of_decide_eq_true (by kernel_rfl), by kernel_rfl, by kernel_rfl, by kernel_rfl⟩ (of_decide_eq_true (by kernel_rfl)) ⟨?_, ?_, ?_, ?_, ?_, ?_, ?_, ?_, ?_, ?_, ?_, ?_, ?_, ?_, ?_, trivial⟩ ?_
    ·intro ac done u W Sx hT
     have hs := Sx.no 14 (by kernel_rfl)
     have hR := hT.1 hs
     exact X.vl (X.move rfl (Sx.ev 5 (.pointer (some ⟨bn, i * 17, none⟩)))) (Y.RT.of hs rfl hR.st0)
    ·intro ac done u W Sx hT
     have hs := Sx.no 14 (by kernel_rfl)
     have hR := hT.1 hs
     exact X.vl (X.move rfl (Sx.ev 5 (.pointer (some ⟨bn, i * 17, none⟩)))) (Y.RT.of hs rfl hR.st0)
    ·intro ac done u W Sx hT
     have hs := Sx.no 14 (by kernel_rfl)
     have hR := hT.1 hs
     exact X.vl (Y.nilC rfl (Sx.ev 36 (.pointer (some ⟨bn, i * 17, none⟩)))) (Y.RT.of hs rfl hR.st0)
    ·intro ac done u W Sx hT
     have hs := Sx.no 14 (by kernel_rfl)
     have hR := hT.1 hs
     exact X.vl (X.field rfl (Sx.ev 37 (.pointer (some ⟨bn, i * 17, none⟩))) (X.fld Try.underlying104 rfl (Try.siz3 _) rfl rfl)) (Y.RT.of hs rfl hR.st0)
    ·intro ac done u W Sx hT
     have hs := Sx.no 14 (by kernel_rfl)
     have hR := hT.1 hs
     have g : Gr w6 W := hR.1
     exact X.vl (X.load rfl (Sx.ev 38 (.pointer (some ⟨bn, i * 17 + 15, none⟩))) (X.ld1 (Try.agg3 _) ((hC.gr g).at 7 rfl))) (Y.RT.of hs rfl hR.st0)
    ·intro ac done u W Sx hT
     have hs := Sx.no 14 (by kernel_rfl)
     have hR := hT.1 hs
     exact X.vl (X.binop rfl (Sx.ev 39 (Vi ((itN (refill1 t) i s) i 15))) (X.kc (Vi 1) rfl) (X.addI Try.underlying3 rfl (by omega) (by omega))) (Y.RT.of hs rfl hR.st0)
    ·intro ac done u W Sx hT
     have hs := Sx.no 14 (by kernel_rfl)
     have hR := hT.1 hs
     exact X.vl (X.move rfl (Sx.ev 5 (.pointer (some ⟨bn, i * 17, none⟩)))) (Y.RT.of hs rfl hR.st0)
    ·intro ac done u W Sx hT
     have hs := Sx.no 14 (by kernel_rfl)
     have hR := hT.1 hs
     exact X.vl (Y.nilC rfl (Sx.ev 41 (.pointer (some ⟨bn, i * 17, none⟩)))) (Y.RT.of hs rfl hR.st0)
    ·intro ac done u W Sx hT
     have hs := Sx.no 14 (by kernel_rfl)
     have hR := hT.1 hs
     exact X.vl (X.field rfl (Sx.ev 42 (.pointer (some ⟨bn, i * 17, none⟩))) (X.fld Try.underlying104 rfl (Try.siz31 _) rfl rfl)) (Y.RT.of hs rfl hR.st0)
    ·intro ac done u W Sx hT
     have hs := Sx.no 14 (by kernel_rfl)
     have hR := hT.1 hs
     exact X.vl (X.field rfl (Sx.ev 43 (.pointer (some ⟨bn, i * 17, none⟩))) (X.fld Try.underlying31 rfl (Try.siz3 _) rfl rfl)) (Y.RT.of hs rfl hR.st0)
    ·intro ac done u W Sx hT
     have hs := Sx.no 14 (by kernel_rfl)
     have hR := hT.1 hs
     have g : Gr w6 W := hR.1
     exact X.vl (X.load rfl (Sx.ev 44 (.pointer (some ⟨bn, i * 17 + 3, none⟩))) (X.ld1 (Try.agg3 _) ((hC.gr g).at 8 rfl))) (Y.RT.of hs rfl hR.st0)
    ·intro ac done u W Sx hT
     have hs := Sx.no 14 (by kernel_rfl)
     have hR := hT.1 hs
     exact X.vl (Y.min2 rfl (Sx.ev 40 (Vi (((itN (refill1 t) i s) i 15 : Int) + 1))) (Sx.ev 45 (Vi ((itN (refill1 t) i s) i 3)))) (Y.RT.of hs rfl hR.st0)
    ·intro ac done u W Sx hT
     have hs := Sx.no 14 (by kernel_rfl)
     have hR := hT.1 hs
     exact X.vl (Y.nilC rfl (Sx.ev 35 (.pointer (some ⟨bn, i * 17, none⟩)))) (Y.RT.of hs rfl hR.st0)
    ·intro ac done u W Sx hT
     have hs := Sx.no 14 (by kernel_rfl)
     have hR := hT.1 hs
     exact X.vl (X.field rfl (Sx.ev 47 (.pointer (some ⟨bn, i * 17, none⟩))) (X.fld Try.underlying104 rfl (Try.siz3 _) rfl rfl)) (Y.RT.of hs rfl hR.st0)
    ·intro ac done u W Sx hT
     have hR := hT.1 Sx.nd
     have g : Gr w6 W := hR.1
     have hS2 := (hS.gr g).set (k := i * 17 + 15) (Vi (min (((itN (refill1 t) i s) i 15 : Int) + 1 : Int) ((itN (refill1 t) i s) i 3 : Int)))
     rw [NV_up _ _ _ (by decide)] at hS2
     exact X.unit (X.w0 rfl) rfl (X.store rfl (Sx.ev 48 (.pointer (some ⟨bn, i * 17 + 15, none⟩))) (Sx.ev 46 (Vi (min (((itN (refill1 t) i s) i 15 : Int) + 1 : Int) ((itN (refill1 t) i s) i 3 : Int)))) ((hS.gr g).st1 (Try.siz3 _) rfl rfl (by omega))) (Y.RT.fin ⟨(g.only _).trans (Y.set_only _ _ _ _), hS2⟩)
    rintro ac u w34 hs hd hl_ ho ⟨hon, hS2⟩
    replace F : Fr ac 98 [(0, Vp bp), (1, Vi t), (2, Vp w.heap.size), (4, Vi i), (5, .pointer (some ⟨bn, i * 17, none⟩)), (13, Vi n), (14, Vi i), (15, .bool true), (34, .bool true)] := X.fr hs hd hl_ _ (by kernel_rfl)
    clear hs hd hl_ ho
    replace hP := hP.on hon
    replace hC := (hC.kc hon 0 rfl (hC.kc hon 1 rfl (hC.kc hon 2 rfl (hC.kc hon 3 rfl (hC.kc hon 4 rfl (hC.kc hon 5 rfl (RCells.nil _)))))))
    replace hE := hE.step hon (.inl rfl)
    replace hI1 := hI1.step hon (.inl rfl)
    replace G := Gr.refl w34
    replace hS : OwnP w34 bn (n * 17) (NV (up (itN (refill1 t) i s) i 15 ((min (((itN (refill1 t) i s) i 15 : Int) + 1 : Int) ((itN (refill1 t) i s) i 3 : Int)) : Int))) := hS2
    clear hS2 hon
    refine X.blockN ?_
    refine X.thenN ?_
    refine Y.lit (by kernel_rfl) ?_
    refine Y.pv F (X.binop rfl (F.e 14 rfl) (X.kc (Vi 1) rfl) (X.addI Try.underlying3 rfl (by omega) (by omega))) ?_;clear F ac;intro ac F
    refine Y.pv F (X.move rfl (F.e 49 rfl)) ?_;clear F ac;intro ac F
    refine Y.nil ?_
    replace F : Fr ac 98 [(0, Vp bp), (1, Vi t), (2, Vp w.heap.size), (4, Vi i), (5, .pointer (some ⟨bn, i * 17, none⟩)), (13, Vi n), (14, Vi ((i : Int) + 1)), (15, .bool true), (34, .bool true)] := F.sub _
    refine X.thenN ?_
    refine ⟨_, ?_, i + 1, rfl, by omega, hI1, (by rw [itN_succ, refill1_pos (by omega) h33p]; exact hS), F.sub _⟩
    omega
end
end Go.Proofs.Ytoalamakhjbedaa
