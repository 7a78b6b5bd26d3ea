/- Several texts of this claim in one file. (1) Contracts: sum, Parked. (2) Contracts: checkNode, Worst. (3) The greatest energy of a parked node, tick by tick; what a node takes in a play beyond the calls is no more. Nothing of the program is proved here. (4) Contract: Noises. (5) A parked node takes at most what Worst says, and just that with the noise of Noises. Nothing of the program is proved here. (6) The greatest number of awake ticks, as a table; tables of rows of numbers. Nothing of the program is walked here. (7) Whoever has more tokens, or gets them sooner, or stays awake longer, can be kept awake in no fewer ticks. Nothing of the program is proved here. (8) Contracts: slices.ContainsFunc of nudges that are not right. (9) Contract: the beginning of a play. -/
import Derived.Test.YtoalamakhjbedaaBd5
import Derived.Test.YtoalamakhjbedaaBd6
import Derived.Test.YtoalamakhjbedaaBd3
import Derived.Laws.StructEq
import Derived.Laws.MakeOwn
import Derived.Test.YtoalamakhjbedaaBd2
namespace Go.Proofs.Ytoalamakhjbedaa
set_option linter.unusedSimpArgs false
set_option linter.unusedVariables false
section
open Go.RowKit

set_option maxRecDepth 100000 in
set_option maxHeartbeats 1000000 in
theorem sum_any (na : Option Addr) (n nc : Nat) (gr hold T : Int) (nd : List (List Int)) (w : World) (hnd : StAt w 5 na n nd) (hc : CluOk gr hold nd) (hT : 0 ≤ T ∧ T ≤ 1001) :
  Calls Try.prog 51 #[.agg #[Vi gr, Vi hold, .slice na n nc], Vi T] w fun e w' => e = .returned (Vi (sumP nd hold T)) ∧ Gr w w' := by
 have G := Gr.refl w
 have hnd0 := hnd
 have hlen := hnd.len
 have h16 := hc.n16
 refine Y.calls 26 Try.func51 rfl rfl ?_
 intro ac F0
 have F : Fr ac 26 [(0, .agg #[Vi gr, Vi hold, .slice na n nc]), (1, Vi T)] := F0.sub _
 clear F0
 refine Y.seq ?_
 refine Y.lit (by kernel_rfl) ?_
 refine Y.pv F (X.box rfl (F.e 0 rfl) X.bx) ?_;clear F ac;intro ac F
 have g := Gr.alloc w (.cells #[Vi gr, Vi hold, .slice na n nc] 24)
 have hb := heap_alloc_new w (.cells #[Vi gr, Vi hold, .slice na n nc] 24)
 have hbl : w.heap.size < (w.alloc (.cells #[Vi gr, Vi hold, .slice na n nc] 24)).heap.size := by simp
 have hC2 : RCells (w.alloc (.cells #[Vi gr, Vi hold, .slice na n nc] 24)) [(Ad w.heap.size 0, Vi gr), (Ad w.heap.size 1, Vi hold), (Ad w.heap.size 2, .slice na n nc)] := (RCells.nil w).box (b := w.heap.size) #[Vi gr, Vi hold, .slice na n nc] 24 rfl
 generalize w.alloc (.cells #[Vi gr, Vi hold, .slice na n nc] 24) = w3 at *
 replace G := G.trans g
 have hC := hC2
 clear hC2
 replace hnd := hnd.gr g
 clear g hb hbl
 refine Y.pv F (X.assign rfl (X.kc (Vi 0) rfl)) ?_;clear F ac;intro ac F
 refine Y.nil ?_
 replace F : Fr ac 26 [(0, .agg #[Vi gr, Vi hold, .slice na n nc]), (1, Vi T), (2, Vp w.heap.size), (4, Vi 0)] := F.sub _
 refine X.thenN ?_
 refine Y.seq ?_
 refine Y.seq ?_
 refine Y.lit (by kernel_rfl) ?_
 refine Y.pv F (X.field rfl (F.e 2 rfl) (X.fld Try.underlying24 rfl (Try.siz22 _) rfl rfl)) ?_;clear F ac;intro ac F
 refine Y.pv F (X.load rfl (F.e 7 rfl) (X.ld1 (Try.agg22 _) (hC.at 2 rfl))) ?_;clear F ac;intro ac F
 refine Y.pv F (X.len1 Try.underlying22 rfl (F.e 8 rfl)) ?_;clear F ac;intro ac F
 refine Y.pv F (X.move rfl (X.kc (Vi 0) rfl)) ?_;clear F ac;intro ac F
 refine Y.nil ?_
 replace F : Fr ac 26 [(0, .agg #[Vi gr, Vi hold, .slice na n nc]), (1, Vi T), (2, Vp w.heap.size), (4, Vi 0), (9, Vi n), (10, Vi 0)] := F.sub _
 refine X.thenN ?_
 refine Y.block ?_
 have hndB := hnd
 have hCB := hC
 have GB := G
 refine Y.loop (fun me_ ac wr => ∃ (i : Nat), me_ = n - i ∧ Gr w3 wr ∧ i ≤ n ∧ Fr ac 26 [(0, .agg #[Vi gr, Vi hold, .slice na n nc]), (1, Vi T), (2, Vp w.heap.size), (4, Vi (sumN nd hold T i)), (9, Vi n), (10, Vi i)]) _ ⟨0, rfl, Gr.refl _, Nat.zero_le _, F.sub _⟩ ?_
 clear F
 intro me_ ac w4 hI
 obtain ⟨i, rfl, gr, hi, F⟩ := hI
 replace G := GB.trans gr
 replace hC := hCB.gr gr
 replace hnd := hndB.gr gr
 have GB_ := gr
 clear gr
 refine Y.seq ?_
 refine Y.lit (by kernel_rfl) ?_
 refine Y.pv F (X.binop rfl (F.e 10 rfl) (F.e 9 rfl) (X.lssI Try.underlying3 rfl)) ?_;clear F ac;intro ac F
 refine Y.nil ?_
 replace F : Fr ac 26 [(0, .agg #[Vi gr, Vi hold, .slice na n nc]), (1, Vi T), (2, Vp w.heap.size), (4, Vi (sumN nd hold T i)), (9, Vi n), (10, Vi i), (11, .bool (decide ((i : Int) < n)))] := F.sub _
 refine X.thenN ?_
 refine Y.seq ?_
 cases h5 : decide ((i : Int) < n) with
 | false =>
  try rw [h5] at F
  have h5p : ¬ ((i : Int) < n) := of_decide_eq_false h5
  obtain rfl : n = i := by omega
  refine Y.condF (F.e 11 rfl) ?_
  refine Y.exit ?_
  refine X.thenX ?_
  refine X.thenX ?_
  refine X.blockX ?_
  refine X.thenN ?_
  refine Y.seq ?_
  refine Y.lit (by kernel_rfl) ?_
  refine Y.pv F (X.move rfl (F.e 4 rfl)) ?_;clear F ac;intro ac F
  refine Y.pv F (X.assign rfl (F.e 25 rfl)) ?_;clear F ac;intro ac F
  refine Y.nil ?_
  replace F : Fr ac 26 [(0, .agg #[Vi gr, Vi hold, .slice na n nc]), (1, Vi T), (2, Vp w.heap.size), (4, Vi (sumN nd hold T n)), (9, Vi n), (10, Vi n), (11, .bool false)] := F.sub _
  refine X.thenN ?_
  refine Y.ret ?_
  exact Y.ret0 (v := Vi (sumN nd hold T n)) F (Y.rs1 F rfl (by kernel_rfl)) ⟨by rw [sumP, hlen], G⟩
 | true =>
  try rw [h5] at F
  have h5p : ((i : Int) < n) := of_decide_eq_true h5
  have hi2 : i < n := by omega
  have hsb := sumN_bd hc hT.1 hT.2 i (by omega)
  refine Y.condT (F.e 11 rfl) ?_
  refine Y.skip ?_
  refine X.thenN ?_
  refine Y.seq ?_
  refine Y.block ?_
  refine Y.seq ?_
  refine Y.lit (by kernel_rfl) ?_
  refine Y.pv F (X.move rfl (F.e 10 rfl)) ?_;clear F ac;intro ac F
  refine Y.pv F (X.assign rfl (F.e 12 rfl)) ?_;clear F ac;intro ac F
  refine Y.nil ?_
  replace F : Fr ac 26 [(0, .agg #[Vi gr, Vi hold, .slice na n nc]), (1, Vi T), (2, Vp w.heap.size), (4, Vi (sumN nd hold T i)), (5, Vi i), (9, Vi n), (10, Vi i), (11, .bool true)] := F.sub _
  refine X.thenN ?_
  refine Y.seq ?_
  refine Y.lit (by kernel_rfl) ?_
  refine Y.pv F (X.load rfl (F.e 2 rfl) (X.ldN (Try.agg24 _) (Try.siz24 _) (Y.atz (⟨w.heap.size, 0, none⟩) (Y.AtFrom.cons (hC.at 0 rfl) (Y.AtFrom.cons (hC.at 1 rfl) (Y.AtFrom.cons (hC.at 2 rfl) (Y.AtFrom.nil _ _ _))))))) ?_;clear F ac;intro ac F
  refine Y.pv F (X.move rfl (F.e 5 rfl)) ?_;clear F ac;intro ac F
  refine Y.pv F (X.move rfl (F.e 1 rfl)) ?_;clear F ac;intro ac F
  have hcb : w.heap.size < w4.heap.size := lt_cell (hC.at 0 rfl)
  have hgs_GB_ := GB_.size
  have hgsw := G.size
  have hno := ndOk_of hc (i := i) (T := T) (by omega) hT.1 hT.2
  refine Y.pcall F (X.w0 rfl) rfl (X.enter (F := 47) rfl (X.kc (.func (.func 47) #[] #[]) rfl) (X.a3 (F.e 13 rfl) (F.e 14 rfl) (F.e 15 rfl)) (enters_of Try.func47 (by kernel_rfl) rfl _)) (newp_any na n nc hold i T gr nd w4 hnd (by omega)) ?_
  clear F ac
  rintro e w6 ⟨bq, bm, rfl, hq, hM, hbq, hbmB, hbm, g⟩
  refine ⟨_, rfl, ?_⟩
  intro ac F
  replace G := G.trans g
  replace hC := hC.gr g
  replace GB_ := GB_.trans g
  replace hnd := hnd.gr g
  clear g
  refine Y.pv F (X.assign rfl (F.e 16 rfl)) ?_;clear F ac;intro ac F
  refine Y.nil ?_
  replace F : Fr ac 26 [(0, .agg #[Vi gr, Vi hold, .slice na n nc]), (1, Vi T), (2, Vp w.heap.size), (4, Vi (sumN nd hold T i)), (5, Vi i), (6, Vp bq), (9, Vi n), (10, Vi i), (11, .bool true)] := F.sub _
  refine X.thenN ?_
  refine Y.lit (by kernel_rfl) ?_
  refine Y.pv F (X.move rfl (F.e 4 rfl)) ?_;clear F ac;intro ac F
  refine Y.pv F (X.move rfl (F.e 6 rfl)) ?_;clear F ac;intro ac F
  refine Y.pv F (X.move rfl (F.e 6 rfl)) ?_;clear F ac;intro ac F
  refine Y.pcall F (X.w0 rfl) rfl (X.enter (F := 49) rfl (X.kc (.func (.func 49) #[] #[]) rfl) (X.a1 (F.e 19 rfl)) (enters_of Try.func49 (by kernel_rfl) rfl _)) (start_any bq bm _ (ndV nd hold i T) w6 hq) ?_
  clear F ac
  rintro e w7 ⟨rfl, g⟩
  refine ⟨_, rfl, ?_⟩
  intro ac F
  replace G := G.trans g
  replace hC := hC.gr g
  replace GB_ := GB_.trans g
  replace hnd := hnd.gr g
  replace hq := hq.gr g
  replace hM := hM.gr g
  clear g
  have hbb := hc.bud i (by omega)
  have hbv := bestV_bd hno (t := 0) (x := cv nd i 3) (by omega) hbb.1 (Int.le_refl _)
  refine Y.pcall F (X.w0 rfl) rfl (X.enter (F := 48) rfl (X.kc (.func (.func 48) #[] #[]) rfl) (X.a2 (F.e 18 rfl) (F.e 20 rfl)) (enters_of Try.func48 (by kernel_rfl) rfl _)) (best_any bq bm _ (ndV nd hold i T) hno hbm 10000 0 (cv nd i 3) w7 (by omega) ⟨by omega, by omega⟩ ⟨hbb.1, Int.le_refl _⟩ hq hM) ?_
  clear F ac
  rintro e w8 ⟨rfl, hon, -⟩
  refine ⟨_, rfl, ?_⟩
  intro ac F
  replace hC := (hC.kc hon 0 rfl (hC.kc hon 1 rfl (hC.kc hon 2 rfl (RCells.nil _))))
  replace G := Y.Only.up G hon (by omega)
  replace hnd := hnd0.gr G
  clear hq hM
  replace GB_ := Y.Only.up GB_ hon (by omega)
  clear hon
  refine Y.pv F (Y.fldv (vs := [Vi ((bestV (ndV nd hold i T) 0 (cv nd i 3)).1), Vi ((bestV (ndV nd hold i T) 0 (cv nd i 3)).2)]) rfl (F.e 21 rfl) Try.underlying69 rfl (Try.agg3 _) rfl) ?_;clear F ac;intro ac F
  refine Y.pv F (X.binop rfl (F.e 17 rfl) (F.e 22 rfl) (X.addI Try.underlying3 rfl (by omega) (by omega))) ?_;clear F ac;intro ac F
  refine Y.pv F (X.assign rfl (F.e 23 rfl)) ?_;clear F ac;intro ac F
  refine Y.nil ?_
  replace F : Fr ac 26 [(0, .agg #[Vi gr, Vi hold, .slice na n nc]), (1, Vi T), (2, Vp w.heap.size), (4, Vi ((sumN nd hold T i : Int) + ((bestV (ndV nd hold i T) 0 (cv nd i 3)).1))), (5, Vi i), (6, Vp bq), (9, Vi n), (10, Vi i), (11, .bool true)] := F.sub _
  refine X.blockN ?_
  refine X.thenN ?_
  refine Y.lit (by kernel_rfl) ?_
  refine Y.pv F (X.binop rfl (F.e 10 rfl) (X.kc (Vi 1) rfl) (X.addI Try.underlying3 rfl (by omega) (by omega))) ?_;clear F ac;intro ac F
  refine Y.pv F (X.move rfl (F.e 24 rfl)) ?_;clear F ac;intro ac F
  refine Y.nil ?_
  replace F : Fr ac 26 [(0, .agg #[Vi gr, Vi hold, .slice na n nc]), (1, Vi T), (2, Vp w.heap.size), (4, Vi ((sumN nd hold T i : Int) + ((bestV (ndV nd hold i T) 0 (cv nd i 3)).1))), (5, Vi i), (6, Vp bq), (9, Vi n), (10, Vi ((i : Int) + 1)), (11, .bool true)] := F.sub _
  refine X.thenN ?_
  refine ⟨_, ?_, i + 1, rfl, GB_, by omega, F.sub _⟩
  omega
set_option maxRecDepth 100000 in
set_option maxHeartbeats 400000 in
theorem parked_any (na : Option Addr) (n nc : Nat) (gr hold T : Int) (nd : List (List Int)) (w : World) (hnd : StAt w 5 na n nd) :
  Calls Try.prog 21 #[.agg #[Vi gr, Vi hold, .slice na n nc], Vi T] w fun e w' => e = .returned (.tuple #[Vi (parkV gr hold nd T), Vi (ticksE gr hold nd T)]) ∧ Gr w w' := by
 have G := Gr.refl w
 have hnd0 := hnd
 have hlen := hnd.len
 refine Y.calls 16 Try.func21 rfl rfl ?_
 intro ac F0
 have F : Fr ac 16 [(0, .agg #[Vi gr, Vi hold, .slice na n nc]), (1, Vi T)] := F0.sub _
 clear F0
 refine Y.seq ?_
 refine Y.lit (by kernel_rfl) ?_
 refine Y.pv F (X.box rfl (F.e 0 rfl) X.bx) ?_;clear F ac;intro ac F
 have g := Gr.alloc w (.cells #[Vi gr, Vi hold, .slice na n nc] 24)
 have hb := heap_alloc_new w (.cells #[Vi gr, Vi hold, .slice na n nc] 24)
 have hbl : w.heap.size < (w.alloc (.cells #[Vi gr, Vi hold, .slice na n nc] 24)).heap.size := by simp
 have hC2 : RCells (w.alloc (.cells #[Vi gr, Vi hold, .slice na n nc] 24)) [(Ad w.heap.size 0, Vi gr), (Ad w.heap.size 1, Vi hold), (Ad w.heap.size 2, .slice na n nc)] := (RCells.nil w).box (b := w.heap.size) #[Vi gr, Vi hold, .slice na n nc] 24 rfl
 generalize w.alloc (.cells #[Vi gr, Vi hold, .slice na n nc] 24) = w3 at *
 replace G := G.trans g
 have hC := hC2
 clear hC2
 replace hnd := hnd.gr g
 clear g hb hbl
 refine Y.pv F (X.assign rfl (X.kc (Vi 0) rfl)) ?_;clear F ac;intro ac F
 refine Y.pv F (X.assign rfl (X.kc (Vi 0) rfl)) ?_;clear F ac;intro ac F
 refine Y.nil ?_
 replace F : Fr ac 16 [(0, .agg #[Vi gr, Vi hold, .slice na n nc]), (1, Vi T), (2, Vp w.heap.size), (4, Vi 0), (5, Vi 0)] := F.sub _
 refine X.thenN ?_
 refine Y.seq ?_
 refine Y.seq ?_
 refine Y.lit (by kernel_rfl) ?_
 refine Y.pv F (X.load rfl (F.e 2 rfl) (X.ldN (Try.agg24 _) (Try.siz24 _) (Y.atz (⟨w.heap.size, 0, none⟩) (Y.AtFrom.cons (hC.at 0 rfl) (Y.AtFrom.cons (hC.at 1 rfl) (Y.AtFrom.cons (hC.at 2 rfl) (Y.AtFrom.nil _ _ _))))))) ?_;clear F ac;intro ac F
 refine Y.pv F (X.move rfl (F.e 1 rfl)) ?_;clear F ac;intro ac F
 refine Y.pcall F (X.w0 rfl) rfl (X.enter (F := 50) rfl (X.kc (.func (.func 50) #[] #[]) rfl) (X.a2 (F.e 7 rfl) (F.e 8 rfl)) (enters_of Try.func50 (by kernel_rfl) rfl _)) (ticks_any na n nc gr hold T nd w3 hnd) ?_
 clear F ac
 rintro e w4 ⟨rfl, g⟩
 refine ⟨_, rfl, ?_⟩
 intro ac F
 replace G := G.trans g
 replace hC := hC.gr g
 replace hnd := hnd.gr g
 clear g
 refine Y.pv F (X.assign rfl (F.e 9 rfl)) ?_;clear F ac;intro ac F
 refine Y.nil ?_
 replace F : Fr ac 16 [(0, .agg #[Vi gr, Vi hold, .slice na n nc]), (1, Vi T), (2, Vp w.heap.size), (4, Vi 0), (5, Vi 0), (6, Vi (ticksE gr hold nd T))] := F.sub _
 refine X.thenN ?_
 refine Y.seq ?_
 refine Y.lit (by kernel_rfl) ?_
 refine Y.pv F (X.move rfl (F.e 6 rfl)) ?_;clear F ac;intro ac F
 refine Y.pv F (X.binop rfl (F.e 10 rfl) (X.kc (Vi 0) rfl) (X.neqI Try.underlying26 rfl)) ?_;clear F ac;intro ac F
 refine Y.nil ?_
 replace F : Fr ac 16 [(0, .agg #[Vi gr, Vi hold, .slice na n nc]), (1, Vi T), (2, Vp w.heap.size), (4, Vi 0), (5, Vi 0), (6, Vi (ticksE gr hold nd T)), (11, .bool ((ticksE gr hold nd T : Int) != 0))] := F.sub _
 refine X.thenN ?_
 cases h5 : ((ticksE gr hold nd T : Int) != 0) with
 | false =>
  try rw [h5] at F
  have h5p : (ticksE gr hold nd T : Int) = 0 := by simpa using h5
  have hE : ticksE gr hold nd T = 0 := by simpa using h5p
  have hc := (ticksE_ok hE).1
  have htt := (ticksE_ok hE).2
  refine Y.condF (F.e 11 rfl) ?_
  refine Y.skip ?_
  refine X.thenN ?_
  refine Y.seq ?_
  refine Y.lit (by kernel_rfl) ?_
  refine Y.pv F (X.load rfl (F.e 2 rfl) (X.ldN (Try.agg24 _) (Try.siz24 _) (Y.atz (⟨w.heap.size, 0, none⟩) (Y.AtFrom.cons (hC.at 0 rfl) (Y.AtFrom.cons (hC.at 1 rfl) (Y.AtFrom.cons (hC.at 2 rfl) (Y.AtFrom.nil _ _ _))))))) ?_;clear F ac;intro ac F
  refine Y.pv F (X.move rfl (F.e 1 rfl)) ?_;clear F ac;intro ac F
  refine Y.pcall F (X.w0 rfl) rfl (X.enter (F := 51) rfl (X.kc (.func (.func 51) #[] #[]) rfl) (X.a2 (F.e 13 rfl) (F.e 14 rfl)) (enters_of Try.func51 (by kernel_rfl) rfl _)) (sum_any na n nc gr hold T nd w4 hnd hc ⟨by omega, by omega⟩) ?_
  clear F ac
  rintro e w6 ⟨rfl, g⟩
  refine ⟨_, rfl, ?_⟩
  intro ac F
  replace G := G.trans g
  replace hC := hC.gr g
  replace hnd := hnd.gr g
  clear g
  refine Y.pv F (X.assign rfl (F.e 15 rfl)) ?_;clear F ac;intro ac F
  refine Y.pv F (X.assign rfl (X.kc (Vi 0) rfl)) ?_;clear F ac;intro ac F
  refine Y.nil ?_
  replace F : Fr ac 16 [(0, .agg #[Vi gr, Vi hold, .slice na n nc]), (1, Vi T), (2, Vp w.heap.size), (4, Vi (sumP nd hold T)), (5, Vi 0), (6, Vi (ticksE gr hold nd T)), (11, .bool false)] := F.sub _
  refine X.thenN ?_
  refine Y.ret ?_
  exact Y.ret0 (v := .tuple #[Vi (sumP nd hold T), Vi 0]) F (Y.rs2 F rfl (by kernel_rfl) (by kernel_rfl)) ⟨by rw [parkV, if_pos hE, hE], G⟩
 | true =>
  try rw [h5] at F
  have h5p : ¬ (ticksE gr hold nd T : Int) = 0 := by simpa using h5
  have hE : ¬ ticksE gr hold nd T = 0 := by simpa using h5p
  refine Y.condT (F.e 11 rfl) ?_
  refine Y.seq ?_
  refine Y.lit (by kernel_rfl) ?_
  refine Y.pv F (X.move rfl (F.e 6 rfl)) ?_;clear F ac;intro ac F
  refine Y.pv F (X.assign rfl (X.kc (Vi 0) rfl)) ?_;clear F ac;intro ac F
  refine Y.pv F (X.assign rfl (F.e 12 rfl)) ?_;clear F ac;intro ac F
  refine Y.nil ?_
  replace F : Fr ac 16 [(0, .agg #[Vi gr, Vi hold, .slice na n nc]), (1, Vi T), (2, Vp w.heap.size), (4, Vi 0), (5, Vi (ticksE gr hold nd T)), (6, Vi (ticksE gr hold nd T)), (11, .bool true)] := F.sub _
  refine X.thenN ?_
  refine Y.ret ?_
  refine X.thenR ?_
  exact Y.ret0 (v := .tuple #[Vi 0, Vi (ticksE gr hold nd T)]) F (Y.rs2 F rfl (by kernel_rfl) (by kernel_rfl)) ⟨by rw [parkV, if_neg hE], G⟩
end
section
open Go.RowKit

theorem nodeE_of {gr hold : Int} {nd : List (List Int)} {i T : Int} (h : ticksE gr hold nd T = 0) (h0 : 0 ≤ i) (h1 : i < nd.length) : nodeE gr hold nd i T = 0 := by
  unfold nodeE
  rw [if_neg (fun e => e h), withinB_of h0 (by omega)]; rfl
def worstV (gr hold : Int) (nd : List (List Int)) (i T : Int) : Int := if nodeE gr hold nd i T = 0 then (bestV (ndV nd hold i.toNat T) 0 (cv nd i.toNat 3)).1 else 0
end
section
set_option linter.unusedVariables false
open Go.RowKit
/-- the greatest energy in m ticks from t on; r: 0 free, 1 asleep behind a noise, else awake for r - 1 ticks -/
def enF (p : Nd) : Nat → Int → Int → Nat → Int
  | 0, _, _, _ => 0
  | m + 1, t, x, r =>
    if r = 0 then (if refV p t x = 0 then p.za + enF p m (t + 1) (refV p t x) 0 else max (p.za + enF p m (t + 1) (refV p t x) 0) (p.aw + enF p m (t + 1) (refV p t x - 1) p.hold.toNat))
    else if r = 1 then p.za + enF p m (t + 1) (refV p t x) 0 else p.aw + enF p m (t + 1) (refV p t x) (r - 1)
theorem pick2_fst (a b : Int × Int) : (pick2 a b).1 = max b.1 a.1 := by
  unfold pick2 betB orI cmpI
  by_cases h1 : a.1 < b.1
  · simp [h1]; omega
  · by_cases h2 : b.1 < a.1
    · simp [h1, h2]; omega
    · have e : a.1 = b.1 := by omega
      have h : ∀ c : Bool, (if c = true then a else b).1 = a.1 := fun c => by
        cases c
        · exact e.symm
        · rfl
      rw [h]; omega
theorem wk_path {p : Nd} (h : NdOk p) {t y : Int} (m : Nat) : ∀ k : Nat, (k : Int) ≤ p.hold → k ≤ m → p.aw + enF p m (t + 1) (y - 1) p.hold.toNat = (wkV p t y k).2 + enF p (m - k) (t + 1 + k) (wkV p t y k).1 (p.hold.toNat - k)
  | 0, _, _ => by simp [wkV]
  | k + 1, h1, h2 => by
    have ih := wk_path h (t := t) (y := y) m k (by omega) (by omega)
    have h0 := h.h0
    rw [ih]
    obtain ⟨q, hq⟩ : ∃ q, m - k = q + 1 := ⟨m - k - 1, by omega⟩
    have hq2 : m - (k + 1) = q := by omega
    rw [hq, hq2]
    simp only [wkV]
    rw [enF, if_neg (by omega)]
    have e : t + 1 + ((k + 1 : Nat) : Int) = t + 1 + k + 1 := by omega
    rw [e]
    by_cases hr : p.hold.toNat - k = 1
    · rw [if_pos hr, if_neg (by omega), show p.hold.toNat - (k + 1) = 0 from by omega]; omega
    · rw [if_neg hr, if_pos (by omega), show p.hold.toNat - (k + 1) = p.hold.toNat - k - 1 from by omega]; omega
theorem best_enF {p : Nd} (h : NdOk p) : ∀ (m : Nat) (t x : Int), 0 ≤ t → p.T - t = m → 0 ≤ x → x ≤ p.bu → (bestV p t x).1 = enF p m t x 0 := by
  intro m
  induction m using Nat.strongRecOn with
  | _ m ih =>
    intro t x h0 hm hx0 hx1
    have hh := h.h0
    match m, ih, hm with
    | 0, _, hm => rw [bestV_done _ (by omega)]; rfl
    | m + 1, ih, hm =>
      have hr := refV_bd h (t := t) hx0 hx1
      rw [enF, if_pos rfl]
      by_cases ha : refV p t x = 0
      · rw [if_pos ha, bestV_stay (by omega) ha]
        simp only [add2]
        rw [ih m (by omega) (t + 1) _ (by omega) (by omega) hr.1 hr.2]; omega
      · rw [if_neg ha, bestV_wake (by omega) ha, pick2_fst]
        simp only [add2]
        have hwb := wkV_bd h (t := t) (a := refV p t x) (by omega) hr.2 (wkN p t)
        have hwn := wkN_bd h h0 (by omega)
        rw [ih m (by omega) (t + 1) _ (by omega) (by omega) hr.1 hr.2, wk_path h m (wkN p t) (by omega) (by omega), show enF p m (t + 1) (refV p t x) 0 + p.za = p.za + enF p m (t + 1) (refV p t x) 0 from Int.add_comm _ _]
        congr 1
        rw [Int.add_comm]
        congr 1
        by_cases hN : (wkN p t : Int) = p.hold
        · rw [show p.hold.toNat - wkN p t = 0 from by omega]
          exact ih (m - wkN p t) (by omega) _ _ (by omega) (by omega) hwb.1.1 hwb.1.2
        · have hd : m - wkN p t = 0 := by
            unfold wkN at *
            simp only [Int.min_def] at *
            split at hN <;> split <;> omega
          rw [hd, bestV_done _ (by omega)]; rfl
section
variable {gr hold t : Int} {nd l : List (List Int)}
theorem quiet8 (hE : playE gr hold nd t l = 0) {k i : Nat} (hk : k < t.toNat) (hi : i < nd.length) (ha : andV ((playAsk gr hold nd t l)[k]?.getD 0) (cv nd i 0) = 0) {j : Nat} (hj : j < 8) :
    sndT hold gr.toNat nd.length l (startS nd) k i (6 + j) = (runFrom hold gr.toNat nd.length l (startS nd) k).s i (6 + j) := by
  have hok := playE_ok hE
  have hn16 := hok.c.n16
  have hg8 := hok.c.g8
  obtain ⟨G, hG, hG2, hG3⟩ := hok.c.groups hi
  obtain ⟨A, h1, h2, h3⟩ := asks_nat (fun i hi => askT_ok hE k hi) nd.length (Nat.le_refl _)
  rw [play_ask hE hk, hG] at ha
  unfold asksG at ha
  rw [h1] at ha
  show sendS hold gr.toNat nd.length _ (disT hold gr.toNat nd.length l (startS nd) k) i (6 + j) = _
  rw [send_none (by omega) (fun a haa g hg => by
    rw [disT_ask, disT_lo (by omega) (by omega) hi (by omega), show startS nd i 0 = cv nd i 0 from rfl, hG]
    obtain ⟨B, hB, hB2⟩ := askT_ok hE k haa
    rw [hB, and_bitB (by omega) (by omega)]
    cases e1 : B.testBit g with
    | false => rfl
    | true =>
      cases e2 : G.testBit g with
      | false => rfl
      | true => exact absurd ha ((and_bit (by omega) (by omega)).2 ⟨g, (h3 g).2 ⟨a, haa, by rw [hB]; simpa using e1⟩, e2⟩)) j]
  show disturbS hold l nd.length k (askT hold gr.toNat nd.length l (startS nd) k) i (6 + j) = _
  rw [disturb_ne _ (by omega) (by omega)]
  exact askS_ne _ (by omega)
theorem groups_off (hE : playE gr hold nd t l = 0) {k i lo : Nat} (hk : k < t.toNat) (hi : i < nd.length) (hlo : max (0 : Int) ((k : Int) - hold + 1) = lo)
    (ha : ∀ j, lo ≤ j → j ≤ k → andV ((playAsk gr hold nd t l)[j]?.getD 0) (cv nd i 0) = 0) {j : Nat} (hj : j < 8) : sndT hold gr.toNat nd.length l (startS nd) k i (6 + j) ≤ 0 := by
  have hok := playE_ok hE
  have hn16 := hok.c.n16
  have hh := hok.c.h1
  have hb : ∀ d, lo + d ≤ k → (runFrom hold gr.toNat nd.length l (startS nd) (lo + d)).s i (6 + j) ≤ max 0 ((k : Int) - (lo + d : Nat)) := by
    intro d
    have hs : startS nd i (6 + j) = 0 := by
      unfold startS
      rw [if_neg (by omega), if_neg (by omega)]
    induction d with
    | zero =>
      intro hd
      rw [Nat.add_zero]
      have h1 := tm_bd (gr := gr.toNat) (l := l) (s := startS nd) hh (by omega : nd.length ≤ 62) hi (by omega : j < 9) (by rw [hs]; omega) lo
      by_cases e : lo = 0
      · subst e
        show startS nd i (6 + j) ≤ _
        rw [hs]; omega
      · omega
    | succ d ih =>
      intro hd
      have h1 := ih (by omega)
      have h2 := quiet8 hE (k := lo + d) (by omega) hi (ha (lo + d) (by omega) (by omega)) hj
      rw [show lo + (d + 1) = (lo + d) + 1 from by omega, run_st (by omega) hi, passN_tm i (by omega), h2]
      split <;> omega
  have hlk : lo ≤ k := by omega
  have h1 := hb (k - lo) (by omega)
  rw [show lo + (k - lo) = k from by omega] at h1
  rw [quiet8 hE hk hi (ha k hlk (Nat.le_refl _)) hj]
  omega
/-- what noise does to a node in a tick -/
theorem noise_two (hh : 1 ≤ hold) {z : PS} {i : Nat} : ∀ L : List (List Int), ((L.foldl (noiseX hold) z) i 15 = z i 15 ∧ (L.foldl (noiseX hold) z) i 14 = z i 14) ∨
    (z i 16 = 0 ∧ 0 < z i 15 ∧ z i 14 = 0 ∧ (L.foldl (noiseX hold) z) i 15 = z i 15 - 1 ∧ (L.foldl (noiseX hold) z) i 14 = hold) := by
  intro L
  induction L generalizing z with
  | nil => exact .inl ⟨rfl, rfl⟩
  | cons x L ih =>
    rw [List.foldl_cons]
    have hx : ∀ j, j ≠ 14 → j ≠ 15 → noiseX hold z x i j = z i j := fun j h1 h2 => by
      unfold noiseX
      split
      · rw [up_ne _ _ (.inr h1), up_ne _ _ (.inr h2)]
      · rfl
    by_cases e : z (nv x 2).toNat 16 = 0 ∧ 0 < z (nv x 2).toNat 15 ∧ z (nv x 2).toNat 14 = 0
    · by_cases ei : (nv x 2).toNat = i
      · have e14 : noiseX hold z x i 14 = hold := by rw [noiseX_pos e.1 e.2.1 e.2.2, ei, up_same]
        have e15 : noiseX hold z x i 15 = z i 15 - 1 := by rw [noiseX_pos e.1 e.2.1 e.2.2, ei, up_ne _ _ (.inr (by decide)), up_same]
        rw [ei] at e
        rcases ih (z := noiseX hold z x) with h | h
        · exact .inr ⟨e.1, e.2.1, e.2.2, by rw [h.1, e15], by rw [h.2, e14]⟩
        · have := h.2.2.1; rw [e14] at this; omega
      · have e1 : ∀ j, noiseX hold z x i j = z i j := fun j => by
          rw [noiseX_pos e.1 e.2.1 e.2.2, up_ne _ _ (.inl (Ne.symm ei)), up_ne _ _ (.inl (Ne.symm ei))]
        have := ih (z := noiseX hold z x)
        rwa [e1, e1, e1] at this
    · have e1 : noiseX hold z x = z := noiseX_neg e
      rw [e1]; exact ih
end
/-- what a node takes in the first k ticks, those aside in which it is called -/
def callB (asked : List Int) (G hold : Int) (k : Nat) : Bool := anyB (fun a => decide ((k : Int) - hold < a) && (andV (asked[a]?.getD 0) G != 0)) (k + 1)
def restV (nd : List (List Int)) (asked rows : List Int) (hold : Int) (i : Nat) : Nat → Int
  | 0 => 0
  | k + 1 => restV nd asked rows hold i k + (if callB asked (cv nd i 0) hold k then 0 else en1 nd (rows[k]?.getD 0) i)
section
variable {gr hold t : Int} {nd l : List (List Int)}
/-- the state of a node before a tick, as the greatest energy sees it -/
def InvF (s : PS) (i : Nat) (r : Nat) : Prop := (0 < s i 14 → (r : Int) = s i 14 + 1) ∧ (s i 14 ≤ 0 → r = 0 ∨ (r = 1 ∧ s i 16 = 1))
theorem rest_tick (hE : playE gr hold nd t l = 0) {i : Nat} (hi : i < nd.length) (p : Nd) (hp : p = ndV nd hold i t) {k r m : Nat} (hk : k < t.toNat) (hI : InvF (runFrom hold gr.toNat nd.length l (startS nd) k).s i r) :
    ∃ r', InvF (runFrom hold gr.toNat nd.length l (startS nd) (k + 1)).s i r' ∧
      (if callB (playAsk gr hold nd t l) (cv nd i 0) hold k then 0 else en1 nd ((playRows gr hold nd t l)[k]?.getD 0) i) + enF p m (k + 1) ((runFrom hold gr.toNat nd.length l (startS nd) (k + 1)).s i 15) r' ≤ enF p (m + 1) k ((runFrom hold gr.toNat nd.length l (startS nd) k).s i 15) r := by
  have hok := playE_ok hE
  have hc := hok.c
  have hn16 := hc.n16
  have hg8 := hc.g8
  have hh := hc.h1
  have haw := hc.awk i hi
  have hza := hc.asl i hi
  obtain ⟨s, hs⟩ : ∃ s, (runFrom hold gr.toNat nd.length l (startS nd) k).s = s := ⟨_, rfl⟩
  have h3 : s i 3 = cv nd i 3 := by rw [← hs]; exact run_lo (by omega) (by omega) hi (by omega) k
  have h4 : s i 4 = cv nd i 4 := by rw [← hs]; exact run_lo (by omega) (by omega) hi (by omega) k
  have hpa : p.aw = cv nd i 1 := by rw [hp]; rfl
  have hpz : p.za = cv nd i 2 := by rw [hp]; rfl
  have hph : p.hold = hold := by rw [hp]; rfl
  -- the tokens behind the refill
  have hz15 : itN (refill1 k) nd.length (askS l k s) i 15 = refV p k (s i 15) := by
    have gen : ∀ m, i < m → itN (refill1 k) m (askS l k s) i 15 = refV p k (s i 15) := by
      intro m
      induction m with
      | zero => intro h; omega
      | succ m ih =>
        intro h
        rw [itN_succ]
        by_cases e : i = m
        · subst e
          have e2 : ∀ j, itN (refill1 k) i (askS l k s) i j = askS l k s i j := fun j =>
            itN_keep (P := fun z : PS => z i j = askS l k s i j) rfl i (fun a z ha hz => by
              unfold refill1
              split
              · rw [up_ne _ _ (.inl (by omega))]; exact hz
              · exact hz)
          have e3 : itN (refill1 k) i (askS l k s) i 3 = cv nd i 3 := by rw [e2, askS_ne _ (by decide), h3]
          have e4 : itN (refill1 k) i (askS l k s) i 4 = cv nd i 4 := by rw [e2, askS_ne _ (by decide), h4]
          have e5 : itN (refill1 k) i (askS l k s) i 15 = s i 15 := by rw [e2, askS_ne _ (by decide)]
          generalize itN (refill1 k) i (askS l k s) = y at e2 e3 e4 e5 ⊢
          unfold refV
          rw [hp]
          show refill1 k i y i 15 = if 0 < (k : Int) ∧ (k : Int) % cv nd i 4 = 0 then min (s i 15 + 1) (cv nd i 3) else s i 15
          unfold refill1
          rw [e3, e4, e5]
          split
          · rw [up_same]
          · exact e5
        · have := ih (by omega)
          unfold refill1
          split
          · rw [up_ne _ _ (.inl e)]; exact this
          · exact this
    exact gen _ hi
  have hz14 : itN (refill1 k) nd.length (askS l k s) i 14 = s i 14 := by rw [refill_ne _ (by decide), askS_ne _ (by decide)]
  have hz16 : itN (refill1 k) nd.length (askS l k s) i 16 = s i 16 := by rw [refill_ne _ (by decide), askS_ne _ (by decide)]
  have hn := noise_two hh (z := itN (refill1 k) nd.length (askS l k s)) (i := i) (picks l k [3])
  rw [hz15, hz14, hz16] at hn
  have hS15 : sndT hold gr.toNat nd.length l (startS nd) k i 15 = ((picks l k [3]).foldl (noiseX hold) (itN (refill1 k) nd.length (askS l k s))) i 15 := by
    show sendS hold gr.toNat nd.length _ _ i 15 = _
    rw [sendS_lo (.inr (by omega)) (by omega), ← hs]; rfl
  have hS14 : sndT hold gr.toNat nd.length l (startS nd) k i 14 = ((picks l k [3]).foldl (noiseX hold) (itN (refill1 k) nd.length (askS l k s))) i 14 := by
    show sendS hold gr.toNat nd.length _ _ i 14 = _
    rw [send_ne14 (by omega), ← hs]; rfl
  rw [← hS15, ← hS14] at hn
  -- the state behind the tick
  have n15 : (runFrom hold gr.toNat nd.length l (startS nd) (k + 1)).s i 15 = sndT hold gr.toNat nd.length l (startS nd) k i 15 := by rw [run_st (by omega) hi, passN_ne (.inr (.inr rfl))]
  have n14 : (runFrom hold gr.toNat nd.length l (startS nd) (k + 1)).s i 14 = if 0 < sndT hold gr.toNat nd.length l (startS nd) k i 14 then sndT hold gr.toNat nd.length l (startS nd) k i 14 - 1 else sndT hold gr.toNat nd.length l (startS nd) k i 14 := by
    rw [run_st (by omega) hi]; exact passN_tm (k := 8) i (by decide)
  have n16 : (runFrom hold gr.toNat nd.length l (startS nd) (k + 1)).s i 16 = if awB (sndT hold gr.toNat nd.length l (startS nd) k) i then 1 else 0 := by rw [run_st (by omega) hi, passN_aw]
  have hen : en1 nd ((playRows gr hold nd t l)[k]?.getD 0) i = if awB (sndT hold gr.toNat nd.length l (startS nd) k) i then cv nd i 1 else cv nd i 2 := by unfold en1; rw [play_bit hE hk hi]
  have hE1 : (if callB (playAsk gr hold nd t l) (cv nd i 0) hold k then 0 else en1 nd ((playRows gr hold nd t l)[k]?.getD 0) i) ≤ cv nd i 1 := by
    split
    · omega
    · rw [hen]; split <;> omega
  have awk_of : 0 < sndT hold gr.toNat nd.length l (startS nd) k i 14 → awB (sndT hold gr.toNat nd.length l (startS nd) k) i = true := fun h => awB_iff.2 ⟨8, by decide, h⟩
  rw [n15]
  unfold InvF at hI ⊢
  rw [hs] at hI ⊢
  rw [n14, n16]
  generalize hX : (if callB (playAsk gr hold nd t l) (cv nd i 0) hold k then 0 else en1 nd ((playRows gr hold nd t l)[k]?.getD 0) i) = X at hE1 ⊢
  rcases hn with ⟨e15, e14⟩ | ⟨q16, q15, q14, e15, e14⟩
  · rw [e15, e14]
    by_cases hp0 : 0 < s i 14
    · -- awake by an earlier noise
      have hr := hI.1 hp0
      refine ⟨r - 1, ⟨fun h => ?_, fun h => ?_⟩, ?_⟩
      · rw [if_pos hp0] at h ⊢; omega
      · rw [if_pos hp0] at h
        exact .inr ⟨by omega, by rw [awk_of (by rw [e14]; exact hp0)]; rfl⟩
      · rw [enF, if_neg (by omega), if_neg (by omega)]; omega
    · -- no noise
      have hr := hI.2 (by omega)
      refine ⟨0, ⟨fun h => absurd h (by rw [if_neg hp0]; exact hp0), fun _ => .inl rfl⟩, ?_⟩
      have hle : X ≤ p.za := by
        rw [← hX]
        cases hcb : callB (playAsk gr hold nd t l) (cv nd i 0) hold k with
        | true => simp; omega
        | false =>
          obtain ⟨lo, hlo⟩ : ∃ lo : Nat, max (0 : Int) ((k : Int) - hold + 1) = lo := ⟨_, (Int.toNat_of_nonneg (by omega)).symm⟩
          have hq : ∀ j, lo ≤ j → j ≤ k → andV ((playAsk gr hold nd t l)[j]?.getD 0) (cv nd i 0) = 0 := fun j h1 h2 => by
            refine Classical.byContradiction fun hne => ?_
            have : callB (playAsk gr hold nd t l) (cv nd i 0) hold k = true := anyB_iff.2 ⟨j, by omega, by simp [hne]; omega⟩
            rw [hcb] at this; cases this
          have hoff : awB (sndT hold gr.toNat nd.length l (startS nd) k) i = false := by
            cases ee : awB (sndT hold gr.toNat nd.length l (startS nd) k) i with
            | false => rfl
            | true =>
              obtain ⟨j, hj, hpj⟩ := awB_iff.1 ee
              by_cases e8 : j = 8
              · subst e8; rw [show 6 + 8 = 14 from rfl, e14] at hpj; omega
              · have := groups_off hE hk hi hlo hq (j := j) (by omega); omega
          rw [hen, hoff]; simp; omega
      rcases hr with rfl | ⟨rfl, _⟩
      · rw [enF, if_pos rfl]; split <;> omega
      · rw [enF, if_neg (by decide), if_pos rfl]; omega
  · -- noise wakes it
    rw [e15, e14]
    have hr : r = 0 := by
      rcases hI.2 (by omega) with h | h
      · exact h
      · rw [q16] at h; omega
    subst hr
    refine ⟨hold.toNat, ⟨fun h => ?_, fun h => ?_⟩, ?_⟩
    · rw [if_pos (by omega)] at h ⊢; omega
    · rw [if_pos (by omega)] at h
      exact .inr ⟨by omega, by rw [awk_of (by rw [e14]; omega)]; rfl⟩
    · rw [enF, if_pos rfl, if_neg (by omega), hph]; omega
theorem rest_le (hE : playE gr hold nd t l = 0) {i : Nat} (hi : i < nd.length) (p : Nd) (hp : p = ndV nd hold i t) : ∀ (m k r : Nat), k + m = t.toNat → InvF (runFrom hold gr.toNat nd.length l (startS nd) k).s i r →
    restV nd (playAsk gr hold nd t l) (playRows gr hold nd t l) hold i t.toNat ≤ restV nd (playAsk gr hold nd t l) (playRows gr hold nd t l) hold i k + enF p m k ((runFrom hold gr.toNat nd.length l (startS nd) k).s i 15) r
  | 0, k, r, hk, _ => by
    rw [show t.toNat = k by omega]
    show _ ≤ _ + (0 : Int)
    omega
  | m + 1, k, r, hk, hI => by
    obtain ⟨r', hI', hle⟩ := rest_tick hE hi p hp (m := m) (by omega) hI
    have ih := rest_le hE hi p hp m (k + 1) r' (by omega) hI'
    simp only [restV] at ih
    have e : ((k + 1 : Nat) : Int) = (k : Int) + 1 := by omega
    rw [e] at ih
    omega
theorem rest_worst (hE : playE gr hold nd t l = 0) {i : Nat} (hi : i < nd.length) : nodeE gr hold nd i t = 0 ∧ restV nd (playAsk gr hold nd t l) (playRows gr hold nd t l) hold i t.toNat ≤ worstV gr hold nd i t := by
  have hok := playE_ok hE
  have ht0 := hok.t0
  have hT : ticksE gr hold nd t = 0 := by
    unfold playE at hE
    split at hE
    · contradiction
    · rename_i h; simpa using h
  have hN := nodeE_of (i := (i : Int)) hT (by omega) (by omega)
  refine ⟨hN, ?_⟩
  have hb := hok.c.bud i hi
  have h1 := rest_le hE hi (ndV nd hold i t) rfl t.toNat 0 0 (by omega) ⟨fun h => absurd h (by show ¬ (0 : Int) < startS nd i 14; unfold startS; rw [if_neg (by omega), if_neg (by omega)]; omega), fun _ => .inl rfl⟩
  unfold worstV
  rw [if_pos hN, Int.toNat_natCast, best_enF (ndOk_of hok.c hi ht0 (by have := hok.t1; omega)) t.toNat 0 (cv nd i 3) (by omega) (by show t - 0 = _; omega) hb.1 (Int.le_refl _)]
  have e : (runFrom hold gr.toNat nd.length l (startS nd) 0).s i 15 = cv nd i 3 := rfl
  rw [e] at h1
  simp only [restV] at h1
  have e0 : ((0 : Nat) : Int) = 0 := rfl
  rw [e0] at h1
  omega
end
end
section
open Go.RowKit

section
variable {p : Nd} {t x : Int}
end
end
section
set_option linter.unusedVariables false
open Go.RowKit
/-- nobody asks -/
def NoAsk (l : List (List Int)) : Prop := ∀ x ∈ l, nv x 1 ≠ 1
theorem leave_zero {g : Int} (h0 : 0 ≤ g) (h8 : g < 8) : anotV (orV 0 (shlV 1 g)) (shlV 1 g) = 0 := by
  obtain rfl | rfl | rfl | rfl | rfl | rfl | rfl | rfl : g = 0 ∨ g = 1 ∨ g = 2 ∨ g = 3 ∨ g = 4 ∨ g = 5 ∨ g = 6 ∨ g = 7 := by omega
  all_goals decide
section
variable {gr hold t : Int} {nd l : List (List Int)}
theorem noask_step {n : Nat} {s : PS} {u : Int} (hs : ∀ a, a < n → s a 5 = 0) (hn : NoAsk l) (hl : NuAll gr nd t l) (h8 : gr ≤ 8) : ∀ a, a < n → askS l u s a 5 = 0 := by
  unfold askS
  refine foldl_keep (P := fun z : PS => ∀ a, a < n → z a 5 = 0) _ _ hs (fun x hx z hz a ha => ?_)
  have harg := hl.args h8 hx
  obtain ⟨h1, h2⟩ := List.mem_filter.1 hx
  have hk : nv x 1 = 2 := by
    have h3 := hn x h1
    unfold pickB at h2
    simp at h2
    omega
  unfold askX askA
  rw [if_pos hk]
  by_cases e : a = (nv x 2).toNat
  · subst e
    rw [up_same, up_same, hz _ ha]
    exact leave_zero harg.1 harg.2
  · rw [up_ne _ _ (.inl e), up_ne _ _ (.inl e)]
    exact hz a ha
theorem noask (hE : playE gr hold nd t l = 0) (hn : NoAsk l) : ∀ k, ∀ a, a < nd.length → (runFrom hold gr.toNat nd.length l (startS nd) k).s a 5 = 0 ∧ askT hold gr.toNat nd.length l (startS nd) k a 5 = 0 := by
  have hok := playE_ok hE
  have hn16 := hok.c.n16
  have hg8 := hok.c.g8
  have hall : NuAll gr nd t l := fun x hx => by
    obtain ⟨i, hi, rfl⟩ := List.getElem_of_mem hx
    have := hok.nu i hi
    rwa [List.getElem?_eq_getElem hi] at this
  intro k
  induction k with
  | zero => exact fun a ha => ⟨rfl, noask_step (s := (runFrom hold gr.toNat nd.length l (startS nd) 0).s) (fun _ _ => rfl) hn hall hg8 a ha⟩
  | succ k ih =>
    have h1 : ∀ a, a < nd.length → (runFrom hold gr.toNat nd.length l (startS nd) (k + 1)).s a 5 = 0 := fun a ha => by
      rw [run_st (by omega) ha, passN_ne (.inr (.inl (by omega)))]
      show sendS hold gr.toNat nd.length _ _ a 5 = 0
      rw [sendS_lo (.inl (by omega)) (by omega), disT_ask]
      exact (ih a ha).2
    exact fun a ha => ⟨h1 a ha, noask_step h1 hn hall hg8 a ha⟩
theorem noask_and (hE : playE gr hold nd t l = 0) (hn : NoAsk l) {k i : Nat} (hk : k < t.toNat) (hi : i < nd.length) : andV ((playAsk gr hold nd t l)[k]?.getD 0) (cv nd i 0) = 0 := by
  have hok := playE_ok hE
  have hn16 := hok.c.n16
  obtain ⟨G, hG, hG2, hG3⟩ := hok.c.groups hi
  obtain ⟨A, h1, h2, h3⟩ := asks_nat (fun i hi => askT_ok hE k hi) nd.length (Nat.le_refl _)
  rw [play_ask hE hk, hG]
  unfold asksG
  rw [h1]
  refine Classical.byContradiction fun hne => ?_
  obtain ⟨b, hb, _⟩ := (and_bit (by omega) (by omega)).1 hne
  obtain ⟨j, hj, hjb⟩ := (h3 b).1 hb
  rw [(noask hE hn k j hj).2] at hjb
  rw [show ((0 : Int).toNat) = 0 from rfl, Nat.zero_testBit] at hjb
  cases hjb
theorem en_take (hE : playE gr hold nd t l = 0) {i : Nat} (hi : i < nd.length) : (playEn gr hold nd t l)[i]?.getD 0 = enS nd ((playRows gr hold nd t l).take t.toNat) i := by
  rw [List.take_of_length_le (by rw [playRows_len hE]; exact Nat.le_refl _)]
  unfold playEn playRows
  rw [if_pos hE, if_pos hE]
  simp [hi]
theorem rest_quiet (hE : playE gr hold nd t l = 0) (hn : NoAsk l) {i : Nat} (hi : i < nd.length) : ∀ k, k ≤ t.toNat → restV nd (playAsk gr hold nd t l) (playRows gr hold nd t l) hold i k = enS nd ((playRows gr hold nd t l).take k) i
  | 0, _ => by simp [restV, enS]
  | k + 1, hk => by
    have hl := playRows_len hE
    rw [enS_take (by omega) i, ← rest_quiet hE hn hi k (by omega)]
    have hc : callB (playAsk gr hold nd t l) (cv nd i 0) hold k = false := by
      cases e : callB (playAsk gr hold nd t l) (cv nd i 0) hold k with
      | false => rfl
      | true =>
        obtain ⟨a, h1, h2⟩ := anyB_iff.1 e
        rw [Bool.and_eq_true] at h2
        have h3 := noask_and hE hn (k := a) (by omega) hi
        rw [h3] at h2
        exact absurd h2.2 (by decide)
    simp only [restV]
    rw [hc]
    simp
/-- in a play without Ask -/
theorem bounded_le (hE : playE gr hold nd t l = 0) (hn : NoAsk l) {i : Nat} (hi : i < nd.length) : nodeE gr hold nd i t = 0 ∧ (playEn gr hold nd t l)[i]?.getD 0 ≤ worstV gr hold nd i t := by
  have h := rest_worst hE hi
  rw [rest_quiet hE hn hi _ (Nat.le_refl _)] at h
  exact ⟨h.1, by rw [en_take hE hi]; exact h.2⟩
end
section
variable {gr hold t : Int} {nd l : List (List Int)}
end
section
variable {gr hold t : Int} {nd : List (List Int)} {D : List Int}
end
end
section
set_option linter.unusedVariables false
open Go.RowKit
section
variable {W W' : World} {tb T N z hi B : Nat} {p : Nd}
end
end
section
set_option linter.unusedVariables false
open Go.RowKit
theorem enF_succ (p : Nd) (m : Nat) (t x : Int) (r : Nat) : enF p (m + 1) t x r = if r = 0 then (if refV p t x = 0 then p.za + enF p m (t + 1) (refV p t x) 0 else max (p.za + enF p m (t + 1) (refV p t x) 0) (p.aw + enF p m (t + 1) (refV p t x - 1) p.hold.toNat))
    else if r = 1 then p.za + enF p m (t + 1) (refV p t x) 0 else p.aw + enF p m (t + 1) (refV p t x) (r - 1) := by rw [enF]
/-- one more tick -/
theorem enF_more {p : Nd} (h : p.za ≤ p.aw) : ∀ (m : Nat) (t x : Int) (r : Nat), p.za ≤ enF p (m + 1) t x r - enF p m t x r ∧ enF p (m + 1) t x r - enF p m t x r ≤ p.aw
  | 0, t, x, r => by
    simp only [enF]
    simp only [Int.max_def]
    split
    · split
      · omega
      · split <;> omega
    · split <;> omega
  | m + 1, t, x, r => by
    have i1 := enF_more h m (t + 1) (refV p t x) 0
    have i2 := enF_more h m (t + 1) (refV p t x - 1) p.hold.toNat
    have i3 := enF_more h m (t + 1) (refV p t x) (r - 1)
    rw [enF_succ p (m + 1) t x r, enF_succ p m t x r]
    simp only [Int.max_def]
    split
    · split
      · omega
      · split <;> split <;> omega
    · split <;> omega
end
section
open Go.RowKit

set_option maxRecDepth 100000 in
set_option maxHeartbeats 400000 in
theorem beg1_any (bc bt : Nat) (na : Option Addr) (n nc : Nat) (gr hold t : Int) (nd : List (List Int)) (x : List Int) (w : World) (hcb : RCells w [(⟨bc, 0, none⟩, .int .i64 gr), (⟨bc, 1, none⟩, .int .i64 hold), (⟨bc, 2, none⟩, .slice na n nc), (⟨bt, 0, none⟩, .int .i64 t)]) (hnd : StAt w 5 na n nd) (hc : CluOk gr hold nd) (ht : 0 ≤ t ∧ t ≤ 1000) :
  Calls Try.prog 68 #[.agg #[Vi (nv x 0), Vi (nv x 1), Vi (nv x 2), Vi (nv x 3)], Vp bc, Vp bt] w fun e w' => e = .returned (.bool (!rightB gr nd t x)) ∧ Gr w w' := by
 have G := Gr.refl w
 have hC := hcb
 have hlen := hnd.len
 refine Y.calls 10 Try.func68 rfl rfl ?_
 intro ac F0
 have F : Fr ac 10 [(0, .agg #[Vi (nv x 0), Vi (nv x 1), Vi (nv x 2), Vi (nv x 3)]), (1, Vp bc), (2, Vp bt)] := F0.sub _
 clear F0
 refine Y.seq ?_
 refine Y.lit (by kernel_rfl) ?_
 refine Y.pv F (X.box rfl (F.e 0 rfl) X.bx) ?_;clear F ac;intro ac F
 have g := Gr.alloc w (.cells #[Vi (nv x 0), Vi (nv x 1), Vi (nv x 2), Vi (nv x 3)] 33)
 have hb := heap_alloc_new w (.cells #[Vi (nv x 0), Vi (nv x 1), Vi (nv x 2), Vi (nv x 3)] 33)
 have hbl : w.heap.size < (w.alloc (.cells #[Vi (nv x 0), Vi (nv x 1), Vi (nv x 2), Vi (nv x 3)] 33)).heap.size := by simp
 have hC2 : RCells (w.alloc (.cells #[Vi (nv x 0), Vi (nv x 1), Vi (nv x 2), Vi (nv x 3)] 33)) [(Ad bc 0, Vi gr), (Ad bc 1, Vi hold), (Ad bc 2, .slice na n nc), (Ad bt 0, Vi t), (Ad w.heap.size 0, Vi (nv x 0)), (Ad w.heap.size 1, Vi (nv x 1)), (Ad w.heap.size 2, Vi (nv x 2)), (Ad w.heap.size 3, Vi (nv x 3))] := hC.box (b := w.heap.size) #[Vi (nv x 0), Vi (nv x 1), Vi (nv x 2), Vi (nv x 3)] 33 rfl
 generalize w.alloc (.cells #[Vi (nv x 0), Vi (nv x 1), Vi (nv x 2), Vi (nv x 3)] 33) = w3 at *
 replace G := G.trans g
 replace hC := hC2
 clear hC2
 replace hnd := hnd.gr g
 clear g hb hbl
 refine Y.pv F (X.assign rfl (X.kc (.bool false) rfl)) ?_;clear F ac;intro ac F
 refine Y.nil ?_
 replace F : Fr ac 10 [(1, Vp bc), (2, Vp bt), (3, Vp w.heap.size)] := F.sub _
 refine X.thenN ?_
 refine Y.seq ?_
 refine Y.lit (by kernel_rfl) ?_
 refine Y.pv F (X.load rfl (F.e 1 rfl) (X.ldN (Try.agg24 _) (Try.siz24 _) (Y.atz (⟨bc, 0, none⟩) (Y.AtFrom.cons (hC.at 0 rfl) (Y.AtFrom.cons (hC.at 1 rfl) (Y.AtFrom.cons (hC.at 2 rfl) (Y.AtFrom.nil _ _ _))))))) ?_;clear F ac;intro ac F
 refine Y.pv F (X.load rfl (F.e 2 rfl) (X.ld1 (Try.agg3 _) (hC.at 3 rfl))) ?_;clear F ac;intro ac F
 refine Y.pv F (X.load rfl (F.e 3 rfl) (X.ldN (Try.agg33 _) (Try.siz33 _) (Y.atz (⟨w.heap.size, 0, none⟩) (Y.AtFrom.cons (hC.at 4 rfl) (Y.AtFrom.cons (hC.at 5 rfl) (Y.AtFrom.cons (hC.at 6 rfl) (Y.AtFrom.cons (hC.at 7 rfl) (Y.AtFrom.nil _ _ _)))))))) ?_;clear F ac;intro ac F
 refine Y.pcall F (X.w0 rfl) rfl (X.enter (F := 69) rfl (X.kc (.func (.func 69) #[] #[]) rfl) (X.a3 (F.e 5 rfl) (F.e 6 rfl) (F.e 7 rfl)) (enters_of Try.func69 (by kernel_rfl) rfl _)) (right_any na n nc gr hold t nd x w3 hnd hc ht) ?_
 clear F ac
 rintro e w4 ⟨rfl, g⟩
 refine ⟨_, rfl, ?_⟩
 intro ac F
 replace G := G.trans g
 replace hC := hC.gr g
 replace hnd := hnd.gr g
 clear g
 refine Y.pv F (X.notB rfl (F.e 8 rfl) rfl) ?_;clear F ac;intro ac F
 refine Y.pv F (X.assign rfl (F.e 9 rfl)) ?_;clear F ac;intro ac F
 refine Y.nil ?_
 replace F : Fr ac 10 [(4, .bool (!(rightB gr nd t x)))] := F.sub _
 refine X.thenN ?_
 refine Y.ret ?_
 exact Y.ret0 (v := .bool (!(rightB gr nd t x))) F (Y.rs1 F rfl (by kernel_rfl)) ⟨rfl, G⟩
set_option maxRecDepth 100000 in
set_option maxHeartbeats 400000 in
theorem indexF_any (bc bt : Nat) (na la : Option Addr) (n nc m lc : Nat) (gr hold t : Int) (nd l : List (List Int)) (w : World) (hcb : RCells w [(⟨bc, 0, none⟩, .int .i64 gr), (⟨bc, 1, none⟩, .int .i64 hold), (⟨bc, 2, none⟩, .slice na n nc), (⟨bt, 0, none⟩, .int .i64 t)]) (hnd : StAt w 5 na n nd) (hc : CluOk gr hold nd) (ht : 0 ≤ t ∧ t ≤ 1000) (hl : StAt w 4 la m l) :
  Calls Try.prog 83 #[.slice la m lc, .func (.func 68) #[] #[Vp bc, Vp bt]] w fun e w' => ∃ z, e = .returned (Vi z) ∧ decide (0 ≤ z) = !(allN (fun i => rightB gr nd t (l[i]?.getD [])) m) ∧ Gr w w' := by
 have G := Gr.refl w
 have hC := hcb
 have hlen := hnd.len
 have hlm := hl.lt
 have hll := hl.len
 refine Y.calls 19 Try.func83 rfl rfl ?_
 intro ac F0
 have F : Fr ac 19 [(0, .slice la m lc), (1, .func (.func 68) #[] #[Vp bc, Vp bt])] := F0.sub _
 clear F0
 refine Y.seq ?_
 refine Y.lit (by kernel_rfl) ?_
 refine Y.pv F (X.assign rfl (X.kc (Vi 0) rfl)) ?_;clear F ac;intro ac F
 refine Y.nil ?_
 replace F : Fr ac 19 [(0, .slice la m lc), (1, .func (.func 68) #[] #[Vp bc, Vp bt])] := F.sub _
 refine X.thenN ?_
 refine Y.seq ?_
 refine Y.seq ?_
 refine Y.lit (by kernel_rfl) ?_
 refine Y.pv F (X.move rfl (F.e 0 rfl)) ?_;clear F ac;intro ac F
 refine Y.pv F (X.len1 Try.underlying25 rfl (F.e 6 rfl)) ?_;clear F ac;intro ac F
 refine Y.pv F (X.move rfl (X.kc (Vi 0) rfl)) ?_;clear F ac;intro ac F
 refine Y.nil ?_
 replace F : Fr ac 19 [(0, .slice la m lc), (1, .func (.func 68) #[] #[Vp bc, Vp bt]), (7, Vi m), (8, Vi 0)] := F.sub _
 refine X.thenN ?_
 refine Y.block ?_
 have hndB := hnd
 have hlB := hl
 have hCB := hC
 have GB := G
 refine Y.loop (fun me_ ac wr => ∃ (i : Nat), me_ = m - i ∧ Gr w wr ∧ i ≤ m ∧ allN (fun i => rightB gr nd t (l[i]?.getD [])) i = true ∧ Fr ac 19 [(0, .slice la m lc), (1, .func (.func 68) #[] #[Vp bc, Vp bt]), (7, Vi m), (8, Vi i)]) _ ⟨0, rfl, Gr.refl _, Nat.zero_le _, rfl, F.sub _⟩ ?_
 clear F
 intro me_ ac w3 hI
 obtain ⟨i, rfl, gr, hi0, hall, F⟩ := hI
 replace G := GB.trans gr
 replace hC := hCB.gr gr
 replace hnd := hndB.gr gr
 replace hl := hlB.gr gr
 have GB_ := gr
 clear gr
 refine Y.seq ?_
 refine Y.lit (by kernel_rfl) ?_
 refine Y.pv F (X.binop rfl (F.e 8 rfl) (F.e 7 rfl) (X.lssI Try.underlying3 rfl)) ?_;clear F ac;intro ac F
 refine Y.nil ?_
 replace F : Fr ac 19 [(0, .slice la m lc), (1, .func (.func 68) #[] #[Vp bc, Vp bt]), (7, Vi m), (8, Vi i), (9, .bool (decide ((i : Int) < m)))] := F.sub _
 refine X.thenN ?_
 refine Y.seq ?_
 cases h4 : decide ((i : Int) < m) with
 | false =>
  try rw [h4] at F
  have h4p : ¬ ((i : Int) < m) := of_decide_eq_false h4
  have him : i = m := by omega
  rw [him] at hall
  refine Y.condF (F.e 9 rfl) ?_
  refine Y.exit ?_
  refine X.thenX ?_
  refine X.thenX ?_
  refine X.blockX ?_
  refine X.thenN ?_
  refine Y.seq ?_
  refine Y.lit (by kernel_rfl) ?_
  refine Y.pv F (X.assign rfl (X.kc (Vi (-1)) rfl)) ?_;clear F ac;intro ac F
  refine Y.nil ?_
  replace F : Fr ac 19 [(4, Vi (-1))] := F.sub _
  refine X.thenN ?_
  refine Y.ret ?_
  exact Y.ret0 (v := Vi (-1)) F (Y.rs1 F rfl (by kernel_rfl)) ⟨_, rfl, by rw [hall]; decide, G⟩
 | true =>
  try rw [h4] at F
  have h4p : ((i : Int) < m) := of_decide_eq_true h4
  refine Y.condT (F.e 9 rfl) ?_
  refine Y.skip ?_
  refine X.thenN ?_
  refine Y.seq ?_
  refine Y.block ?_
  refine Y.seq ?_
  refine Y.lit (by kernel_rfl) ?_
  refine Y.pv F (X.move rfl (F.e 8 rfl)) ?_;clear F ac;intro ac F
  refine Y.pv F (X.assign rfl (F.e 10 rfl)) ?_;clear F ac;intro ac F
  refine Y.nil ?_
  replace F : Fr ac 19 [(0, .slice la m lc), (1, .func (.func 68) #[] #[Vp bc, Vp bt]), (5, Vi i), (7, Vi m), (8, Vi i)] := F.sub _
  refine X.thenN ?_
  refine Y.seq ?_
  refine Y.lit (by kernel_rfl) ?_
  refine Y.pv F (X.move rfl (F.e 1 rfl)) ?_;clear F ac;intro ac F
  refine Y.pv F (X.move rfl (F.e 0 rfl)) ?_;clear F ac;intro ac F
  refine Y.pv F (X.move rfl (F.e 5 rfl)) ?_;clear F ac;intro ac F
  obtain ⟨pd5, pe5, -, -, pc5⟩ := hl.at (j := i) (by omega)
  subst pe5
  replace hC : RCells w3 [(Ad bc 0, Vi gr), (Ad bc 1, Vi hold), (Ad bc 2, .slice na n nc), (Ad bt 0, Vi t), (pd5.add (i * 4), Vi (cv l i 0)), (⟨(pd5.add (i * 4)).block, (pd5.add (i * 4)).off + 1, none⟩, Vi (cv l i 1)), (⟨(pd5.add (i * 4)).block, (pd5.add (i * 4)).off + 2, none⟩, Vi (cv l i 2)), (⟨(pd5.add (i * 4)).block, (pd5.add (i * 4)).off + 3, none⟩, Vi (cv l i 3))] := hC.append ((RCells.cons (pc5 0 (by decide)) (RCells.cons (pc5 1 (by decide)) (RCells.cons (pc5 2 (by decide)) (RCells.cons (pc5 3 (by decide)) (RCells.nil _))))))
  clear pc5
  refine Y.pv F (X.index rfl (F.e 12 rfl) (F.e 13 rfl) (X.idx (k := i) Try.underlying25 (Try.siz33 _) (by omega) (by omega) rfl)) ?_;clear F ac;intro ac F
  refine Y.pv F (X.load rfl (F.e 14 rfl) (X.ldN (Try.agg33 _) (Try.siz33 _) (Y.atz (pd5.add (i * 4)) (Y.AtFrom.cons (hC.at 4 rfl) (Y.AtFrom.cons (hC.at 5 rfl) (Y.AtFrom.cons (hC.at 6 rfl) (Y.AtFrom.cons (hC.at 7 rfl) (Y.AtFrom.nil _ _ _)))))))) ?_;clear F ac;intro ac F
  refine Y.pcall F (X.w0 rfl) rfl (X.enter (F := 68) rfl (F.e 11 rfl) (X.a1 (F.e 15 rfl)) (enters_of Try.func68 (by kernel_rfl) rfl _)) (beg1_any bc bt na n nc gr hold t nd (l[i]?.getD []) w3 ((RCells.cons (hC.at 0 rfl) (RCells.cons (hC.at 1 rfl) (RCells.cons (hC.at 2 rfl) (RCells.cons (hC.at 3 rfl) (RCells.nil _)))))) hnd hc ht) ?_
  clear F ac
  rintro e w6 ⟨rfl, g⟩
  refine ⟨_, rfl, ?_⟩
  intro ac F
  replace G := G.trans g
  replace hC := hC.gr g
  replace GB_ := GB_.trans g
  replace hnd := hnd.gr g
  replace hl := hl.gr g
  clear g
  refine Y.nil ?_
  replace F : Fr ac 19 [(0, .slice (some pd5) m lc), (1, .func (.func 68) #[] #[Vp bc, Vp bt]), (5, Vi i), (7, Vi m), (8, Vi i), (16, .bool (!(rightB gr nd t (l[i]?.getD []))))] := F.sub _
  refine X.thenN ?_
  cases h7 : rightB gr nd t (l[i]?.getD []) with
  | false =>
   try rw [h7] at F
   refine Y.condT (F.e 16 rfl) ?_
   refine Y.seq ?_
   refine Y.lit (by kernel_rfl) ?_
   refine Y.pv F (X.move rfl (F.e 5 rfl)) ?_;clear F ac;intro ac F
   refine Y.pv F (X.assign rfl (F.e 17 rfl)) ?_;clear F ac;intro ac F
   refine Y.nil ?_
   replace F : Fr ac 19 [(4, Vi i)] := F.sub _
   refine X.thenN ?_
   refine Y.ret ?_
   refine X.blockR ?_
   refine X.thenR ?_
   refine X.thenR ?_
   refine X.blockR ?_
   refine X.thenR ?_
   exact Y.ret0 (v := Vi i) F (Y.rs1 F rfl (by kernel_rfl)) ⟨_, rfl, by rw [allN_bad (i := i) (by omega) (by simpa using h7)]; simp, G⟩
  | true =>
   try rw [h7] at F
   refine Y.condF (F.e 16 rfl) ?_
   refine Y.skip ?_
   refine X.blockN ?_
   refine X.thenN ?_
   refine Y.lit (by kernel_rfl) ?_
   refine Y.pv F (X.binop rfl (F.e 8 rfl) (X.kc (Vi 1) rfl) (X.addI Try.underlying3 rfl (by omega) (by omega))) ?_;clear F ac;intro ac F
   refine Y.pv F (X.move rfl (F.e 18 rfl)) ?_;clear F ac;intro ac F
   refine Y.nil ?_
   replace F : Fr ac 19 [(0, .slice (some pd5) m lc), (1, .func (.func 68) #[] #[Vp bc, Vp bt]), (7, Vi m), (8, Vi ((i : Int) + 1))] := F.sub _
   refine X.thenN ?_
   refine ⟨_, ?_, i + 1, rfl, GB_, by omega, by simp only [allN, hall, Bool.true_and]; simpa using h7, F.sub _⟩
   omega
set_option maxRecDepth 100000 in
set_option maxHeartbeats 400000 in
theorem contF_any (bc bt : Nat) (na la : Option Addr) (n nc m lc : Nat) (gr hold t : Int) (nd l : List (List Int)) (w : World) (hcb : RCells w [(⟨bc, 0, none⟩, .int .i64 gr), (⟨bc, 1, none⟩, .int .i64 hold), (⟨bc, 2, none⟩, .slice na n nc), (⟨bt, 0, none⟩, .int .i64 t)]) (hnd : StAt w 5 na n nd) (hc : CluOk gr hold nd) (ht : 0 ≤ t ∧ t ≤ 1000) (hl : StAt w 4 la m l) :
  Calls Try.prog 67 #[.slice la m lc, .func (.func 68) #[] #[Vp bc, Vp bt]] w fun e w' => e = .returned (.bool (!(allN (fun i => rightB gr nd t (l[i]?.getD [])) m))) ∧ Gr w w' := by
 have G := Gr.refl w
 have hC := hcb
 have hlen := hnd.len
 have hlm := hl.lt
 have hll := hl.len
 refine Y.calls 9 Try.func67 rfl rfl ?_
 intro ac F0
 have F : Fr ac 9 [(0, .slice la m lc), (1, .func (.func 68) #[] #[Vp bc, Vp bt])] := F0.sub _
 clear F0
 refine Y.seq ?_
 refine Y.lit (by kernel_rfl) ?_
 refine Y.pv F (X.assign rfl (X.kc (.bool false) rfl)) ?_;clear F ac;intro ac F
 refine Y.nil ?_
 replace F : Fr ac 9 [(0, .slice la m lc), (1, .func (.func 68) #[] #[Vp bc, Vp bt])] := F.sub _
 refine X.thenN ?_
 refine Y.seq ?_
 refine Y.lit (by kernel_rfl) ?_
 refine Y.pv F (X.move rfl (F.e 0 rfl)) ?_;clear F ac;intro ac F
 refine Y.pv F (X.move rfl (F.e 1 rfl)) ?_;clear F ac;intro ac F
 refine Y.pcall F (X.w0 rfl) rfl (X.enter (F := 83) rfl (X.kc (.func (.func 83) #[] #[]) rfl) (X.a2 (F.e 5 rfl) (F.e 6 rfl)) (enters_of Try.func83 (by kernel_rfl) rfl _)) (indexF_any bc bt na la n nc m lc gr hold t nd l w ((RCells.cons (hC.at 0 rfl) (RCells.cons (hC.at 1 rfl) (RCells.cons (hC.at 2 rfl) (RCells.cons (hC.at 3 rfl) (RCells.nil _)))))) hnd hc ht hl) ?_
 clear F ac
 rintro e w3 ⟨z, rfl, hz, g⟩
 refine ⟨_, rfl, ?_⟩
 intro ac F
 replace G := G.trans g
 replace hC := hC.gr g
 replace hnd := hnd.gr g
 replace hl := hl.gr g
 clear g
 refine Y.pv F (X.binop rfl (F.e 7 rfl) (X.kc (Vi 0) rfl) (X.geqI Try.underlying3 rfl)) ?_;clear F ac;intro ac F
 refine Y.pv F (X.assign rfl (F.e 8 rfl)) ?_;clear F ac;intro ac F
 refine Y.nil ?_
 replace F : Fr ac 9 [(4, .bool (decide ((0 : Int) ≤ z)))] := F.sub _
 refine X.thenN ?_
 refine Y.ret ?_
 exact Y.ret0 (v := .bool (decide ((0 : Int) ≤ z))) F (Y.rs1 F rfl (by kernel_rfl)) ⟨by rw [← hz], G⟩
end
section
open Go.RowKit

theorem playE_bad1 {gr hold t : Int} {nd l : List (List Int)} {m : Nat} (hl : l.length = m) (hE : ticksE gr hold nd t = 0) (h : 200 < m) : playE gr hold nd t l = 91 := by
  unfold playE nudgeB
  rw [if_neg (by rw [hE]; simp), hl]
  simp [show ¬ m ≤ 200 by omega]
theorem playE_bad2 {gr hold t : Int} {nd l : List (List Int)} {m : Nat} (hl : l.length = m) (hE : ticksE gr hold nd t = 0) (h : allN (fun i => rightB gr nd t (l[i]?.getD [])) m = false) : playE gr hold nd t l = 91 := by
  unfold playE nudgeB
  rw [if_neg (by rw [hE]; simp), hl, h]
  simp
theorem playE_good {gr hold t : Int} {nd l : List (List Int)} {m n : Nat} (hn : nd.length = n) (hl : l.length = m) (hE : ticksE gr hold nd t = 0) (hm : m ≤ 200) (h : allN (fun i => rightB gr nd t (l[i]?.getD [])) m = true) : playE gr hold nd t l = 0 := by
  unfold playE nudgeB
  rw [if_neg (by rw [hE]; simp), hl, h]
  simp [hm]
theorem s9p {W : World} {bp : Nat} {gr hold : Int} {na la pa : Option Addr} {n nc m lc cap : Nat} (h : OwnP W bp 5 (PVal gr hold na n nc la m lc (.slice pa n cap))) : RCells W (PlC bp 0 gr hold na la pa n nc m lc cap) := by
  intro p hp
  simp only [PlC, List.mem_cons, List.not_mem_nil, or_false] at hp
  rcases hp with rfl | rfl | rfl | rfl | rfl
  · exact h.cell (k := 0) (by decide)
  · exact h.cell (k := 1) (by decide)
  · exact h.cell (k := 2) (by decide)
  · exact h.cell (k := 3) (by decide)
  · exact h.cell (k := 4) (by decide)

set_option maxRecDepth 100000 in
set_option maxHeartbeats 1000000 in
theorem begin_any (na la : Option Addr) (n nc m lc : Nat) (gr hold t : Int) (nd l : List (List Int)) (w : World) (hnd : StAt w 5 na n nd) (hl : StAt w 4 la m l) :
  Calls Try.prog 44 #[.agg #[Vi gr, Vi hold, .slice na n nc], Vi t, .slice la m lc] w fun e w' => (playE gr hold nd t l ≠ 0 → e = .returned (.tuple #[.pointer none, Vi (playE gr hold nd t l)])) ∧ Gr w w' ∧ (playE gr hold nd t l = 0 → ∃ bp, e = .returned (.tuple #[Vp bp, Vi 0]) ∧ Begun w w' gr hold na la n nc m lc l nd bp) := by
 have G := Gr.refl w
 have hnd0 := hnd
 have hl0 := hl
 have hlm := hl.lt
 have hln := hnd.lt
 refine Y.calls 52 Try.func44 rfl rfl ?_
 intro ac F0
 have F : Fr ac 52 [(0, .agg #[Vi gr, Vi hold, .slice na n nc]), (1, Vi t), (2, .slice la m lc)] := F0.sub _
 clear F0
 refine Y.seq ?_
 refine Y.lit (by kernel_rfl) ?_
 refine Y.pv F (X.box rfl (F.e 0 rfl) X.bx) ?_;clear F ac;intro ac F
 have g := Gr.alloc w (.cells #[Vi gr, Vi hold, .slice na n nc] 24)
 have hb := heap_alloc_new w (.cells #[Vi gr, Vi hold, .slice na n nc] 24)
 have hbl : w.heap.size < (w.alloc (.cells #[Vi gr, Vi hold, .slice na n nc] 24)).heap.size := by simp
 have hC2 : RCells (w.alloc (.cells #[Vi gr, Vi hold, .slice na n nc] 24)) [(Ad w.heap.size 0, Vi gr), (Ad w.heap.size 1, Vi hold), (Ad w.heap.size 2, .slice na n nc)] := (RCells.nil w).box (b := w.heap.size) #[Vi gr, Vi hold, .slice na n nc] 24 rfl
 generalize w.alloc (.cells #[Vi gr, Vi hold, .slice na n nc] 24) = w3 at *
 replace G := G.trans g
 have hC := hC2
 clear hC2
 replace hnd := hnd.gr g
 replace hl := hl.gr g
 clear g hb hbl
 refine Y.pv F (X.box rfl (F.e 1 rfl) (Y.bx1 rfl)) ?_;clear F ac;intro ac F
 have hq0 : w.heap.size < w3.heap.size := lt_cell (hC.at 0 rfl)
 have g := Gr.alloc w3 (.cells #[Vi t] 3)
 have hb := heap_alloc_new w3 (.cells #[Vi t] 3)
 have hbl : w3.heap.size < (w3.alloc (.cells #[Vi t] 3)).heap.size := by simp
 have hC2 : RCells (w3.alloc (.cells #[Vi t] 3)) [(Ad w.heap.size 0, Vi gr), (Ad w.heap.size 1, Vi hold), (Ad w.heap.size 2, .slice na n nc), (Ad w3.heap.size 0, Vi t)] := hC.box (b := w3.heap.size) #[Vi t] 3 rfl
 generalize w3.alloc (.cells #[Vi t] 3) = w4 at *
 replace G := G.trans g
 replace hC := hC2
 clear hC2
 replace hnd := hnd.gr g
 replace hl := hl.gr g
 have hT := ownP_zero (val := NV (startS nd)) hb
 clear g hb hbl
 refine Y.pv F (X.assign rfl (X.kc (.pointer none) rfl)) ?_;clear F ac;intro ac F
 refine Y.pv F (X.assign rfl (X.kc (Vi 0) rfl)) ?_;clear F ac;intro ac F
 refine Y.nil ?_
 replace F : Fr ac 52 [(2, .slice la m lc), (3, Vp w.heap.size), (4, Vp w3.heap.size)] := F.sub _
 refine X.thenN ?_
 refine Y.seq ?_
 refine Y.seq ?_
 refine Y.lit (by kernel_rfl) ?_
 refine Y.pv F (X.load rfl (F.e 3 rfl) (X.ldN (Try.agg24 _) (Try.siz24 _) (Y.atz (⟨w.heap.size, 0, none⟩) (Y.AtFrom.cons (hC.at 0 rfl) (Y.AtFrom.cons (hC.at 1 rfl) (Y.AtFrom.cons (hC.at 2 rfl) (Y.AtFrom.nil _ _ _))))))) ?_;clear F ac;intro ac F
 refine Y.pv F (X.load rfl (F.e 4 rfl) (X.ld1 (Try.agg3 _) (hC.at 3 rfl))) ?_;clear F ac;intro ac F
 refine Y.pcall F (X.w0 rfl) rfl (X.enter (F := 50) rfl (X.kc (.func (.func 50) #[] #[]) rfl) (X.a2 (F.e 12 rfl) (F.e 13 rfl)) (enters_of Try.func50 (by kernel_rfl) rfl _)) (ticks_any na n nc gr hold t nd w4 hnd) ?_
 clear F ac
 rintro e w5 ⟨rfl, g⟩
 refine ⟨_, rfl, ?_⟩
 intro ac F
 replace G := G.trans g
 replace hC := hC.gr g
 replace hnd := hnd.gr g
 replace hl := hl.gr g
 replace hT := hT.gr g
 clear g
 refine Y.pv F (X.assign rfl (F.e 14 rfl)) ?_;clear F ac;intro ac F
 refine Y.nil ?_
 replace F : Fr ac 52 [(2, .slice la m lc), (3, Vp w.heap.size), (4, Vp w3.heap.size), (8, Vi (ticksE gr hold nd t))] := F.sub _
 refine X.thenN ?_
 refine Y.seq ?_
 refine Y.lit (by kernel_rfl) ?_
 refine Y.pv F (X.move rfl (F.e 8 rfl)) ?_;clear F ac;intro ac F
 refine Y.pv F (X.binop rfl (F.e 15 rfl) (X.kc (Vi 0) rfl) (X.neqI Try.underlying26 rfl)) ?_;clear F ac;intro ac F
 refine Y.nil ?_
 replace F : Fr ac 52 [(2, .slice la m lc), (3, Vp w.heap.size), (4, Vp w3.heap.size), (8, Vi (ticksE gr hold nd t)), (16, .bool ((ticksE gr hold nd t : Int) != 0))] := F.sub _
 refine X.thenN ?_
 cases h6 : ((ticksE gr hold nd t : Int) != 0) with
 | false =>
  try rw [h6] at F
  have h6p : (ticksE gr hold nd t : Int) = 0 := by simpa using h6
  have hE : ticksE gr hold nd t = 0 := by simpa using h6p
  have hok := (ticksE_ok hE).1
  have ht := (ticksE_ok hE).2
  have h16 : n ≤ 16 := by have := hok.n16; rw [hnd.len] at this; exact this
  refine Y.condF (F.e 16 rfl) ?_
  refine Y.skip ?_
  refine X.thenN ?_
  refine Y.seq ?_
  refine Y.seq ?_
  refine Y.lit (by kernel_rfl) ?_
  refine Y.pv F (X.move rfl (F.e 2 rfl)) ?_;clear F ac;intro ac F
  refine Y.pv F (X.len1 Try.underlying25 rfl (F.e 18 rfl)) ?_;clear F ac;intro ac F
  refine Y.pv F (X.binop rfl (F.e 19 rfl) (X.kc (Vi 200) rfl) (X.gtrI Try.underlying3 rfl)) ?_;clear F ac;intro ac F
  refine Y.pv F (X.move rfl (F.e 20 rfl)) ?_;clear F ac;intro ac F
  cases h7 : decide ((200 : Int) < m) with
  | false =>
   try rw [h7] at F
   have h7p : ¬ ((200 : Int) < m) := of_decide_eq_false h7
   refine Y.pval F (X.w1 rfl (F.yl (j := 3) (d := 21) (b := false) rfl (by kernel_rfl))) rfl (X.move rfl (F.e 2 rfl)) ?_;clear F ac;intro ac F
   refine Y.pval F (X.w1 rfl (F.yl (j := 3) (d := 21) (b := false) rfl (by kernel_rfl))) rfl (Y.fnc rfl (Y.m2 (F.e 3 rfl) (F.e 4 rfl))) ?_;clear F ac;intro ac F
   refine Y.pcall F (X.w1 rfl (F.yl (j := 3) (d := 21) (b := false) rfl (by kernel_rfl))) rfl (X.enter (F := 67) rfl (X.kc (.func (.func 67) #[] #[]) rfl) (X.a2 (F.e 22 rfl) (F.e 23 rfl)) (enters_of Try.func67 (by kernel_rfl) rfl _)) (contF_any (w.heap.size) (w3.heap.size) na la n nc m lc gr hold t nd l w5 ((RCells.cons (hC.at 0 rfl) (RCells.cons (hC.at 1 rfl) (RCells.cons (hC.at 2 rfl) (RCells.cons (hC.at 3 rfl) (RCells.nil _)))))) hnd hok ⟨ht.1, ht.2⟩ hl) ?_
   clear F ac
   rintro e w8 ⟨rfl, g⟩
   refine ⟨_, rfl, ?_⟩
   intro ac F
   replace G := G.trans g
   replace hC := hC.gr g
   replace hnd := hnd.gr g
   replace hl := hl.gr g
   replace hT := hT.gr g
   clear g
   refine Y.pv F (X.pickF rfl (F.e 21 rfl) (F.e 24 rfl)) ?_;clear F ac;intro ac F
   refine Y.nil ?_
   replace F : Fr ac 52 [(2, .slice la m lc), (3, Vp w.heap.size), (25, .bool (!(allN (fun i => rightB gr nd t (l[i]?.getD [])) m)))] := F.sub _
   refine X.thenN ?_
   cases h9 : allN (fun i => rightB gr nd t (l[i]?.getD [])) m with
   | false =>
    try rw [h9] at F
    refine Y.condT (F.e 25 rfl) ?_
    refine Y.seq ?_
    refine Y.lit (by kernel_rfl) ?_
    refine Y.pv F (X.assign rfl (X.kc (.pointer none) rfl)) ?_;clear F ac;intro ac F
    refine Y.pv F (X.assign rfl (X.kc (Vi 91) rfl)) ?_;clear F ac;intro ac F
    refine Y.nil ?_
    replace F : Fr ac 52 [(6, .pointer none), (7, Vi 91)] := F.sub _
    refine X.thenN ?_
    refine Y.ret ?_
    refine X.thenR ?_
    exact Y.ret0 (v := .tuple #[.pointer none, Vi 91]) F (Y.rs2 F rfl (by kernel_rfl) (by kernel_rfl)) ⟨fun _ => by rw [(playE_bad2 hl.len hE (by simpa using h9))], G, fun h => by rw [(playE_bad2 hl.len hE (by simpa using h9))] at h; cases h⟩
   | true =>
    try rw [h9] at F
    refine Y.condF (F.e 25 rfl) ?_
    refine Y.skip ?_
    refine X.thenN ?_
    refine Y.seq ?_
    refine Y.lit (by kernel_rfl) ?_
    refine Y.pv F (X.load rfl (F.e 3 rfl) (X.ldN (Try.agg24 _) (Try.siz24 _) (Y.atz (⟨w.heap.size, 0, none⟩) (Y.AtFrom.cons (hC.at 0 rfl) (Y.AtFrom.cons (hC.at 1 rfl) (Y.AtFrom.cons (hC.at 2 rfl) (Y.AtFrom.nil _ _ _))))))) ?_;clear F ac;intro ac F
    refine Y.pv F (X.move rfl (F.e 2 rfl)) ?_;clear F ac;intro ac F
    refine Y.pv F (Y.bd rfl (X.b2 (F.e 26 rfl) (F.e 27 rfl)) (Try.bd101 _ _ _ _ _ _ _ _ _)) ?_;clear F ac;intro ac F
    refine Y.pv F (X.box rfl (F.e 28 rfl) X.bx) ?_;clear F ac;intro ac F
    have hq1 : w3.heap.size < w8.heap.size := hT.lt
    have g := Gr.alloc w8 (.cells #[Vi gr, Vi hold, .slice na n nc, .slice la m lc, .slice none 0 0] 101)
    have hb := heap_alloc_new w8 (.cells #[Vi gr, Vi hold, .slice na n nc, .slice la m lc, .slice none 0 0] 101)
    have hbl : w8.heap.size < (w8.alloc (.cells #[Vi gr, Vi hold, .slice na n nc, .slice la m lc, .slice none 0 0] 101)).heap.size := by simp
    generalize w8.alloc (.cells #[Vi gr, Vi hold, .slice na n nc, .slice la m lc, .slice none 0 0] 101) = w10 at *
    replace G := G.trans g
    replace hC := hC.gr g
    replace hnd := hnd.gr g
    replace hl := hl.gr g
    replace hT := hT.gr g
    have hB := pval_new hb
    clear g hb hbl
    refine Y.pv F (X.assign rfl (F.e 29 rfl)) ?_;clear F ac;intro ac F
    refine Y.nil ?_
    replace F : Fr ac 52 [(3, Vp w.heap.size), (9, Vp w8.heap.size)] := F.sub _
    refine X.thenN ?_
    refine Y.seq ?_
    refine Y.seq ?_
    refine Y.lit (by kernel_rfl) ?_
    refine Y.pv F (X.field rfl (F.e 3 rfl) (X.fld Try.underlying24 rfl (Try.siz22 _) rfl rfl)) ?_;clear F ac;intro ac F
    refine Y.pv F (X.load rfl (F.e 30 rfl) (X.ld1 (Try.agg22 _) (hC.at 2 rfl))) ?_;clear F ac;intro ac F
    refine Y.pv F (X.len1 Try.underlying22 rfl (F.e 31 rfl)) ?_;clear F ac;intro ac F
    refine Y.pv F (X.move rfl (X.kc (Vi 0) rfl)) ?_;clear F ac;intro ac F
    refine Y.nil ?_
    replace F : Fr ac 52 [(9, Vp w8.heap.size), (31, .slice na n nc), (32, Vi n), (33, Vi 0)] := F.sub _
    refine X.thenN ?_
    refine Y.block ?_
    have hbp1 : w8.heap.size < w10.heap.size := hB.lt
    refine Y.loop (fun me_ ac wr => ∃ (i : Nat) (v : Value), me_ = n - i ∧ i ≤ n ∧ Only (fun b => b = w8.heap.size) w10 wr ∧ OwnP wr w8.heap.size 5 (PVal gr hold na n nc la m lc v) ∧ OwnR wr w10.heap.size 104 17 v i (flatN nd i) ∧ Fr ac 52 [(9, Vp w8.heap.size), (31, .slice na n nc), (32, Vi n), (33, Vi i)]) _ ⟨0, _, rfl, Nat.zero_le _, Only.refl _ _, hB, OwnR.nil _ _ _ _, F.sub _⟩ ?_
    have hCs := hC
    have Gs := G
    have hTs := hT
    clear F hC G hB hT hnd hl ac
    intro me_ ac w11 hI_
    obtain ⟨i, v, rfl, hi, hI, hB, hO, F⟩ := hI_
    have G := Y.Only.up Gs hI (by omega)
    have hnd := hnd0.gr G
    have hl := hl0.gr G
    have hT := hTs.only hI (by show ¬ _ = _; omega)
    have hC := (hCs.kc hI 0 rfl (hCs.kc hI 1 rfl (hCs.kc hI 2 rfl (hCs.kc hI 3 rfl (RCells.nil _)))))
    refine Y.seq ?_
    refine Y.lit (by kernel_rfl) ?_
    refine Y.pv F (X.binop rfl (F.e 33 rfl) (F.e 32 rfl) (X.lssI Try.underlying3 rfl)) ?_;clear F ac;intro ac F
    refine Y.nil ?_
    replace F : Fr ac 52 [(9, Vp w8.heap.size), (31, .slice na n nc), (32, Vi n), (33, Vi i), (34, .bool (decide ((i : Int) < n)))] := F.sub _
    refine X.thenN ?_
    refine Y.seq ?_
    cases h12 : decide ((i : Int) < n) with
    | false =>
     try rw [h12] at F
     have h12p : ¬ ((i : Int) < n) := of_decide_eq_false h12
     obtain rfl : n = i := by omega
     refine Y.condF (F.e 34 rfl) ?_
     refine Y.exit ?_
     refine X.thenX ?_
     refine X.thenX ?_
     refine X.blockX ?_
     refine X.thenN ?_
     refine Y.seq ?_
     refine Y.lit (by kernel_rfl) ?_
     refine Y.pv F (X.move rfl (F.e 9 rfl)) ?_;clear F ac;intro ac F
     refine Y.pv F (X.assign rfl (F.e 51 rfl)) ?_;clear F ac;intro ac F
     refine Y.pv F (X.assign rfl (X.kc (Vi 0) rfl)) ?_;clear F ac;intro ac F
     refine Y.nil ?_
     replace F : Fr ac 52 [(6, Vp w8.heap.size), (7, Vi 0)] := F.sub _
     refine X.thenN ?_
     refine Y.ret ?_
     refine Y.ret0 (v := .tuple #[Vp w8.heap.size, Vi 0]) F (Y.rs2 F rfl (by kernel_rfl) (by kernel_rfl)) ⟨fun h => absurd (playE_good hnd.len hl.len hE (by omega) (by simpa using h9)) h, G, fun _ => ⟨_, rfl, ?_⟩⟩
     rcases hO.shape with ⟨rfl, h0⟩ | ⟨g2, c2, rfl, hg2, hg3⟩
     ·subst h0
      exact ⟨w3.heap.size, none, 0, ⟨G, s9p hB, hl0, by omega, by omega, by omega, fun h => by omega⟩, hT⟩
     ·exact ⟨g2, _, c2, ⟨G, s9p hB, hl0, by omega, by omega, by omega, fun _ => rfl⟩, hO.ownP (fun j u h => flatN_at h)⟩
    | true =>
     try rw [h12] at F
     have h12p : ((i : Int) < n) := of_decide_eq_true h12
     refine Y.condT (F.e 34 rfl) ?_
     refine Y.skip ?_
     refine X.thenN ?_
     refine Y.seq ?_
     refine Y.block ?_
     refine Y.seq ?_
     refine Y.lit (by kernel_rfl) ?_
     obtain ⟨pd13, pe13, -, -, pc13⟩ := hnd.at (j := i) (by omega)
     subst pe13
     replace hC : RCells w11 [(Ad w.heap.size 0, Vi gr), (Ad w.heap.size 1, Vi hold), (Ad w.heap.size 2, .slice (some pd13) n nc), (Ad w3.heap.size 0, Vi t), (pd13.add (i * 5), Vi (cv nd i 0)), (⟨(pd13.add (i * 5)).block, (pd13.add (i * 5)).off + 1, none⟩, Vi (cv nd i 1)), (⟨(pd13.add (i * 5)).block, (pd13.add (i * 5)).off + 2, none⟩, Vi (cv nd i 2)), (⟨(pd13.add (i * 5)).block, (pd13.add (i * 5)).off + 3, none⟩, Vi (cv nd i 3)), (⟨(pd13.add (i * 5)).block, (pd13.add (i * 5)).off + 4, none⟩, Vi (cv nd i 4))] := hC.append ((RCells.cons (pc13 0 (by decide)) (RCells.cons (pc13 1 (by decide)) (RCells.cons (pc13 2 (by decide)) (RCells.cons (pc13 3 (by decide)) (RCells.cons (pc13 4 (by decide)) (RCells.nil _)))))))
     clear pc13
     refine Y.pv F (X.index rfl (F.e 31 rfl) (F.e 33 rfl) (X.idx (k := i) Try.underlying22 (Try.siz31 _) (by omega) (by omega) rfl)) ?_;clear F ac;intro ac F
     refine Y.pv F (X.load rfl (F.e 35 rfl) (X.ldN (Try.agg31 _) (Try.siz31 _) (Y.atz (pd13.add (i * 5)) (Y.AtFrom.cons (hC.at 4 rfl) (Y.AtFrom.cons (hC.at 5 rfl) (Y.AtFrom.cons (hC.at 6 rfl) (Y.AtFrom.cons (hC.at 7 rfl) (Y.AtFrom.cons (hC.at 8 rfl) (Y.AtFrom.nil _ _ _))))))))) ?_;clear F ac;intro ac F
     refine Y.pv F (Y.al rfl (Try.new31 _)) ?_;clear F ac;intro ac F
     refine Y.punit F (X.w0 rfl) rfl (X.store rfl (F.e 11 rfl) (F.e 36 rfl) (Y.stNew [Vi (cv nd i 0), Vi (cv nd i 1), Vi (cv nd i 2), Vi (cv nd i 3), Vi (cv nd i 4)] [Vi 0, Vi 0, Vi 0, Vi 0, Vi 0] (Try.siz31 _) rfl rfl)) ?_;clear F ac;intro ac F
     have g := Gr.alloc w11 (.cells #[Vi (cv nd i 0), Vi (cv nd i 1), Vi (cv nd i 2), Vi (cv nd i 3), Vi (cv nd i 4)] 31)
     have hb := heap_alloc_new w11 (.cells #[Vi (cv nd i 0), Vi (cv nd i 1), Vi (cv nd i 2), Vi (cv nd i 3), Vi (cv nd i 4)] 31)
     have hbl : w11.heap.size < (w11.alloc (.cells #[Vi (cv nd i 0), Vi (cv nd i 1), Vi (cv nd i 2), Vi (cv nd i 3), Vi (cv nd i 4)] 31)).heap.size := by simp
     have hC2 : RCells (w11.alloc (.cells #[Vi (cv nd i 0), Vi (cv nd i 1), Vi (cv nd i 2), Vi (cv nd i 3), Vi (cv nd i 4)] 31)) [(Ad w.heap.size 0, Vi gr), (Ad w.heap.size 1, Vi hold), (Ad w.heap.size 2, .slice (some pd13) n nc), (Ad w3.heap.size 0, Vi t), (pd13.add (i * 5), Vi (cv nd i 0)), (⟨(pd13.add (i * 5)).block, (pd13.add (i * 5)).off + 1, none⟩, Vi (cv nd i 1)), (⟨(pd13.add (i * 5)).block, (pd13.add (i * 5)).off + 2, none⟩, Vi (cv nd i 2)), (⟨(pd13.add (i * 5)).block, (pd13.add (i * 5)).off + 3, none⟩, Vi (cv nd i 3)), (⟨(pd13.add (i * 5)).block, (pd13.add (i * 5)).off + 4, none⟩, Vi (cv nd i 4)), (Ad w11.heap.size 0, Vi (cv nd i 0)), (Ad w11.heap.size 1, Vi (cv nd i 1)), (Ad w11.heap.size 2, Vi (cv nd i 2)), (Ad w11.heap.size 3, Vi (cv nd i 3)), (Ad w11.heap.size 4, Vi (cv nd i 4))] := hC.box (b := w11.heap.size) #[Vi (cv nd i 0), Vi (cv nd i 1), Vi (cv nd i 2), Vi (cv nd i 3), Vi (cv nd i 4)] 31 rfl
     generalize w11.alloc (.cells #[Vi (cv nd i 0), Vi (cv nd i 1), Vi (cv nd i 2), Vi (cv nd i 3), Vi (cv nd i 4)] 31) = w14 at *
     replace G := G.trans g
     replace hC := hC2
     clear hC2
     replace hI := hI.thenGr g
     replace hnd := hnd.gr g
     replace hl := hl.gr g
     replace hB := hB.gr g
     replace hT := hT.gr g
     replace hO := hO.gr g
     clear g hb hbl
     refine Y.nil ?_
     replace F : Fr ac 52 [(9, Vp w8.heap.size), (11, Vp w11.heap.size), (31, .slice (some pd13) n nc), (32, Vi n), (33, Vi i)] := F.sub _
     refine X.thenN ?_
     replace hC : RCells w14 [(Ad w.heap.size 0, Vi gr), (Ad w.heap.size 1, Vi hold), (Ad w.heap.size 2, .slice (some pd13) n nc), (Ad w3.heap.size 0, Vi t), (pd13.add (i * 5), Vi (cv nd i 0)), (⟨(pd13.add (i * 5)).block, (pd13.add (i * 5)).off + 1, none⟩, Vi (cv nd i 1)), (⟨(pd13.add (i * 5)).block, (pd13.add (i * 5)).off + 2, none⟩, Vi (cv nd i 2)), (⟨(pd13.add (i * 5)).block, (pd13.add (i * 5)).off + 3, none⟩, Vi (cv nd i 3)), (⟨(pd13.add (i * 5)).block, (pd13.add (i * 5)).off + 4, none⟩, Vi (cv nd i 4)), (Ad w11.heap.size 0, Vi (cv nd i 0)), (Ad w11.heap.size 1, Vi (cv nd i 1)), (Ad w11.heap.size 2, Vi (cv nd i 2)), (Ad w11.heap.size 3, Vi (cv nd i 3)), (Ad w11.heap.size 4, Vi (cv nd i 4)), (Ad w8.heap.size 4, v)] := hC.append ((RCells.cons (hB.cell (k := 4) (by decide)) (RCells.nil _)))
     have hsz0 : w10.heap.size ≤ w14.heap.size := hI.size
     refine region_xi F [some (Vp w8.heap.size), some (Vp w8.heap.size), some (Vp w8.heap.size), some (.pointer (some ⟨w8.heap.size, 4, none⟩)), some (v), some (.agg #[Vi (cv nd i 0), Vi (cv nd i 1), Vi (cv nd i 2), Vi (cv nd i 3), Vi (cv nd i 4)]), some (.pointer (some ⟨w11.heap.size, 3, none⟩)), some (Vi (cv nd i 3)), some (.agg #[Vi (cv nd i 0), Vi (cv nd i 1), Vi (cv nd i 2), Vi (cv nd i 3), Vi (cv nd i 4), Vi 0, Vi 0, Vi 0, Vi 0, Vi 0, Vi 0, Vi 0, Vi 0, Vi 0, Vi 0, Vi (cv nd i 3), .bool false]), none, none, some (Vp w8.heap.size), some (.pointer (some ⟨w8.heap.size, 4, none⟩)), none] (RAp w14 9 10 13 (fun v W => ∃ g9, v = .slice (some ⟨g9, 0, none⟩) 1 1 ∧ W.heap[g9]? = some (.cells (row17 nd i).toArray 104)) (fun x W => ∃ g2 c2, x = .slice (some ⟨g2, 0, none⟩) (i + 1) c2 ∧ OwnR W w10.heap.size 104 17 (.slice (some ⟨g2, 0, none⟩) (i + 1) c2) (i + 1) (flatN nd i ++ row17 nd i) ∧ Only (fun b => v.ownBlock = some b) w14 W) (fun W => ∃ g2 c2, OwnR W w10.heap.size 104 17 (.slice (some ⟨g2, 0, none⟩) (i + 1) c2) (i + 1) (flatN nd i ++ row17 nd i) ∧ OwnP W w8.heap.size 5 (PVal gr hold (some pd13) n nc la m lc (.slice (some ⟨g2, 0, none⟩) (i + 1) c2)) ∧ Only (fun b => b = w8.heap.size) w10 W)) rfl ⟨by kernel_rfl, of_decide_eq_true (by kernel_rfl), by kernel_rfl, by kernel_rfl, by kernel_rfl⟩ (fun _ => ⟨RAp.start (Gr.refl _), RAp.start (Gr.drew _)⟩) ⟨?_, ?_, ?_, ?_, ?_, ?_, ?_, ?_, ?_, ?_, ?_, ?_, ?_, ?_, trivial⟩ ?_
     ·intro ac done u W Sx hR
      exact X.vl (X.move rfl (Sx.ev 9 (Vp w8.heap.size))) (hR.quiet (by decide))
     ·intro ac done u W Sx hR
      exact X.vl (X.move rfl (Sx.ev 9 (Vp w8.heap.size))) (hR.quiet (by decide))
     ·intro ac done u W Sx hR
      exact X.vl (Y.nilC rfl (Sx.ev 38 (Vp w8.heap.size))) (hR.quiet (by decide))
     ·intro ac done u W Sx hR
      exact X.vl (X.field rfl (Sx.ev 39 (Vp w8.heap.size)) (X.fld Try.underlying101 rfl (Try.siz99 _) rfl rfl)) (hR.quiet (by decide))
     ·intro ac done u W Sx hR
      have g : Gr w14 W := hR.g (Sx.no 10 (by kernel_rfl)) (Sx.no 13 (by kernel_rfl))
      exact X.vl (X.load rfl (Sx.ev 40 (.pointer (some ⟨w8.heap.size, 4, none⟩))) (X.ld1 (Try.agg99 _) ((hC.gr g).at 14 rfl))) (hR.quiet (by decide))
     ·intro ac done u W Sx hR
      have g : Gr w14 W := hR.g (Sx.no 10 (by kernel_rfl)) (Sx.no 13 (by kernel_rfl))
      exact X.vl (X.load rfl (Sx.ev 11 (Vp w11.heap.size)) (X.ldN (Try.agg31 _) (Try.siz31 _) (Y.atz (⟨w11.heap.size, 0, none⟩) (Y.AtFrom.cons ((hC.gr g).at 9 rfl) (Y.AtFrom.cons ((hC.gr g).at 10 rfl) (Y.AtFrom.cons ((hC.gr g).at 11 rfl) (Y.AtFrom.cons ((hC.gr g).at 12 rfl) (Y.AtFrom.cons ((hC.gr g).at 13 rfl) (Y.AtFrom.nil _ _ _))))))))) (hR.quiet (by decide))
     ·intro ac done u W Sx hR
      exact X.vl (X.field rfl (Sx.ev 11 (Vp w11.heap.size)) (X.fld Try.underlying31 rfl (Try.siz3 _) rfl rfl)) (hR.quiet (by decide))
     ·intro ac done u W Sx hR
      have g : Gr w14 W := hR.g (Sx.no 10 (by kernel_rfl)) (Sx.no 13 (by kernel_rfl))
      exact X.vl (X.load rfl (Sx.ev 43 (.pointer (some ⟨w11.heap.size, 3, none⟩))) (X.ld1 (Try.agg3 _) ((hC.gr g).at 12 rfl))) (hR.quiet (by decide))
     ·intro ac done u W Sx hR
      exact X.vl (Y.bd rfl (Y.b03 (Sx.ev 42 (.agg #[Vi (cv nd i 0), Vi (cv nd i 1), Vi (cv nd i 2), Vi (cv nd i 3), Vi (cv nd i 4)])) (Sx.ev 44 (Vi (cv nd i 3)))) (Try.bd104 _ _ _ _ _ _ _)) (hR.quiet (by decide))
     ·intro ac done u W Sx hR
      have g : Gr w14 W := hR.g (Sx.no 10 (by kernel_rfl)) (Sx.no 13 (by kernel_rfl))
      exact X.valN (X.w0 rfl) rfl (X.bs rfl (X.b1 (Sx.ev 45 (.agg #[Vi (cv nd i 0), Vi (cv nd i 1), Vi (cv nd i 2), Vi (cv nd i 3), Vi (cv nd i 4), Vi 0, Vi 0, Vi 0, Vi 0, Vi 0, Vi 0, Vi 0, Vi 0, Vi 0, Vi 0, Vi (cv nd i 3), .bool false]))) (Try.bs99 _ _ _ _ _ _ _)) (hR.s9 (by decide) (Sx.no 10 (by kernel_rfl)) (Sx.no 13 (by kernel_rfl)) (Gr.alloc _ _) ⟨_, rfl, World.alloc_heap_new _ _⟩)
     ·intro ac done u W Sx hR
      have g : Gr w14 W := hR.g Sx.nd (Sx.no 13 (by kernel_rfl))
      have hgs := g.size
      obtain ⟨g9, e9, hg9⟩ := hR.g9 (Sx.an 9 (by kernel_rfl)) Sx.nd (Sx.no 13 (by kernel_rfl))
      exact X.law (X.w0 rfl) (fun K hK => wp_pushV Try.underlying99 Try.info104 rfl (by decide) rfl (Sx.ev 41 (v)) ((Sx.own 9 46 rfl).trans e9) (hO.gr g) (m := 1) (news := row17 nd i) rfl (cells_at hg9) rfl (by omega) (by decide) (by omega) (fun v2 W2 hO2 hon hat => hK v2 W2 (fun x hx => by cases hx) (hR.s10 (by decide) (Sx.no 13 (by kernel_rfl)) (by
       have hsh := hO2.shape
       rcases hsh with ⟨_, h0⟩ | ⟨g2, c2, e2, _⟩
       ·omega
       ·subst e2; exact ⟨g2, c2, rfl, hO2, (g.only _).trans hon⟩))))
     ·intro ac done u W Sx hR
      exact X.vl (Y.nilC rfl (Sx.ev 37 (Vp w8.heap.size))) (hR.quiet (by decide))
     ·intro ac done u W Sx hR
      exact X.vl (X.field rfl (Sx.ev 48 (Vp w8.heap.size)) (X.fld Try.underlying101 rfl (Try.siz99 _) rfl rfl)) (hR.quiet (by decide))
     ·intro ac done u W Sx hR
      obtain ⟨g2, c2, e2, hO2, hon⟩ := hR.g10 (Sx.an 10 (by kernel_rfl)) Sx.nd
      have hge := fun b e => hO.ge (b := b) e
      have hB2 := hB.only hon (fun e => by have := (hge _ e).1; omega)
      have hg2 := (hO2.ge (b := g2) rfl).1
      refine X.unit (X.w0 rfl) rfl (X.store rfl (Sx.ev 49 (.pointer (some ⟨w8.heap.size, 4, none⟩))) ((Sx.own 10 47 rfl).trans e2) (hB2.st1 (Try.siz99 _) rfl rfl (by decide))) (RAp.s13 ⟨g2, c2, ?_, (hB2.set _).congr (PVal_set _ _ _ _ _ _ _ _ _ _), ?_⟩)
      ·exact hO2.only (Y.set_only _ _ _ _) (fun b e h => by simp [Value.ownBlock] at e; omega)
      ·exact (hI.step2 hon (fun r e => .inr (hge r e).1)).step (Y.set_only _ _ _ _) (.inl rfl)
     rintro ac u w15 hs hd hl_ ho hR
     obtain ⟨g2, c2, hO, hB, hI⟩ := hR.g13 rfl
     replace F : Fr ac 52 [(9, Vp w8.heap.size), (31, .slice (some pd13) n nc), (32, Vi n), (33, Vi i)] := X.fr hs hd hl_ _ (by kernel_rfl)
     clear hs hd hl_ ho hR hC G hnd hl hT
     have G := Y.Only.up Gs hI (by omega)
     have hC := RCells.nil w15
     refine X.blockN ?_
     refine X.thenN ?_
     refine Y.lit (by kernel_rfl) ?_
     refine Y.pv F (X.binop rfl (F.e 33 rfl) (X.kc (Vi 1) rfl) (X.addI Try.underlying3 rfl (by omega) (by omega))) ?_;clear F ac;intro ac F
     refine Y.pv F (X.move rfl (F.e 50 rfl)) ?_;clear F ac;intro ac F
     refine Y.nil ?_
     replace F : Fr ac 52 [(9, Vp w8.heap.size), (31, .slice (some pd13) n nc), (32, Vi n), (33, Vi ((i : Int) + 1))] := F.sub _
     refine X.thenN ?_
     refine ⟨_, ?_, i + 1, .slice (some ⟨g2, 0, none⟩) (i + 1) c2, rfl, by omega, hI, hB, by rw [flatN_succ]; exact hO, F.sub _⟩
     omega
  | true =>
   try rw [h7] at F
   have h7p : ((200 : Int) < m) := of_decide_eq_true h7
   refine Y.pskip F (X.w2 rfl (F.yl (j := 3) (d := 21) (b := true) rfl (by kernel_rfl)) rfl) rfl ?_;clear F ac;intro ac F
   refine Y.pskip F (X.w2 rfl (F.yl (j := 3) (d := 21) (b := true) rfl (by kernel_rfl)) rfl) rfl ?_;clear F ac;intro ac F
   refine Y.pskip F (X.w2 rfl (F.yl (j := 3) (d := 21) (b := true) rfl (by kernel_rfl)) rfl) rfl ?_;clear F ac;intro ac F
   refine Y.pv F (X.pickT rfl (F.e 21 rfl) (X.kc (.bool true) rfl)) ?_;clear F ac;intro ac F
   refine Y.nil ?_
   replace F : Fr ac 52 [(2, .slice la m lc), (3, Vp w.heap.size), (25, .bool true)] := F.sub _
   refine X.thenN ?_
   refine Y.condT (F.e 25 rfl) ?_
   refine Y.seq ?_
   refine Y.lit (by kernel_rfl) ?_
   refine Y.pv F (X.assign rfl (X.kc (.pointer none) rfl)) ?_;clear F ac;intro ac F
   refine Y.pv F (X.assign rfl (X.kc (Vi 91) rfl)) ?_;clear F ac;intro ac F
   refine Y.nil ?_
   replace F : Fr ac 52 [(6, .pointer none), (7, Vi 91)] := F.sub _
   refine X.thenN ?_
   refine Y.ret ?_
   refine X.thenR ?_
   exact Y.ret0 (v := .tuple #[.pointer none, Vi 91]) F (Y.rs2 F rfl (by kernel_rfl) (by kernel_rfl)) ⟨fun _ => by rw [(playE_bad1 hl.len hE (by omega))], G, fun h => by rw [(playE_bad1 hl.len hE (by omega))] at h; cases h⟩
 | true =>
  try rw [h6] at F
  have h6p : ¬ (ticksE gr hold nd t : Int) = 0 := by simpa using h6
  have hE : ¬ ticksE gr hold nd t = 0 := by simpa using h6p
  refine Y.condT (F.e 16 rfl) ?_
  refine Y.seq ?_
  refine Y.lit (by kernel_rfl) ?_
  refine Y.pv F (X.move rfl (F.e 8 rfl)) ?_;clear F ac;intro ac F
  refine Y.pv F (X.assign rfl (X.kc (.pointer none) rfl)) ?_;clear F ac;intro ac F
  refine Y.pv F (X.assign rfl (F.e 17 rfl)) ?_;clear F ac;intro ac F
  refine Y.nil ?_
  replace F : Fr ac 52 [(6, .pointer none), (7, Vi (ticksE gr hold nd t))] := F.sub _
  refine X.thenN ?_
  refine Y.ret ?_
  refine X.thenR ?_
  exact Y.ret0 (v := .tuple #[.pointer none, Vi (ticksE gr hold nd t)]) F (Y.rs2 F rfl (by kernel_rfl) (by kernel_rfl)) ⟨fun _ => by rw [playE, if_pos hE], G, fun h => absurd h (by rw [playE, if_pos hE]; exact hE)⟩
end
end Go.Proofs.Ytoalamakhjbedaa
