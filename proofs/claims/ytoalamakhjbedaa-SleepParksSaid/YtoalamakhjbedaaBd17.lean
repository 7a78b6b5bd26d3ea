/- Contract: SleepParks returns true. -/
import Derived.Test.YtoalamakhjbedaaBd16
namespace Go.Proofs.Ytoalamakhjbedaa
open Go.RowKit

set_option maxRecDepth 100000 in
set_option maxHeartbeats 1000000 in
theorem parks_any (na : Option Addr) (n nc : Nat) (gr hold t ch : Int) (nd : List (List Int)) (w : World) (hnd : StAt w 5 na n nd) :
  Calls Try.prog 6 #[.agg #[.int .i64 gr, .int .i64 hold, .slice na n nc], .int .i64 t, .int .i64 ch] w fun e w' => e = .returned (.bool true) ∧ Gr w w' := by
 have G := Gr.refl w
 have hlen := hnd.len
 have hlt := hnd.lt
 refine Y.calls 72 Try.func6 rfl rfl ?_
 intro ac F0
 have F : Fr ac 72 [(0, .agg #[.int .i64 gr, .int .i64 hold, .slice na n nc]), (1, .int .i64 t), (2, .int .i64 ch)] := F0.sub _
 clear F0
 refine Y.seq ?_
 refine Y.lit (by kernel_rfl) ?_
 refine Y.pval F (X.w0 rfl) rfl (X.box rfl (F.ev 0 (.agg #[.int .i64 gr, .int .i64 hold, .slice na n nc])) X.bx) ?_
 clear F ac
 intro ac F
 have g := Gr.alloc w (.cells #[.int .i64 gr, .int .i64 hold, .slice na n nc] 24)
 have hb := heap_alloc_new w (.cells #[.int .i64 gr, .int .i64 hold, .slice na n nc] 24)
 have hbl : w.heap.size < (w.alloc (.cells #[.int .i64 gr, .int .i64 hold, .slice na n nc] 24)).heap.size := by simp
 have hC2 : RCells (w.alloc (.cells #[.int .i64 gr, .int .i64 hold, .slice na n nc] 24)) [(⟨w.heap.size, 0, none⟩, .int .i64 gr), (⟨w.heap.size, 1, none⟩, .int .i64 hold), (⟨w.heap.size, 2, none⟩, .slice na n nc)] := (RCells.nil w).box (b := w.heap.size) #[.int .i64 gr, .int .i64 hold, .slice na n nc] 24 rfl
 generalize w.alloc (.cells #[.int .i64 gr, .int .i64 hold, .slice na n nc] 24) = w3 at *
 replace G := G.trans g
 have hC := hC2
 clear hC2
 replace hnd := hnd.gr g
 clear g hb hbl
 refine Y.pval F (X.w0 rfl) rfl (X.assign rfl (X.kc (.bool false) rfl)) ?_
 clear F ac
 intro ac F
 refine Y.nil ?_
 replace F : Fr ac 72 [(0, .agg #[.int .i64 gr, .int .i64 hold, .slice na n nc]), (1, .int .i64 t), (2, .int .i64 ch), (3, .pointer (some ⟨w.heap.size, 0, none⟩)), (6, .bool false)] := F.sub _
 refine X.thenN ?_
 refine Y.seq ?_
 refine Y.seq ?_
 refine Y.lit (by kernel_rfl) ?_
 refine Y.pval F (X.w0 rfl) rfl (X.move rfl (F.ev 1 (.int .i64 t))) ?_
 clear F ac
 intro ac F
 refine Y.pval F (X.w0 rfl) rfl (X.binop rfl (F.ev 11 (.int .i64 t)) (X.kc (.int .i64 200) rfl) (X.gtrI Try.underlying3 rfl)) ?_
 clear F ac
 intro ac F
 refine Y.pval F (X.w0 rfl) rfl (X.move rfl (F.ev 12 (.bool (decide ((200 : Int) < t))))) ?_
 clear F ac
 intro ac F
 cases h4 : decide ((200 : Int) < t) with
 | false =>
  try rw [h4] at F
  have h4p : ¬ ((200 : Int) < t) := of_decide_eq_false h4
  refine Y.pskip F (X.w2 rfl (F.yl (j := 2) (d := 13) (b := false) rfl (by kernel_rfl)) rfl) rfl ?_
  clear F ac
  intro ac F
  refine Y.pskip F (X.w2 rfl (F.yl (j := 2) (d := 13) (b := false) rfl (by kernel_rfl)) rfl) rfl ?_
  clear F ac
  intro ac F
  refine Y.pval F (X.w0 rfl) rfl (X.pickF rfl (F.ev 13 (.bool false)) (X.kc (.bool false) rfl)) ?_
  clear F ac
  intro ac F
  refine Y.nil ?_
  replace F : Fr ac 72 [(0, .agg #[.int .i64 gr, .int .i64 hold, .slice na n nc]), (1, .int .i64 t), (2, .int .i64 ch), (3, .pointer (some ⟨w.heap.size, 0, none⟩)), (6, .bool false), (16, .bool false)] := F.sub _
  refine X.thenN ?_
  refine Y.condF (F.ev 16 (.bool false)) ?_
  refine Y.skip ?_
  refine X.thenN ?_
  refine Y.seq ?_
  refine Y.lit (by kernel_rfl) ?_
  refine Y.pval F (X.w0 rfl) rfl (X.load rfl (F.ev 3 (.pointer (some ⟨w.heap.size, 0, none⟩))) (X.ldN (Try.agg24 _) (Try.siz24 _) (Y.atz (⟨w.heap.size, 0, none⟩) (Y.AtFrom.cons (hC.at 0 rfl) (Y.AtFrom.cons (hC.at 1 rfl) (Y.AtFrom.cons (hC.at 2 rfl) (Y.AtFrom.nil _ _ _))))))) ?_
  clear F ac
  intro ac F
  refine Y.pval F (X.w0 rfl) rfl (X.move rfl (F.ev 1 (.int .i64 t))) ?_
  clear F ac
  intro ac F
  refine Y.pcall F (X.w0 rfl) rfl (X.enter (F := 21) rfl (X.kc (.func (.func 21) #[] #[]) rfl) (X.a2 (F.ev 19 (.agg #[.int .i64 gr, .int .i64 hold, .slice na n nc])) (F.ev 20 (.int .i64 t))) (enters_of Try.func21 (by kernel_rfl) rfl _)) (parked_any na n nc gr hold t nd w3 hnd) ?_
  clear F ac
  rintro e w7 ⟨rfl, g⟩
  refine ⟨_, rfl, ?_⟩
  intro ac F
  replace G := G.trans g
  replace hC := hC.gr g
  replace hnd := hnd.gr g
  clear g
  refine Y.pval F (X.w0 rfl) rfl (X.move rfl (F.ev 21 (.tuple #[.int .i64 (parkV gr hold nd t), .int .i64 (ticksE gr hold nd t)]))) ?_
  clear F ac
  intro ac F
  refine Y.pval F (X.w0 rfl) rfl (X.extract rfl (F.ev 18 (.tuple #[.int .i64 (parkV gr hold nd t), .int .i64 (ticksE gr hold nd t)])) rfl) ?_
  clear F ac
  intro ac F
  refine Y.pval F (X.w0 rfl) rfl (X.extract rfl (F.ev 18 (.tuple #[.int .i64 (parkV gr hold nd t), .int .i64 (ticksE gr hold nd t)])) rfl) ?_
  clear F ac
  intro ac F
  refine Y.pval F (X.w0 rfl) rfl (X.assign rfl (F.ev 22 (.int .i64 (parkV gr hold nd t)))) ?_
  clear F ac
  intro ac F
  refine Y.pval F (X.w0 rfl) rfl (X.assign rfl (F.ev 23 (.int .i64 (ticksE gr hold nd t)))) ?_
  clear F ac
  intro ac F
  refine Y.nil ?_
  replace F : Fr ac 72 [(0, .agg #[.int .i64 gr, .int .i64 hold, .slice na n nc]), (1, .int .i64 t), (2, .int .i64 ch), (3, .pointer (some ⟨w.heap.size, 0, none⟩)), (6, .bool false), (7, .int .i64 (parkV gr hold nd t)), (8, .int .i64 (ticksE gr hold nd t)), (16, .bool false)] := F.sub _
  refine X.thenN ?_
  refine Y.seq ?_
  refine Y.lit (by kernel_rfl) ?_
  refine Y.pval F (X.w0 rfl) rfl (X.load rfl (F.ev 3 (.pointer (some ⟨w.heap.size, 0, none⟩))) (X.ldN (Try.agg24 _) (Try.siz24 _) (Y.atz (⟨w.heap.size, 0, none⟩) (Y.AtFrom.cons (hC.at 0 rfl) (Y.AtFrom.cons (hC.at 1 rfl) (Y.AtFrom.cons (hC.at 2 rfl) (Y.AtFrom.nil _ _ _))))))) ?_
  clear F ac
  intro ac F
  refine Y.pval F (X.w0 rfl) rfl (X.move rfl (F.ev 1 (.int .i64 t))) ?_
  clear F ac
  intro ac F
  refine Y.pcall F (X.w0 rfl) rfl (X.enter (F := 22) rfl (X.kc (.func (.func 22) #[] #[]) rfl) (X.a2 (F.ev 25 (.agg #[.int .i64 gr, .int .i64 hold, .slice na n nc])) (F.ev 26 (.int .i64 t))) (enters_of Try.func22 (by kernel_rfl) rfl _)) (Parked2_any na n nc gr hold t nd w7 hnd) ?_
  clear F ac
  rintro e w10 ⟨rfl, g⟩
  refine ⟨_, rfl, ?_⟩
  intro ac F
  replace G := G.trans g
  replace hC := hC.gr g
  replace hnd := hnd.gr g
  clear g
  refine Y.pval F (X.w0 rfl) rfl (X.move rfl (F.ev 27 (.tuple #[.int .i64 (parkV gr hold nd t), .int .i64 (ticksE gr hold nd t)]))) ?_
  clear F ac
  intro ac F
  refine Y.pval F (X.w0 rfl) rfl (X.extract rfl (F.ev 24 (.tuple #[.int .i64 (parkV gr hold nd t), .int .i64 (ticksE gr hold nd t)])) rfl) ?_
  clear F ac
  intro ac F
  refine Y.pval F (X.w0 rfl) rfl (X.extract rfl (F.ev 24 (.tuple #[.int .i64 (parkV gr hold nd t), .int .i64 (ticksE gr hold nd t)])) rfl) ?_
  clear F ac
  intro ac F
  refine Y.pval F (X.w0 rfl) rfl (X.assign rfl (F.ev 28 (.int .i64 (parkV gr hold nd t)))) ?_
  clear F ac
  intro ac F
  refine Y.pval F (X.w0 rfl) rfl (X.assign rfl (F.ev 29 (.int .i64 (ticksE gr hold nd t)))) ?_
  clear F ac
  intro ac F
  refine Y.nil ?_
  replace F : Fr ac 72 [(0, .agg #[.int .i64 gr, .int .i64 hold, .slice na n nc]), (1, .int .i64 t), (2, .int .i64 ch), (3, .pointer (some ⟨w.heap.size, 0, none⟩)), (6, .bool false), (7, .int .i64 (parkV gr hold nd t)), (8, .int .i64 (ticksE gr hold nd t)), (9, .int .i64 (parkV gr hold nd t)), (10, .int .i64 (ticksE gr hold nd t)), (16, .bool false)] := F.sub _
  refine X.thenN ?_
  refine Y.seq ?_
  refine Y.seq ?_
  refine Y.lit (by kernel_rfl) ?_
  refine Y.pval F (X.w0 rfl) rfl (X.move rfl (F.ev 7 (.int .i64 (parkV gr hold nd t)))) ?_
  clear F ac
  intro ac F
  refine Y.pval F (X.w0 rfl) rfl (X.move rfl (F.ev 9 (.int .i64 (parkV gr hold nd t)))) ?_
  clear F ac
  intro ac F
  refine Y.pval F (X.w0 rfl) rfl (X.binop rfl (F.ev 30 (.int .i64 (parkV gr hold nd t))) (F.ev 31 (.int .i64 (parkV gr hold nd t))) (X.neqI Try.underlying3 (show ((parkV gr hold nd t : Int) != (parkV gr hold nd t)) = false by simp))) ?_
  clear F ac
  intro ac F
  refine Y.pval F (X.w0 rfl) rfl (X.move rfl (F.ev 32 (.bool false))) ?_
  clear F ac
  intro ac F
  refine Y.pval F (X.w1 rfl (F.yl (j := 3) (d := 33) (b := false) rfl (by kernel_rfl))) rfl (X.move rfl (F.ev 8 (.int .i64 (ticksE gr hold nd t)))) ?_
  clear F ac
  intro ac F
  refine Y.pval F (X.w1 rfl (F.yl (j := 3) (d := 33) (b := false) rfl (by kernel_rfl))) rfl (X.move rfl (F.ev 10 (.int .i64 (ticksE gr hold nd t)))) ?_
  clear F ac
  intro ac F
  refine Y.pval F (X.w1 rfl (F.yl (j := 3) (d := 33) (b := false) rfl (by kernel_rfl))) rfl (X.binop rfl (F.ev 34 (.int .i64 (ticksE gr hold nd t))) (F.ev 35 (.int .i64 (ticksE gr hold nd t))) (X.neqI Try.underlying26 (show ((ticksE gr hold nd t : Int) != (ticksE gr hold nd t)) = false by simp))) ?_
  clear F ac
  intro ac F
  refine Y.pval F (X.w0 rfl) rfl (X.pickF rfl (F.ev 33 (.bool false)) (F.ev 36 (.bool false))) ?_
  clear F ac
  intro ac F
  refine Y.nil ?_
  replace F : Fr ac 72 [(0, .agg #[.int .i64 gr, .int .i64 hold, .slice na n nc]), (1, .int .i64 t), (2, .int .i64 ch), (3, .pointer (some ⟨w.heap.size, 0, none⟩)), (6, .bool false), (7, .int .i64 (parkV gr hold nd t)), (8, .int .i64 (ticksE gr hold nd t)), (9, .int .i64 (parkV gr hold nd t)), (10, .int .i64 (ticksE gr hold nd t)), (16, .bool false), (37, .bool false)] := F.sub _
  refine X.thenN ?_
  refine Y.condF (F.ev 37 (.bool false)) ?_
  refine Y.skip ?_
  refine X.thenN ?_
  refine Y.seq ?_
  refine Y.seq ?_
  refine Y.lit (by kernel_rfl) ?_
  refine Y.pval F (X.w0 rfl) rfl (X.field rfl (F.ev 3 (.pointer (some ⟨w.heap.size, 0, none⟩))) (X.fld Try.underlying24 rfl (Try.siz22 _) rfl rfl)) ?_
  clear F ac
  intro ac F
  refine Y.pval F (X.w0 rfl) rfl (X.load rfl (F.ev 38 (.pointer (some ⟨w.heap.size, 2, none⟩))) (X.ld1 (Try.agg22 _) (hC.at 2 rfl))) ?_
  clear F ac
  intro ac F
  refine Y.pval F (X.w0 rfl) rfl (X.len1 Try.underlying22 rfl (F.ev 39 (.slice na n nc))) ?_
  clear F ac
  intro ac F
  refine Y.pval F (X.w0 rfl) rfl (X.binop rfl (F.ev 40 (.int .i64 n)) (X.kc (.int .i64 2) rfl) (X.gtrI Try.underlying3 rfl)) ?_
  clear F ac
  intro ac F
  refine Y.pval F (X.w0 rfl) rfl (X.move rfl (F.ev 41 (.bool (decide ((2 : Int) < n))))) ?_
  clear F ac
  intro ac F
  cases h11 : decide ((2 : Int) < n) with
  | false =>
   try rw [h11] at F
   have h11p : ¬ ((2 : Int) < n) := of_decide_eq_false h11
   refine Y.pskip F (X.w2 rfl (F.yl (j := 4) (d := 42) (b := false) rfl (by kernel_rfl)) rfl) rfl ?_
   clear F ac
   intro ac F
   refine Y.pskip F (X.w2 rfl (F.yl (j := 4) (d := 42) (b := false) rfl (by kernel_rfl)) rfl) rfl ?_
   clear F ac
   intro ac F
   refine Y.pskip F (X.w2 rfl (F.yl (j := 4) (d := 42) (b := false) rfl (by kernel_rfl)) rfl) rfl ?_
   clear F ac
   intro ac F
   refine Y.pskip F (X.w2 rfl (F.yl (j := 4) (d := 42) (b := false) rfl (by kernel_rfl)) rfl) rfl ?_
   clear F ac
   intro ac F
   refine Y.pval F (X.w0 rfl) rfl (X.pickF rfl (F.ev 42 (.bool false)) (X.kc (.bool false) rfl)) ?_
   clear F ac
   intro ac F
   refine Y.nil ?_
   replace F : Fr ac 72 [(0, .agg #[.int .i64 gr, .int .i64 hold, .slice na n nc]), (1, .int .i64 t), (2, .int .i64 ch), (3, .pointer (some ⟨w.heap.size, 0, none⟩)), (6, .bool false), (7, .int .i64 (parkV gr hold nd t)), (8, .int .i64 (ticksE gr hold nd t)), (9, .int .i64 (parkV gr hold nd t)), (10, .int .i64 (ticksE gr hold nd t)), (16, .bool false), (37, .bool false), (47, .bool false)] := F.sub _
   refine X.thenN ?_
   refine Y.condF (F.ev 47 (.bool false)) ?_
   refine Y.skip ?_
   refine X.thenN ?_
   refine Y.seq ?_
   refine Y.lit (by kernel_rfl) ?_
   refine Y.pval F (X.w0 rfl) rfl (X.load rfl (F.ev 3 (.pointer (some ⟨w.heap.size, 0, none⟩))) (X.ldN (Try.agg24 _) (Try.siz24 _) (Y.atz (⟨w.heap.size, 0, none⟩) (Y.AtFrom.cons (hC.at 0 rfl) (Y.AtFrom.cons (hC.at 1 rfl) (Y.AtFrom.cons (hC.at 2 rfl) (Y.AtFrom.nil _ _ _))))))) ?_
   clear F ac
   intro ac F
   refine Y.pval F (X.w0 rfl) rfl (X.move rfl (F.ev 2 (.int .i64 ch))) ?_
   clear F ac
   intro ac F
   refine Y.pcall F (X.w0 rfl) rfl (X.enter (F := 23) rfl (X.kc (.func (.func 23) #[] #[]) rfl) (X.a2 (F.ev 50 (.agg #[.int .i64 gr, .int .i64 hold, .slice na n nc])) (F.ev 51 (.int .i64 ch))) (enters_of Try.func23 (by kernel_rfl) rfl _)) (lasts_any na n nc gr hold ch nd w10 hnd) ?_
   clear F ac
   rintro e w14 ⟨L13, rfl, hA13, hB13, g⟩
   refine ⟨_, rfl, ?_⟩
   intro ac F
   replace G := G.trans g
   replace hC := hC.gr g
   replace hnd := hnd.gr g
   clear g
   refine Y.pval F (X.w0 rfl) rfl (X.move rfl (F.ev 52 (.tuple #[.int .i64 L13, .int .i64 (lastE gr hold nd ch)]))) ?_
   clear F ac
   intro ac F
   refine Y.pval F (X.w0 rfl) rfl (X.extract rfl (F.ev 49 (.tuple #[.int .i64 L13, .int .i64 (lastE gr hold nd ch)])) rfl) ?_
   clear F ac
   intro ac F
   refine Y.pval F (X.w0 rfl) rfl (X.extract rfl (F.ev 49 (.tuple #[.int .i64 L13, .int .i64 (lastE gr hold nd ch)])) rfl) ?_
   clear F ac
   intro ac F
   refine Y.pval F (X.w0 rfl) rfl (X.assign rfl (F.ev 53 (.int .i64 L13))) ?_
   clear F ac
   intro ac F
   refine Y.pval F (X.w0 rfl) rfl (X.assign rfl (F.ev 54 (.int .i64 (lastE gr hold nd ch)))) ?_
   clear F ac
   intro ac F
   refine Y.nil ?_
   replace F : Fr ac 72 [(0, .agg #[.int .i64 gr, .int .i64 hold, .slice na n nc]), (1, .int .i64 t), (2, .int .i64 ch), (3, .pointer (some ⟨w.heap.size, 0, none⟩)), (6, .bool false), (7, .int .i64 L13), (8, .int .i64 (lastE gr hold nd ch)), (9, .int .i64 (parkV gr hold nd t)), (10, .int .i64 (ticksE gr hold nd t)), (16, .bool false), (37, .bool false), (47, .bool false)] := F.sub _
   refine X.thenN ?_
   refine Y.seq ?_
   refine Y.lit (by kernel_rfl) ?_
   refine Y.pval F (X.w0 rfl) rfl (X.load rfl (F.ev 3 (.pointer (some ⟨w.heap.size, 0, none⟩))) (X.ldN (Try.agg24 _) (Try.siz24 _) (Y.atz (⟨w.heap.size, 0, none⟩) (Y.AtFrom.cons (hC.at 0 rfl) (Y.AtFrom.cons (hC.at 1 rfl) (Y.AtFrom.cons (hC.at 2 rfl) (Y.AtFrom.nil _ _ _))))))) ?_
   clear F ac
   intro ac F
   refine Y.pval F (X.w0 rfl) rfl (X.move rfl (F.ev 2 (.int .i64 ch))) ?_
   clear F ac
   intro ac F
   refine Y.pcall F (X.w0 rfl) rfl (X.enter (F := 24) rfl (X.kc (.func (.func 24) #[] #[]) rfl) (X.a2 (F.ev 56 (.agg #[.int .i64 gr, .int .i64 hold, .slice na n nc])) (F.ev 57 (.int .i64 ch))) (enters_of Try.func24 (by kernel_rfl) rfl _)) (lasts2_any na n nc gr hold ch nd w14 hnd) ?_
   clear F ac
   rintro e w17 ⟨L16, rfl, hA16, hB16, g⟩
   refine ⟨_, rfl, ?_⟩
   intro ac F
   replace G := G.trans g
   replace hC := hC.gr g
   replace hnd := hnd.gr g
   clear g
   refine Y.pval F (X.w0 rfl) rfl (X.move rfl (F.ev 58 (.tuple #[.int .i64 L16, .int .i64 (lastE gr hold nd ch)]))) ?_
   clear F ac
   intro ac F
   refine Y.pval F (X.w0 rfl) rfl (X.extract rfl (F.ev 55 (.tuple #[.int .i64 L16, .int .i64 (lastE gr hold nd ch)])) rfl) ?_
   clear F ac
   intro ac F
   refine Y.pval F (X.w0 rfl) rfl (X.extract rfl (F.ev 55 (.tuple #[.int .i64 L16, .int .i64 (lastE gr hold nd ch)])) rfl) ?_
   clear F ac
   intro ac F
   refine Y.pval F (X.w0 rfl) rfl (X.assign rfl (F.ev 59 (.int .i64 L16))) ?_
   clear F ac
   intro ac F
   refine Y.pval F (X.w0 rfl) rfl (X.assign rfl (F.ev 60 (.int .i64 (lastE gr hold nd ch)))) ?_
   clear F ac
   intro ac F
   refine Y.nil ?_
   replace F : Fr ac 72 [(0, .agg #[.int .i64 gr, .int .i64 hold, .slice na n nc]), (1, .int .i64 t), (2, .int .i64 ch), (3, .pointer (some ⟨w.heap.size, 0, none⟩)), (6, .bool false), (7, .int .i64 L13), (8, .int .i64 (lastE gr hold nd ch)), (9, .int .i64 L16), (10, .int .i64 (lastE gr hold nd ch)), (16, .bool false), (37, .bool false), (47, .bool false)] := F.sub _
   refine X.thenN ?_
   refine Y.seq ?_
   refine Y.lit (by kernel_rfl) ?_
   refine Y.pval F (X.w0 rfl) rfl (X.move rfl (F.ev 7 (.int .i64 L13))) ?_
   clear F ac
   intro ac F
   refine Y.pval F (X.w0 rfl) rfl (X.move rfl (F.ev 9 (.int .i64 L16))) ?_
   clear F ac
   intro ac F
   refine Y.pval F (X.w0 rfl) rfl (X.binop rfl (F.ev 61 (.int .i64 L13)) (F.ev 62 (.int .i64 L16)) (X.eqlI Try.underlying3 rfl)) ?_
   clear F ac
   intro ac F
   refine Y.pval F (X.w0 rfl) rfl (X.move rfl (F.ev 63 (.bool ((L13 : Int) == L16)))) ?_
   clear F ac
   intro ac F
   have h19 : ((L13 : Int) == L16) = true := beq_iff_eq.2 (last_same hA13 hB13 hA16 hB16)
   try rw [h19] at F
   refine Y.pval F (X.w1 rfl (F.yl (j := 3) (d := 64) (b := true) rfl (by kernel_rfl))) rfl (X.move rfl (F.ev 8 (.int .i64 (lastE gr hold nd ch)))) ?_
   clear F ac
   intro ac F
   refine Y.pval F (X.w1 rfl (F.yl (j := 3) (d := 64) (b := true) rfl (by kernel_rfl))) rfl (X.move rfl (F.ev 10 (.int .i64 (lastE gr hold nd ch)))) ?_
   clear F ac
   intro ac F
   refine Y.pval F (X.w1 rfl (F.yl (j := 3) (d := 64) (b := true) rfl (by kernel_rfl))) rfl (X.binop rfl (F.ev 65 (.int .i64 (lastE gr hold nd ch))) (F.ev 66 (.int .i64 (lastE gr hold nd ch))) (X.eqlI Try.underlying26 (show ((lastE gr hold nd ch : Int) == (lastE gr hold nd ch)) = true by simp))) ?_
   clear F ac
   intro ac F
   refine Y.pval F (X.w0 rfl) rfl (X.pickT rfl (F.ev 64 (.bool true)) (F.ev 67 (.bool true))) ?_
   clear F ac
   intro ac F
   refine Y.pval F (X.w0 rfl) rfl (X.move rfl (F.ev 68 (.bool true))) ?_
   clear F ac
   intro ac F
   refine Y.pcall F (X.w1 rfl (F.yl (j := 8) (d := 69) (b := true) rfl (by kernel_rfl))) rfl (X.enter (F := 16) rfl (X.kc (.func (.func 16) #[] #[]) rfl) rfl (enters_of Try.func16 (by kernel_rfl) rfl _)) (works_any w17) ?_
   clear F ac
   rintro e w21 ⟨rfl, g⟩
   refine ⟨_, rfl, ?_⟩
   intro ac F
   replace G := G.trans g
   replace hC := hC.gr g
   replace hnd := hnd.gr g
   clear g
   refine Y.pval F (X.w0 rfl) rfl (X.pickT rfl (F.ev 69 (.bool true)) (F.ev 70 (.bool true))) ?_
   clear F ac
   intro ac F
   refine Y.pval F (X.w0 rfl) rfl (X.assign rfl (F.ev 71 (.bool true))) ?_
   clear F ac
   intro ac F
   refine Y.nil ?_
   replace F : Fr ac 72 [(0, .agg #[.int .i64 gr, .int .i64 hold, .slice na n nc]), (1, .int .i64 t), (2, .int .i64 ch), (3, .pointer (some ⟨w.heap.size, 0, none⟩)), (6, .bool true), (7, .int .i64 L13), (8, .int .i64 (lastE gr hold nd ch)), (9, .int .i64 L16), (10, .int .i64 (lastE gr hold nd ch)), (16, .bool false), (37, .bool false), (47, .bool false)] := F.sub _
   refine X.thenN ?_
   refine Y.ret ?_
   exact Y.ret0 (v := .bool true) F (Y.rs1 F rfl (by kernel_rfl)) ⟨rfl, G⟩
  | true =>
   try rw [h11] at F
   have h11p : ((2 : Int) < n) := of_decide_eq_true h11
   refine Y.pval F (X.w1 rfl (F.yl (j := 4) (d := 42) (b := true) rfl (by kernel_rfl))) rfl (X.field rfl (F.ev 3 (.pointer (some ⟨w.heap.size, 0, none⟩))) (X.fld Try.underlying24 rfl (Try.siz22 _) rfl rfl)) ?_
   clear F ac
   intro ac F
   refine Y.pval F (X.w1 rfl (F.yl (j := 4) (d := 42) (b := true) rfl (by kernel_rfl))) rfl (X.load rfl (F.ev 43 (.pointer (some ⟨w.heap.size, 2, none⟩))) (X.ld1 (Try.agg22 _) (hC.at 2 rfl))) ?_
   clear F ac
   intro ac F
   refine Y.pval F (X.w1 rfl (F.yl (j := 4) (d := 42) (b := true) rfl (by kernel_rfl))) rfl (X.len1 Try.underlying22 rfl (F.ev 44 (.slice na n nc))) ?_
   clear F ac
   intro ac F
   refine Y.pval F (X.w1 rfl (F.yl (j := 4) (d := 42) (b := true) rfl (by kernel_rfl))) rfl (X.binop rfl (F.ev 45 (.int .i64 n)) (X.kc (.int .i64 16) rfl) (X.leqI Try.underlying3 rfl)) ?_
   clear F ac
   intro ac F
   refine Y.pval F (X.w0 rfl) rfl (X.pickT rfl (F.ev 42 (.bool true)) (F.ev 46 (.bool (decide ((n : Int) ≤ 16))))) ?_
   clear F ac
   intro ac F
   refine Y.nil ?_
   replace F : Fr ac 72 [(0, .agg #[.int .i64 gr, .int .i64 hold, .slice na n nc]), (1, .int .i64 t), (2, .int .i64 ch), (3, .pointer (some ⟨w.heap.size, 0, none⟩)), (6, .bool false), (7, .int .i64 (parkV gr hold nd t)), (8, .int .i64 (ticksE gr hold nd t)), (9, .int .i64 (parkV gr hold nd t)), (10, .int .i64 (ticksE gr hold nd t)), (16, .bool false), (37, .bool false), (47, .bool (decide ((n : Int) ≤ 16)))] := F.sub _
   refine X.thenN ?_
   cases h22 : decide ((n : Int) ≤ 16) with
   | false =>
    try rw [h22] at F
    have h22p : ¬ ((n : Int) ≤ 16) := of_decide_eq_false h22
    refine Y.condF (F.ev 47 (.bool false)) ?_
    refine Y.skip ?_
    refine X.thenN ?_
    refine Y.seq ?_
    refine Y.lit (by kernel_rfl) ?_
    refine Y.pval F (X.w0 rfl) rfl (X.load rfl (F.ev 3 (.pointer (some ⟨w.heap.size, 0, none⟩))) (X.ldN (Try.agg24 _) (Try.siz24 _) (Y.atz (⟨w.heap.size, 0, none⟩) (Y.AtFrom.cons (hC.at 0 rfl) (Y.AtFrom.cons (hC.at 1 rfl) (Y.AtFrom.cons (hC.at 2 rfl) (Y.AtFrom.nil _ _ _))))))) ?_
    clear F ac
    intro ac F
    refine Y.pval F (X.w0 rfl) rfl (X.move rfl (F.ev 2 (.int .i64 ch))) ?_
    clear F ac
    intro ac F
    refine Y.pcall F (X.w0 rfl) rfl (X.enter (F := 23) rfl (X.kc (.func (.func 23) #[] #[]) rfl) (X.a2 (F.ev 50 (.agg #[.int .i64 gr, .int .i64 hold, .slice na n nc])) (F.ev 51 (.int .i64 ch))) (enters_of Try.func23 (by kernel_rfl) rfl _)) (lasts_any na n nc gr hold ch nd w10 hnd) ?_
    clear F ac
    rintro e w25 ⟨L24, rfl, hA24, hB24, g⟩
    refine ⟨_, rfl, ?_⟩
    intro ac F
    replace G := G.trans g
    replace hC := hC.gr g
    replace hnd := hnd.gr g
    clear g
    refine Y.pval F (X.w0 rfl) rfl (X.move rfl (F.ev 52 (.tuple #[.int .i64 L24, .int .i64 (lastE gr hold nd ch)]))) ?_
    clear F ac
    intro ac F
    refine Y.pval F (X.w0 rfl) rfl (X.extract rfl (F.ev 49 (.tuple #[.int .i64 L24, .int .i64 (lastE gr hold nd ch)])) rfl) ?_
    clear F ac
    intro ac F
    refine Y.pval F (X.w0 rfl) rfl (X.extract rfl (F.ev 49 (.tuple #[.int .i64 L24, .int .i64 (lastE gr hold nd ch)])) rfl) ?_
    clear F ac
    intro ac F
    refine Y.pval F (X.w0 rfl) rfl (X.assign rfl (F.ev 53 (.int .i64 L24))) ?_
    clear F ac
    intro ac F
    refine Y.pval F (X.w0 rfl) rfl (X.assign rfl (F.ev 54 (.int .i64 (lastE gr hold nd ch)))) ?_
    clear F ac
    intro ac F
    refine Y.nil ?_
    replace F : Fr ac 72 [(0, .agg #[.int .i64 gr, .int .i64 hold, .slice na n nc]), (1, .int .i64 t), (2, .int .i64 ch), (3, .pointer (some ⟨w.heap.size, 0, none⟩)), (6, .bool false), (7, .int .i64 L24), (8, .int .i64 (lastE gr hold nd ch)), (9, .int .i64 (parkV gr hold nd t)), (10, .int .i64 (ticksE gr hold nd t)), (16, .bool false), (37, .bool false), (47, .bool false)] := F.sub _
    refine X.thenN ?_
    refine Y.seq ?_
    refine Y.lit (by kernel_rfl) ?_
    refine Y.pval F (X.w0 rfl) rfl (X.load rfl (F.ev 3 (.pointer (some ⟨w.heap.size, 0, none⟩))) (X.ldN (Try.agg24 _) (Try.siz24 _) (Y.atz (⟨w.heap.size, 0, none⟩) (Y.AtFrom.cons (hC.at 0 rfl) (Y.AtFrom.cons (hC.at 1 rfl) (Y.AtFrom.cons (hC.at 2 rfl) (Y.AtFrom.nil _ _ _))))))) ?_
    clear F ac
    intro ac F
    refine Y.pval F (X.w0 rfl) rfl (X.move rfl (F.ev 2 (.int .i64 ch))) ?_
    clear F ac
    intro ac F
    refine Y.pcall F (X.w0 rfl) rfl (X.enter (F := 24) rfl (X.kc (.func (.func 24) #[] #[]) rfl) (X.a2 (F.ev 56 (.agg #[.int .i64 gr, .int .i64 hold, .slice na n nc])) (F.ev 57 (.int .i64 ch))) (enters_of Try.func24 (by kernel_rfl) rfl _)) (lasts2_any na n nc gr hold ch nd w25 hnd) ?_
    clear F ac
    rintro e w28 ⟨L27, rfl, hA27, hB27, g⟩
    refine ⟨_, rfl, ?_⟩
    intro ac F
    replace G := G.trans g
    replace hC := hC.gr g
    replace hnd := hnd.gr g
    clear g
    refine Y.pval F (X.w0 rfl) rfl (X.move rfl (F.ev 58 (.tuple #[.int .i64 L27, .int .i64 (lastE gr hold nd ch)]))) ?_
    clear F ac
    intro ac F
    refine Y.pval F (X.w0 rfl) rfl (X.extract rfl (F.ev 55 (.tuple #[.int .i64 L27, .int .i64 (lastE gr hold nd ch)])) rfl) ?_
    clear F ac
    intro ac F
    refine Y.pval F (X.w0 rfl) rfl (X.extract rfl (F.ev 55 (.tuple #[.int .i64 L27, .int .i64 (lastE gr hold nd ch)])) rfl) ?_
    clear F ac
    intro ac F
    refine Y.pval F (X.w0 rfl) rfl (X.assign rfl (F.ev 59 (.int .i64 L27))) ?_
    clear F ac
    intro ac F
    refine Y.pval F (X.w0 rfl) rfl (X.assign rfl (F.ev 60 (.int .i64 (lastE gr hold nd ch)))) ?_
    clear F ac
    intro ac F
    refine Y.nil ?_
    replace F : Fr ac 72 [(0, .agg #[.int .i64 gr, .int .i64 hold, .slice na n nc]), (1, .int .i64 t), (2, .int .i64 ch), (3, .pointer (some ⟨w.heap.size, 0, none⟩)), (6, .bool false), (7, .int .i64 L24), (8, .int .i64 (lastE gr hold nd ch)), (9, .int .i64 L27), (10, .int .i64 (lastE gr hold nd ch)), (16, .bool false), (37, .bool false), (47, .bool false)] := F.sub _
    refine X.thenN ?_
    refine Y.seq ?_
    refine Y.lit (by kernel_rfl) ?_
    refine Y.pval F (X.w0 rfl) rfl (X.move rfl (F.ev 7 (.int .i64 L24))) ?_
    clear F ac
    intro ac F
    refine Y.pval F (X.w0 rfl) rfl (X.move rfl (F.ev 9 (.int .i64 L27))) ?_
    clear F ac
    intro ac F
    refine Y.pval F (X.w0 rfl) rfl (X.binop rfl (F.ev 61 (.int .i64 L24)) (F.ev 62 (.int .i64 L27)) (X.eqlI Try.underlying3 rfl)) ?_
    clear F ac
    intro ac F
    refine Y.pval F (X.w0 rfl) rfl (X.move rfl (F.ev 63 (.bool ((L24 : Int) == L27)))) ?_
    clear F ac
    intro ac F
    have h30 : ((L24 : Int) == L27) = true := beq_iff_eq.2 (last_same hA24 hB24 hA27 hB27)
    try rw [h30] at F
    refine Y.pval F (X.w1 rfl (F.yl (j := 3) (d := 64) (b := true) rfl (by kernel_rfl))) rfl (X.move rfl (F.ev 8 (.int .i64 (lastE gr hold nd ch)))) ?_
    clear F ac
    intro ac F
    refine Y.pval F (X.w1 rfl (F.yl (j := 3) (d := 64) (b := true) rfl (by kernel_rfl))) rfl (X.move rfl (F.ev 10 (.int .i64 (lastE gr hold nd ch)))) ?_
    clear F ac
    intro ac F
    refine Y.pval F (X.w1 rfl (F.yl (j := 3) (d := 64) (b := true) rfl (by kernel_rfl))) rfl (X.binop rfl (F.ev 65 (.int .i64 (lastE gr hold nd ch))) (F.ev 66 (.int .i64 (lastE gr hold nd ch))) (X.eqlI Try.underlying26 (show ((lastE gr hold nd ch : Int) == (lastE gr hold nd ch)) = true by simp))) ?_
    clear F ac
    intro ac F
    refine Y.pval F (X.w0 rfl) rfl (X.pickT rfl (F.ev 64 (.bool true)) (F.ev 67 (.bool true))) ?_
    clear F ac
    intro ac F
    refine Y.pval F (X.w0 rfl) rfl (X.move rfl (F.ev 68 (.bool true))) ?_
    clear F ac
    intro ac F
    refine Y.pcall F (X.w1 rfl (F.yl (j := 8) (d := 69) (b := true) rfl (by kernel_rfl))) rfl (X.enter (F := 16) rfl (X.kc (.func (.func 16) #[] #[]) rfl) rfl (enters_of Try.func16 (by kernel_rfl) rfl _)) (works_any w28) ?_
    clear F ac
    rintro e w32 ⟨rfl, g⟩
    refine ⟨_, rfl, ?_⟩
    intro ac F
    replace G := G.trans g
    replace hC := hC.gr g
    replace hnd := hnd.gr g
    clear g
    refine Y.pval F (X.w0 rfl) rfl (X.pickT rfl (F.ev 69 (.bool true)) (F.ev 70 (.bool true))) ?_
    clear F ac
    intro ac F
    refine Y.pval F (X.w0 rfl) rfl (X.assign rfl (F.ev 71 (.bool true))) ?_
    clear F ac
    intro ac F
    refine Y.nil ?_
    replace F : Fr ac 72 [(0, .agg #[.int .i64 gr, .int .i64 hold, .slice na n nc]), (1, .int .i64 t), (2, .int .i64 ch), (3, .pointer (some ⟨w.heap.size, 0, none⟩)), (6, .bool true), (7, .int .i64 L24), (8, .int .i64 (lastE gr hold nd ch)), (9, .int .i64 L27), (10, .int .i64 (lastE gr hold nd ch)), (16, .bool false), (37, .bool false), (47, .bool false)] := F.sub _
    refine X.thenN ?_
    refine Y.ret ?_
    exact Y.ret0 (v := .bool true) F (Y.rs1 F rfl (by kernel_rfl)) ⟨rfl, G⟩
   | true =>
    try rw [h22] at F
    have h22p : ((n : Int) ≤ 16) := of_decide_eq_true h22
    refine Y.condT (F.ev 47 (.bool true)) ?_
    refine Y.seq ?_
    refine Y.lit (by kernel_rfl) ?_
    refine Y.pcall F (X.w0 rfl) rfl (X.enter (F := 16) rfl (X.kc (.func (.func 16) #[] #[]) rfl) rfl (enters_of Try.func16 (by kernel_rfl) rfl _)) (works_any w10) ?_
    clear F ac
    rintro e w34 ⟨rfl, g⟩
    refine ⟨_, rfl, ?_⟩
    intro ac F
    replace G := G.trans g
    replace hC := hC.gr g
    replace hnd := hnd.gr g
    clear g
    refine Y.pval F (X.w0 rfl) rfl (X.assign rfl (F.ev 48 (.bool true))) ?_
    clear F ac
    intro ac F
    refine Y.nil ?_
    replace F : Fr ac 72 [(0, .agg #[.int .i64 gr, .int .i64 hold, .slice na n nc]), (1, .int .i64 t), (2, .int .i64 ch), (3, .pointer (some ⟨w.heap.size, 0, none⟩)), (6, .bool true), (7, .int .i64 (parkV gr hold nd t)), (8, .int .i64 (ticksE gr hold nd t)), (9, .int .i64 (parkV gr hold nd t)), (10, .int .i64 (ticksE gr hold nd t)), (16, .bool false), (37, .bool false), (47, .bool true)] := F.sub _
    refine X.thenN ?_
    refine Y.ret ?_
    refine X.thenR ?_
    exact Y.ret0 (v := .bool true) F (Y.rs1 F rfl (by kernel_rfl)) ⟨rfl, G⟩
 | true =>
  try rw [h4] at F
  have h4p : ((200 : Int) < t) := of_decide_eq_true h4
  refine Y.pval F (X.w1 rfl (F.yl (j := 2) (d := 13) (b := true) rfl (by kernel_rfl))) rfl (X.move rfl (F.ev 1 (.int .i64 t))) ?_
  clear F ac
  intro ac F
  refine Y.pval F (X.w1 rfl (F.yl (j := 2) (d := 13) (b := true) rfl (by kernel_rfl))) rfl (X.binop rfl (F.ev 14 (.int .i64 t)) (X.kc (.int .i64 1000) rfl) (X.leqI Try.underlying3 rfl)) ?_
  clear F ac
  intro ac F
  refine Y.pval F (X.w0 rfl) rfl (X.pickT rfl (F.ev 13 (.bool true)) (F.ev 15 (.bool (decide ((t : Int) ≤ 1000))))) ?_
  clear F ac
  intro ac F
  refine Y.nil ?_
  replace F : Fr ac 72 [(0, .agg #[.int .i64 gr, .int .i64 hold, .slice na n nc]), (1, .int .i64 t), (2, .int .i64 ch), (3, .pointer (some ⟨w.heap.size, 0, none⟩)), (6, .bool false), (16, .bool (decide ((t : Int) ≤ 1000)))] := F.sub _
  refine X.thenN ?_
  cases h35 : decide ((t : Int) ≤ 1000) with
  | false =>
   try rw [h35] at F
   have h35p : ¬ ((t : Int) ≤ 1000) := of_decide_eq_false h35
   refine Y.condF (F.ev 16 (.bool false)) ?_
   refine Y.skip ?_
   refine X.thenN ?_
   refine Y.seq ?_
   refine Y.lit (by kernel_rfl) ?_
   refine Y.pval F (X.w0 rfl) rfl (X.load rfl (F.ev 3 (.pointer (some ⟨w.heap.size, 0, none⟩))) (X.ldN (Try.agg24 _) (Try.siz24 _) (Y.atz (⟨w.heap.size, 0, none⟩) (Y.AtFrom.cons (hC.at 0 rfl) (Y.AtFrom.cons (hC.at 1 rfl) (Y.AtFrom.cons (hC.at 2 rfl) (Y.AtFrom.nil _ _ _))))))) ?_
   clear F ac
   intro ac F
   refine Y.pval F (X.w0 rfl) rfl (X.move rfl (F.ev 1 (.int .i64 t))) ?_
   clear F ac
   intro ac F
   refine Y.pcall F (X.w0 rfl) rfl (X.enter (F := 21) rfl (X.kc (.func (.func 21) #[] #[]) rfl) (X.a2 (F.ev 19 (.agg #[.int .i64 gr, .int .i64 hold, .slice na n nc])) (F.ev 20 (.int .i64 t))) (enters_of Try.func21 (by kernel_rfl) rfl _)) (parked_any na n nc gr hold t nd w3 hnd) ?_
   clear F ac
   rintro e w38 ⟨rfl, g⟩
   refine ⟨_, rfl, ?_⟩
   intro ac F
   replace G := G.trans g
   replace hC := hC.gr g
   replace hnd := hnd.gr g
   clear g
   refine Y.pval F (X.w0 rfl) rfl (X.move rfl (F.ev 21 (.tuple #[.int .i64 (parkV gr hold nd t), .int .i64 (ticksE gr hold nd t)]))) ?_
   clear F ac
   intro ac F
   refine Y.pval F (X.w0 rfl) rfl (X.extract rfl (F.ev 18 (.tuple #[.int .i64 (parkV gr hold nd t), .int .i64 (ticksE gr hold nd t)])) rfl) ?_
   clear F ac
   intro ac F
   refine Y.pval F (X.w0 rfl) rfl (X.extract rfl (F.ev 18 (.tuple #[.int .i64 (parkV gr hold nd t), .int .i64 (ticksE gr hold nd t)])) rfl) ?_
   clear F ac
   intro ac F
   refine Y.pval F (X.w0 rfl) rfl (X.assign rfl (F.ev 22 (.int .i64 (parkV gr hold nd t)))) ?_
   clear F ac
   intro ac F
   refine Y.pval F (X.w0 rfl) rfl (X.assign rfl (F.ev 23 (.int .i64 (ticksE gr hold nd t)))) ?_
   clear F ac
   intro ac F
   refine Y.nil ?_
   replace F : Fr ac 72 [(0, .agg #[.int .i64 gr, .int .i64 hold, .slice na n nc]), (1, .int .i64 t), (2, .int .i64 ch), (3, .pointer (some ⟨w.heap.size, 0, none⟩)), (6, .bool false), (7, .int .i64 (parkV gr hold nd t)), (8, .int .i64 (ticksE gr hold nd t)), (16, .bool false)] := F.sub _
   refine X.thenN ?_
   refine Y.seq ?_
   refine Y.lit (by kernel_rfl) ?_
   refine Y.pval F (X.w0 rfl) rfl (X.load rfl (F.ev 3 (.pointer (some ⟨w.heap.size, 0, none⟩))) (X.ldN (Try.agg24 _) (Try.siz24 _) (Y.atz (⟨w.heap.size, 0, none⟩) (Y.AtFrom.cons (hC.at 0 rfl) (Y.AtFrom.cons (hC.at 1 rfl) (Y.AtFrom.cons (hC.at 2 rfl) (Y.AtFrom.nil _ _ _))))))) ?_
   clear F ac
   intro ac F
   refine Y.pval F (X.w0 rfl) rfl (X.move rfl (F.ev 1 (.int .i64 t))) ?_
   clear F ac
   intro ac F
   refine Y.pcall F (X.w0 rfl) rfl (X.enter (F := 22) rfl (X.kc (.func (.func 22) #[] #[]) rfl) (X.a2 (F.ev 25 (.agg #[.int .i64 gr, .int .i64 hold, .slice na n nc])) (F.ev 26 (.int .i64 t))) (enters_of Try.func22 (by kernel_rfl) rfl _)) (Parked2_any na n nc gr hold t nd w38 hnd) ?_
   clear F ac
   rintro e w41 ⟨rfl, g⟩
   refine ⟨_, rfl, ?_⟩
   intro ac F
   replace G := G.trans g
   replace hC := hC.gr g
   replace hnd := hnd.gr g
   clear g
   refine Y.pval F (X.w0 rfl) rfl (X.move rfl (F.ev 27 (.tuple #[.int .i64 (parkV gr hold nd t), .int .i64 (ticksE gr hold nd t)]))) ?_
   clear F ac
   intro ac F
   refine Y.pval F (X.w0 rfl) rfl (X.extract rfl (F.ev 24 (.tuple #[.int .i64 (parkV gr hold nd t), .int .i64 (ticksE gr hold nd t)])) rfl) ?_
   clear F ac
   intro ac F
   refine Y.pval F (X.w0 rfl) rfl (X.extract rfl (F.ev 24 (.tuple #[.int .i64 (parkV gr hold nd t), .int .i64 (ticksE gr hold nd t)])) rfl) ?_
   clear F ac
   intro ac F
   refine Y.pval F (X.w0 rfl) rfl (X.assign rfl (F.ev 28 (.int .i64 (parkV gr hold nd t)))) ?_
   clear F ac
   intro ac F
   refine Y.pval F (X.w0 rfl) rfl (X.assign rfl (F.ev 29 (.int .i64 (ticksE gr hold nd t)))) ?_
   clear F ac
   intro ac F
   refine Y.nil ?_
   replace F : Fr ac 72 [(0, .agg #[.int .i64 gr, .int .i64 hold, .slice na n nc]), (1, .int .i64 t), (2, .int .i64 ch), (3, .pointer (some ⟨w.heap.size, 0, none⟩)), (6, .bool false), (7, .int .i64 (parkV gr hold nd t)), (8, .int .i64 (ticksE gr hold nd t)), (9, .int .i64 (parkV gr hold nd t)), (10, .int .i64 (ticksE gr hold nd t)), (16, .bool false)] := F.sub _
   refine X.thenN ?_
   refine Y.seq ?_
   refine Y.seq ?_
   refine Y.lit (by kernel_rfl) ?_
   refine Y.pval F (X.w0 rfl) rfl (X.move rfl (F.ev 7 (.int .i64 (parkV gr hold nd t)))) ?_
   clear F ac
   intro ac F
   refine Y.pval F (X.w0 rfl) rfl (X.move rfl (F.ev 9 (.int .i64 (parkV gr hold nd t)))) ?_
   clear F ac
   intro ac F
   refine Y.pval F (X.w0 rfl) rfl (X.binop rfl (F.ev 30 (.int .i64 (parkV gr hold nd t))) (F.ev 31 (.int .i64 (parkV gr hold nd t))) (X.neqI Try.underlying3 (show ((parkV gr hold nd t : Int) != (parkV gr hold nd t)) = false by simp))) ?_
   clear F ac
   intro ac F
   refine Y.pval F (X.w0 rfl) rfl (X.move rfl (F.ev 32 (.bool false))) ?_
   clear F ac
   intro ac F
   refine Y.pval F (X.w1 rfl (F.yl (j := 3) (d := 33) (b := false) rfl (by kernel_rfl))) rfl (X.move rfl (F.ev 8 (.int .i64 (ticksE gr hold nd t)))) ?_
   clear F ac
   intro ac F
   refine Y.pval F (X.w1 rfl (F.yl (j := 3) (d := 33) (b := false) rfl (by kernel_rfl))) rfl (X.move rfl (F.ev 10 (.int .i64 (ticksE gr hold nd t)))) ?_
   clear F ac
   intro ac F
   refine Y.pval F (X.w1 rfl (F.yl (j := 3) (d := 33) (b := false) rfl (by kernel_rfl))) rfl (X.binop rfl (F.ev 34 (.int .i64 (ticksE gr hold nd t))) (F.ev 35 (.int .i64 (ticksE gr hold nd t))) (X.neqI Try.underlying26 (show ((ticksE gr hold nd t : Int) != (ticksE gr hold nd t)) = false by simp))) ?_
   clear F ac
   intro ac F
   refine Y.pval F (X.w0 rfl) rfl (X.pickF rfl (F.ev 33 (.bool false)) (F.ev 36 (.bool false))) ?_
   clear F ac
   intro ac F
   refine Y.nil ?_
   replace F : Fr ac 72 [(0, .agg #[.int .i64 gr, .int .i64 hold, .slice na n nc]), (1, .int .i64 t), (2, .int .i64 ch), (3, .pointer (some ⟨w.heap.size, 0, none⟩)), (6, .bool false), (7, .int .i64 (parkV gr hold nd t)), (8, .int .i64 (ticksE gr hold nd t)), (9, .int .i64 (parkV gr hold nd t)), (10, .int .i64 (ticksE gr hold nd t)), (16, .bool false), (37, .bool false)] := F.sub _
   refine X.thenN ?_
   refine Y.condF (F.ev 37 (.bool false)) ?_
   refine Y.skip ?_
   refine X.thenN ?_
   refine Y.seq ?_
   refine Y.seq ?_
   refine Y.lit (by kernel_rfl) ?_
   refine Y.pval F (X.w0 rfl) rfl (X.field rfl (F.ev 3 (.pointer (some ⟨w.heap.size, 0, none⟩))) (X.fld Try.underlying24 rfl (Try.siz22 _) rfl rfl)) ?_
   clear F ac
   intro ac F
   refine Y.pval F (X.w0 rfl) rfl (X.load rfl (F.ev 38 (.pointer (some ⟨w.heap.size, 2, none⟩))) (X.ld1 (Try.agg22 _) (hC.at 2 rfl))) ?_
   clear F ac
   intro ac F
   refine Y.pval F (X.w0 rfl) rfl (X.len1 Try.underlying22 rfl (F.ev 39 (.slice na n nc))) ?_
   clear F ac
   intro ac F
   refine Y.pval F (X.w0 rfl) rfl (X.binop rfl (F.ev 40 (.int .i64 n)) (X.kc (.int .i64 2) rfl) (X.gtrI Try.underlying3 rfl)) ?_
   clear F ac
   intro ac F
   refine Y.pval F (X.w0 rfl) rfl (X.move rfl (F.ev 41 (.bool (decide ((2 : Int) < n))))) ?_
   clear F ac
   intro ac F
   cases h42 : decide ((2 : Int) < n) with
   | false =>
    try rw [h42] at F
    have h42p : ¬ ((2 : Int) < n) := of_decide_eq_false h42
    refine Y.pskip F (X.w2 rfl (F.yl (j := 4) (d := 42) (b := false) rfl (by kernel_rfl)) rfl) rfl ?_
    clear F ac
    intro ac F
    refine Y.pskip F (X.w2 rfl (F.yl (j := 4) (d := 42) (b := false) rfl (by kernel_rfl)) rfl) rfl ?_
    clear F ac
    intro ac F
    refine Y.pskip F (X.w2 rfl (F.yl (j := 4) (d := 42) (b := false) rfl (by kernel_rfl)) rfl) rfl ?_
    clear F ac
    intro ac F
    refine Y.pskip F (X.w2 rfl (F.yl (j := 4) (d := 42) (b := false) rfl (by kernel_rfl)) rfl) rfl ?_
    clear F ac
    intro ac F
    refine Y.pval F (X.w0 rfl) rfl (X.pickF rfl (F.ev 42 (.bool false)) (X.kc (.bool false) rfl)) ?_
    clear F ac
    intro ac F
    refine Y.nil ?_
    replace F : Fr ac 72 [(0, .agg #[.int .i64 gr, .int .i64 hold, .slice na n nc]), (1, .int .i64 t), (2, .int .i64 ch), (3, .pointer (some ⟨w.heap.size, 0, none⟩)), (6, .bool false), (7, .int .i64 (parkV gr hold nd t)), (8, .int .i64 (ticksE gr hold nd t)), (9, .int .i64 (parkV gr hold nd t)), (10, .int .i64 (ticksE gr hold nd t)), (16, .bool false), (37, .bool false), (47, .bool false)] := F.sub _
    refine X.thenN ?_
    refine Y.condF (F.ev 47 (.bool false)) ?_
    refine Y.skip ?_
    refine X.thenN ?_
    refine Y.seq ?_
    refine Y.lit (by kernel_rfl) ?_
    refine Y.pval F (X.w0 rfl) rfl (X.load rfl (F.ev 3 (.pointer (some ⟨w.heap.size, 0, none⟩))) (X.ldN (Try.agg24 _) (Try.siz24 _) (Y.atz (⟨w.heap.size, 0, none⟩) (Y.AtFrom.cons (hC.at 0 rfl) (Y.AtFrom.cons (hC.at 1 rfl) (Y.AtFrom.cons (hC.at 2 rfl) (Y.AtFrom.nil _ _ _))))))) ?_
    clear F ac
    intro ac F
    refine Y.pval F (X.w0 rfl) rfl (X.move rfl (F.ev 2 (.int .i64 ch))) ?_
    clear F ac
    intro ac F
    refine Y.pcall F (X.w0 rfl) rfl (X.enter (F := 23) rfl (X.kc (.func (.func 23) #[] #[]) rfl) (X.a2 (F.ev 50 (.agg #[.int .i64 gr, .int .i64 hold, .slice na n nc])) (F.ev 51 (.int .i64 ch))) (enters_of Try.func23 (by kernel_rfl) rfl _)) (lasts_any na n nc gr hold ch nd w41 hnd) ?_
    clear F ac
    rintro e w45 ⟨L44, rfl, hA44, hB44, g⟩
    refine ⟨_, rfl, ?_⟩
    intro ac F
    replace G := G.trans g
    replace hC := hC.gr g
    replace hnd := hnd.gr g
    clear g
    refine Y.pval F (X.w0 rfl) rfl (X.move rfl (F.ev 52 (.tuple #[.int .i64 L44, .int .i64 (lastE gr hold nd ch)]))) ?_
    clear F ac
    intro ac F
    refine Y.pval F (X.w0 rfl) rfl (X.extract rfl (F.ev 49 (.tuple #[.int .i64 L44, .int .i64 (lastE gr hold nd ch)])) rfl) ?_
    clear F ac
    intro ac F
    refine Y.pval F (X.w0 rfl) rfl (X.extract rfl (F.ev 49 (.tuple #[.int .i64 L44, .int .i64 (lastE gr hold nd ch)])) rfl) ?_
    clear F ac
    intro ac F
    refine Y.pval F (X.w0 rfl) rfl (X.assign rfl (F.ev 53 (.int .i64 L44))) ?_
    clear F ac
    intro ac F
    refine Y.pval F (X.w0 rfl) rfl (X.assign rfl (F.ev 54 (.int .i64 (lastE gr hold nd ch)))) ?_
    clear F ac
    intro ac F
    refine Y.nil ?_
    replace F : Fr ac 72 [(0, .agg #[.int .i64 gr, .int .i64 hold, .slice na n nc]), (1, .int .i64 t), (2, .int .i64 ch), (3, .pointer (some ⟨w.heap.size, 0, none⟩)), (6, .bool false), (7, .int .i64 L44), (8, .int .i64 (lastE gr hold nd ch)), (9, .int .i64 (parkV gr hold nd t)), (10, .int .i64 (ticksE gr hold nd t)), (16, .bool false), (37, .bool false), (47, .bool false)] := F.sub _
    refine X.thenN ?_
    refine Y.seq ?_
    refine Y.lit (by kernel_rfl) ?_
    refine Y.pval F (X.w0 rfl) rfl (X.load rfl (F.ev 3 (.pointer (some ⟨w.heap.size, 0, none⟩))) (X.ldN (Try.agg24 _) (Try.siz24 _) (Y.atz (⟨w.heap.size, 0, none⟩) (Y.AtFrom.cons (hC.at 0 rfl) (Y.AtFrom.cons (hC.at 1 rfl) (Y.AtFrom.cons (hC.at 2 rfl) (Y.AtFrom.nil _ _ _))))))) ?_
    clear F ac
    intro ac F
    refine Y.pval F (X.w0 rfl) rfl (X.move rfl (F.ev 2 (.int .i64 ch))) ?_
    clear F ac
    intro ac F
    refine Y.pcall F (X.w0 rfl) rfl (X.enter (F := 24) rfl (X.kc (.func (.func 24) #[] #[]) rfl) (X.a2 (F.ev 56 (.agg #[.int .i64 gr, .int .i64 hold, .slice na n nc])) (F.ev 57 (.int .i64 ch))) (enters_of Try.func24 (by kernel_rfl) rfl _)) (lasts2_any na n nc gr hold ch nd w45 hnd) ?_
    clear F ac
    rintro e w48 ⟨L47, rfl, hA47, hB47, g⟩
    refine ⟨_, rfl, ?_⟩
    intro ac F
    replace G := G.trans g
    replace hC := hC.gr g
    replace hnd := hnd.gr g
    clear g
    refine Y.pval F (X.w0 rfl) rfl (X.move rfl (F.ev 58 (.tuple #[.int .i64 L47, .int .i64 (lastE gr hold nd ch)]))) ?_
    clear F ac
    intro ac F
    refine Y.pval F (X.w0 rfl) rfl (X.extract rfl (F.ev 55 (.tuple #[.int .i64 L47, .int .i64 (lastE gr hold nd ch)])) rfl) ?_
    clear F ac
    intro ac F
    refine Y.pval F (X.w0 rfl) rfl (X.extract rfl (F.ev 55 (.tuple #[.int .i64 L47, .int .i64 (lastE gr hold nd ch)])) rfl) ?_
    clear F ac
    intro ac F
    refine Y.pval F (X.w0 rfl) rfl (X.assign rfl (F.ev 59 (.int .i64 L47))) ?_
    clear F ac
    intro ac F
    refine Y.pval F (X.w0 rfl) rfl (X.assign rfl (F.ev 60 (.int .i64 (lastE gr hold nd ch)))) ?_
    clear F ac
    intro ac F
    refine Y.nil ?_
    replace F : Fr ac 72 [(0, .agg #[.int .i64 gr, .int .i64 hold, .slice na n nc]), (1, .int .i64 t), (2, .int .i64 ch), (3, .pointer (some ⟨w.heap.size, 0, none⟩)), (6, .bool false), (7, .int .i64 L44), (8, .int .i64 (lastE gr hold nd ch)), (9, .int .i64 L47), (10, .int .i64 (lastE gr hold nd ch)), (16, .bool false), (37, .bool false), (47, .bool false)] := F.sub _
    refine X.thenN ?_
    refine Y.seq ?_
    refine Y.lit (by kernel_rfl) ?_
    refine Y.pval F (X.w0 rfl) rfl (X.move rfl (F.ev 7 (.int .i64 L44))) ?_
    clear F ac
    intro ac F
    refine Y.pval F (X.w0 rfl) rfl (X.move rfl (F.ev 9 (.int .i64 L47))) ?_
    clear F ac
    intro ac F
    refine Y.pval F (X.w0 rfl) rfl (X.binop rfl (F.ev 61 (.int .i64 L44)) (F.ev 62 (.int .i64 L47)) (X.eqlI Try.underlying3 rfl)) ?_
    clear F ac
    intro ac F
    refine Y.pval F (X.w0 rfl) rfl (X.move rfl (F.ev 63 (.bool ((L44 : Int) == L47)))) ?_
    clear F ac
    intro ac F
    have h50 : ((L44 : Int) == L47) = true := beq_iff_eq.2 (last_same hA44 hB44 hA47 hB47)
    try rw [h50] at F
    refine Y.pval F (X.w1 rfl (F.yl (j := 3) (d := 64) (b := true) rfl (by kernel_rfl))) rfl (X.move rfl (F.ev 8 (.int .i64 (lastE gr hold nd ch)))) ?_
    clear F ac
    intro ac F
    refine Y.pval F (X.w1 rfl (F.yl (j := 3) (d := 64) (b := true) rfl (by kernel_rfl))) rfl (X.move rfl (F.ev 10 (.int .i64 (lastE gr hold nd ch)))) ?_
    clear F ac
    intro ac F
    refine Y.pval F (X.w1 rfl (F.yl (j := 3) (d := 64) (b := true) rfl (by kernel_rfl))) rfl (X.binop rfl (F.ev 65 (.int .i64 (lastE gr hold nd ch))) (F.ev 66 (.int .i64 (lastE gr hold nd ch))) (X.eqlI Try.underlying26 (show ((lastE gr hold nd ch : Int) == (lastE gr hold nd ch)) = true by simp))) ?_
    clear F ac
    intro ac F
    refine Y.pval F (X.w0 rfl) rfl (X.pickT rfl (F.ev 64 (.bool true)) (F.ev 67 (.bool true))) ?_
    clear F ac
    intro ac F
    refine Y.pval F (X.w0 rfl) rfl (X.move rfl (F.ev 68 (.bool true))) ?_
    clear F ac
    intro ac F
    refine Y.pcall F (X.w1 rfl (F.yl (j := 8) (d := 69) (b := true) rfl (by kernel_rfl))) rfl (X.enter (F := 16) rfl (X.kc (.func (.func 16) #[] #[]) rfl) rfl (enters_of Try.func16 (by kernel_rfl) rfl _)) (works_any w48) ?_
    clear F ac
    rintro e w52 ⟨rfl, g⟩
    refine ⟨_, rfl, ?_⟩
    intro ac F
    replace G := G.trans g
    replace hC := hC.gr g
    replace hnd := hnd.gr g
    clear g
    refine Y.pval F (X.w0 rfl) rfl (X.pickT rfl (F.ev 69 (.bool true)) (F.ev 70 (.bool true))) ?_
    clear F ac
    intro ac F
    refine Y.pval F (X.w0 rfl) rfl (X.assign rfl (F.ev 71 (.bool true))) ?_
    clear F ac
    intro ac F
    refine Y.nil ?_
    replace F : Fr ac 72 [(0, .agg #[.int .i64 gr, .int .i64 hold, .slice na n nc]), (1, .int .i64 t), (2, .int .i64 ch), (3, .pointer (some ⟨w.heap.size, 0, none⟩)), (6, .bool true), (7, .int .i64 L44), (8, .int .i64 (lastE gr hold nd ch)), (9, .int .i64 L47), (10, .int .i64 (lastE gr hold nd ch)), (16, .bool false), (37, .bool false), (47, .bool false)] := F.sub _
    refine X.thenN ?_
    refine Y.ret ?_
    exact Y.ret0 (v := .bool true) F (Y.rs1 F rfl (by kernel_rfl)) ⟨rfl, G⟩
   | true =>
    try rw [h42] at F
    have h42p : ((2 : Int) < n) := of_decide_eq_true h42
    refine Y.pval F (X.w1 rfl (F.yl (j := 4) (d := 42) (b := true) rfl (by kernel_rfl))) rfl (X.field rfl (F.ev 3 (.pointer (some ⟨w.heap.size, 0, none⟩))) (X.fld Try.underlying24 rfl (Try.siz22 _) rfl rfl)) ?_
    clear F ac
    intro ac F
    refine Y.pval F (X.w1 rfl (F.yl (j := 4) (d := 42) (b := true) rfl (by kernel_rfl))) rfl (X.load rfl (F.ev 43 (.pointer (some ⟨w.heap.size, 2, none⟩))) (X.ld1 (Try.agg22 _) (hC.at 2 rfl))) ?_
    clear F ac
    intro ac F
    refine Y.pval F (X.w1 rfl (F.yl (j := 4) (d := 42) (b := true) rfl (by kernel_rfl))) rfl (X.len1 Try.underlying22 rfl (F.ev 44 (.slice na n nc))) ?_
    clear F ac
    intro ac F
    refine Y.pval F (X.w1 rfl (F.yl (j := 4) (d := 42) (b := true) rfl (by kernel_rfl))) rfl (X.binop rfl (F.ev 45 (.int .i64 n)) (X.kc (.int .i64 16) rfl) (X.leqI Try.underlying3 rfl)) ?_
    clear F ac
    intro ac F
    refine Y.pval F (X.w0 rfl) rfl (X.pickT rfl (F.ev 42 (.bool true)) (F.ev 46 (.bool (decide ((n : Int) ≤ 16))))) ?_
    clear F ac
    intro ac F
    refine Y.nil ?_
    replace F : Fr ac 72 [(0, .agg #[.int .i64 gr, .int .i64 hold, .slice na n nc]), (1, .int .i64 t), (2, .int .i64 ch), (3, .pointer (some ⟨w.heap.size, 0, none⟩)), (6, .bool false), (7, .int .i64 (parkV gr hold nd t)), (8, .int .i64 (ticksE gr hold nd t)), (9, .int .i64 (parkV gr hold nd t)), (10, .int .i64 (ticksE gr hold nd t)), (16, .bool false), (37, .bool false), (47, .bool (decide ((n : Int) ≤ 16)))] := F.sub _
    refine X.thenN ?_
    cases h53 : decide ((n : Int) ≤ 16) with
    | false =>
     try rw [h53] at F
     have h53p : ¬ ((n : Int) ≤ 16) := of_decide_eq_false h53
     refine Y.condF (F.ev 47 (.bool false)) ?_
     refine Y.skip ?_
     refine X.thenN ?_
     refine Y.seq ?_
     refine Y.lit (by kernel_rfl) ?_
     refine Y.pval F (X.w0 rfl) rfl (X.load rfl (F.ev 3 (.pointer (some ⟨w.heap.size, 0, none⟩))) (X.ldN (Try.agg24 _) (Try.siz24 _) (Y.atz (⟨w.heap.size, 0, none⟩) (Y.AtFrom.cons (hC.at 0 rfl) (Y.AtFrom.cons (hC.at 1 rfl) (Y.AtFrom.cons (hC.at 2 rfl) (Y.AtFrom.nil _ _ _))))))) ?_
     clear F ac
     intro ac F
     refine Y.pval F (X.w0 rfl) rfl (X.move rfl (F.ev 2 (.int .i64 ch))) ?_
     clear F ac
     intro ac F
     refine Y.pcall F (X.w0 rfl) rfl (X.enter (F := 23) rfl (X.kc (.func (.func 23) #[] #[]) rfl) (X.a2 (F.ev 50 (.agg #[.int .i64 gr, .int .i64 hold, .slice na n nc])) (F.ev 51 (.int .i64 ch))) (enters_of Try.func23 (by kernel_rfl) rfl _)) (lasts_any na n nc gr hold ch nd w41 hnd) ?_
     clear F ac
     rintro e w56 ⟨L55, rfl, hA55, hB55, g⟩
     refine ⟨_, rfl, ?_⟩
     intro ac F
     replace G := G.trans g
     replace hC := hC.gr g
     replace hnd := hnd.gr g
     clear g
     refine Y.pval F (X.w0 rfl) rfl (X.move rfl (F.ev 52 (.tuple #[.int .i64 L55, .int .i64 (lastE gr hold nd ch)]))) ?_
     clear F ac
     intro ac F
     refine Y.pval F (X.w0 rfl) rfl (X.extract rfl (F.ev 49 (.tuple #[.int .i64 L55, .int .i64 (lastE gr hold nd ch)])) rfl) ?_
     clear F ac
     intro ac F
     refine Y.pval F (X.w0 rfl) rfl (X.extract rfl (F.ev 49 (.tuple #[.int .i64 L55, .int .i64 (lastE gr hold nd ch)])) rfl) ?_
     clear F ac
     intro ac F
     refine Y.pval F (X.w0 rfl) rfl (X.assign rfl (F.ev 53 (.int .i64 L55))) ?_
     clear F ac
     intro ac F
     refine Y.pval F (X.w0 rfl) rfl (X.assign rfl (F.ev 54 (.int .i64 (lastE gr hold nd ch)))) ?_
     clear F ac
     intro ac F
     refine Y.nil ?_
     replace F : Fr ac 72 [(0, .agg #[.int .i64 gr, .int .i64 hold, .slice na n nc]), (1, .int .i64 t), (2, .int .i64 ch), (3, .pointer (some ⟨w.heap.size, 0, none⟩)), (6, .bool false), (7, .int .i64 L55), (8, .int .i64 (lastE gr hold nd ch)), (9, .int .i64 (parkV gr hold nd t)), (10, .int .i64 (ticksE gr hold nd t)), (16, .bool false), (37, .bool false), (47, .bool false)] := F.sub _
     refine X.thenN ?_
     refine Y.seq ?_
     refine Y.lit (by kernel_rfl) ?_
     refine Y.pval F (X.w0 rfl) rfl (X.load rfl (F.ev 3 (.pointer (some ⟨w.heap.size, 0, none⟩))) (X.ldN (Try.agg24 _) (Try.siz24 _) (Y.atz (⟨w.heap.size, 0, none⟩) (Y.AtFrom.cons (hC.at 0 rfl) (Y.AtFrom.cons (hC.at 1 rfl) (Y.AtFrom.cons (hC.at 2 rfl) (Y.AtFrom.nil _ _ _))))))) ?_
     clear F ac
     intro ac F
     refine Y.pval F (X.w0 rfl) rfl (X.move rfl (F.ev 2 (.int .i64 ch))) ?_
     clear F ac
     intro ac F
     refine Y.pcall F (X.w0 rfl) rfl (X.enter (F := 24) rfl (X.kc (.func (.func 24) #[] #[]) rfl) (X.a2 (F.ev 56 (.agg #[.int .i64 gr, .int .i64 hold, .slice na n nc])) (F.ev 57 (.int .i64 ch))) (enters_of Try.func24 (by kernel_rfl) rfl _)) (lasts2_any na n nc gr hold ch nd w56 hnd) ?_
     clear F ac
     rintro e w59 ⟨L58, rfl, hA58, hB58, g⟩
     refine ⟨_, rfl, ?_⟩
     intro ac F
     replace G := G.trans g
     replace hC := hC.gr g
     replace hnd := hnd.gr g
     clear g
     refine Y.pval F (X.w0 rfl) rfl (X.move rfl (F.ev 58 (.tuple #[.int .i64 L58, .int .i64 (lastE gr hold nd ch)]))) ?_
     clear F ac
     intro ac F
     refine Y.pval F (X.w0 rfl) rfl (X.extract rfl (F.ev 55 (.tuple #[.int .i64 L58, .int .i64 (lastE gr hold nd ch)])) rfl) ?_
     clear F ac
     intro ac F
     refine Y.pval F (X.w0 rfl) rfl (X.extract rfl (F.ev 55 (.tuple #[.int .i64 L58, .int .i64 (lastE gr hold nd ch)])) rfl) ?_
     clear F ac
     intro ac F
     refine Y.pval F (X.w0 rfl) rfl (X.assign rfl (F.ev 59 (.int .i64 L58))) ?_
     clear F ac
     intro ac F
     refine Y.pval F (X.w0 rfl) rfl (X.assign rfl (F.ev 60 (.int .i64 (lastE gr hold nd ch)))) ?_
     clear F ac
     intro ac F
     refine Y.nil ?_
     replace F : Fr ac 72 [(0, .agg #[.int .i64 gr, .int .i64 hold, .slice na n nc]), (1, .int .i64 t), (2, .int .i64 ch), (3, .pointer (some ⟨w.heap.size, 0, none⟩)), (6, .bool false), (7, .int .i64 L55), (8, .int .i64 (lastE gr hold nd ch)), (9, .int .i64 L58), (10, .int .i64 (lastE gr hold nd ch)), (16, .bool false), (37, .bool false), (47, .bool false)] := F.sub _
     refine X.thenN ?_
     refine Y.seq ?_
     refine Y.lit (by kernel_rfl) ?_
     refine Y.pval F (X.w0 rfl) rfl (X.move rfl (F.ev 7 (.int .i64 L55))) ?_
     clear F ac
     intro ac F
     refine Y.pval F (X.w0 rfl) rfl (X.move rfl (F.ev 9 (.int .i64 L58))) ?_
     clear F ac
     intro ac F
     refine Y.pval F (X.w0 rfl) rfl (X.binop rfl (F.ev 61 (.int .i64 L55)) (F.ev 62 (.int .i64 L58)) (X.eqlI Try.underlying3 rfl)) ?_
     clear F ac
     intro ac F
     refine Y.pval F (X.w0 rfl) rfl (X.move rfl (F.ev 63 (.bool ((L55 : Int) == L58)))) ?_
     clear F ac
     intro ac F
     have h61 : ((L55 : Int) == L58) = true := beq_iff_eq.2 (last_same hA55 hB55 hA58 hB58)
     try rw [h61] at F
     refine Y.pval F (X.w1 rfl (F.yl (j := 3) (d := 64) (b := true) rfl (by kernel_rfl))) rfl (X.move rfl (F.ev 8 (.int .i64 (lastE gr hold nd ch)))) ?_
     clear F ac
     intro ac F
     refine Y.pval F (X.w1 rfl (F.yl (j := 3) (d := 64) (b := true) rfl (by kernel_rfl))) rfl (X.move rfl (F.ev 10 (.int .i64 (lastE gr hold nd ch)))) ?_
     clear F ac
     intro ac F
     refine Y.pval F (X.w1 rfl (F.yl (j := 3) (d := 64) (b := true) rfl (by kernel_rfl))) rfl (X.binop rfl (F.ev 65 (.int .i64 (lastE gr hold nd ch))) (F.ev 66 (.int .i64 (lastE gr hold nd ch))) (X.eqlI Try.underlying26 (show ((lastE gr hold nd ch : Int) == (lastE gr hold nd ch)) = true by simp))) ?_
     clear F ac
     intro ac F
     refine Y.pval F (X.w0 rfl) rfl (X.pickT rfl (F.ev 64 (.bool true)) (F.ev 67 (.bool true))) ?_
     clear F ac
     intro ac F
     refine Y.pval F (X.w0 rfl) rfl (X.move rfl (F.ev 68 (.bool true))) ?_
     clear F ac
     intro ac F
     refine Y.pcall F (X.w1 rfl (F.yl (j := 8) (d := 69) (b := true) rfl (by kernel_rfl))) rfl (X.enter (F := 16) rfl (X.kc (.func (.func 16) #[] #[]) rfl) rfl (enters_of Try.func16 (by kernel_rfl) rfl _)) (works_any w59) ?_
     clear F ac
     rintro e w63 ⟨rfl, g⟩
     refine ⟨_, rfl, ?_⟩
     intro ac F
     replace G := G.trans g
     replace hC := hC.gr g
     replace hnd := hnd.gr g
     clear g
     refine Y.pval F (X.w0 rfl) rfl (X.pickT rfl (F.ev 69 (.bool true)) (F.ev 70 (.bool true))) ?_
     clear F ac
     intro ac F
     refine Y.pval F (X.w0 rfl) rfl (X.assign rfl (F.ev 71 (.bool true))) ?_
     clear F ac
     intro ac F
     refine Y.nil ?_
     replace F : Fr ac 72 [(0, .agg #[.int .i64 gr, .int .i64 hold, .slice na n nc]), (1, .int .i64 t), (2, .int .i64 ch), (3, .pointer (some ⟨w.heap.size, 0, none⟩)), (6, .bool true), (7, .int .i64 L55), (8, .int .i64 (lastE gr hold nd ch)), (9, .int .i64 L58), (10, .int .i64 (lastE gr hold nd ch)), (16, .bool false), (37, .bool false), (47, .bool false)] := F.sub _
     refine X.thenN ?_
     refine Y.ret ?_
     exact Y.ret0 (v := .bool true) F (Y.rs1 F rfl (by kernel_rfl)) ⟨rfl, G⟩
    | true =>
     try rw [h53] at F
     have h53p : ((n : Int) ≤ 16) := of_decide_eq_true h53
     refine Y.condT (F.ev 47 (.bool true)) ?_
     refine Y.seq ?_
     refine Y.lit (by kernel_rfl) ?_
     refine Y.pcall F (X.w0 rfl) rfl (X.enter (F := 16) rfl (X.kc (.func (.func 16) #[] #[]) rfl) rfl (enters_of Try.func16 (by kernel_rfl) rfl _)) (works_any w41) ?_
     clear F ac
     rintro e w65 ⟨rfl, g⟩
     refine ⟨_, rfl, ?_⟩
     intro ac F
     replace G := G.trans g
     replace hC := hC.gr g
     replace hnd := hnd.gr g
     clear g
     refine Y.pval F (X.w0 rfl) rfl (X.assign rfl (F.ev 48 (.bool true))) ?_
     clear F ac
     intro ac F
     refine Y.nil ?_
     replace F : Fr ac 72 [(0, .agg #[.int .i64 gr, .int .i64 hold, .slice na n nc]), (1, .int .i64 t), (2, .int .i64 ch), (3, .pointer (some ⟨w.heap.size, 0, none⟩)), (6, .bool true), (7, .int .i64 (parkV gr hold nd t)), (8, .int .i64 (ticksE gr hold nd t)), (9, .int .i64 (parkV gr hold nd t)), (10, .int .i64 (ticksE gr hold nd t)), (16, .bool false), (37, .bool false), (47, .bool true)] := F.sub _
     refine X.thenN ?_
     refine Y.ret ?_
     refine X.thenR ?_
     exact Y.ret0 (v := .bool true) F (Y.rs1 F rfl (by kernel_rfl)) ⟨rfl, G⟩
  | true =>
   try rw [h35] at F
   have h35p : ((t : Int) ≤ 1000) := of_decide_eq_true h35
   refine Y.condT (F.ev 16 (.bool true)) ?_
   refine Y.seq ?_
   refine Y.lit (by kernel_rfl) ?_
   refine Y.pcall F (X.w0 rfl) rfl (X.enter (F := 16) rfl (X.kc (.func (.func 16) #[] #[]) rfl) rfl (enters_of Try.func16 (by kernel_rfl) rfl _)) (works_any w3) ?_
   clear F ac
   rintro e w67 ⟨rfl, g⟩
   refine ⟨_, rfl, ?_⟩
   intro ac F
   replace G := G.trans g
   replace hC := hC.gr g
   replace hnd := hnd.gr g
   clear g
   refine Y.pval F (X.w0 rfl) rfl (X.assign rfl (F.ev 17 (.bool true))) ?_
   clear F ac
   intro ac F
   refine Y.nil ?_
   replace F : Fr ac 72 [(0, .agg #[.int .i64 gr, .int .i64 hold, .slice na n nc]), (1, .int .i64 t), (2, .int .i64 ch), (3, .pointer (some ⟨w.heap.size, 0, none⟩)), (6, .bool true), (16, .bool true)] := F.sub _
   refine X.thenN ?_
   refine Y.ret ?_
   refine X.thenR ?_
   exact Y.ret0 (v := .bool true) F (Y.rs1 F rfl (by kernel_rfl)) ⟨rfl, G⟩
end Go.Proofs.Ytoalamakhjbedaa
