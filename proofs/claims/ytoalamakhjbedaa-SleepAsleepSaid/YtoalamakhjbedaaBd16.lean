/- Contract: SleepAsleep returns true. -/
import Derived.Test.YtoalamakhjbedaaBd4
import Derived.Test.YtoalamakhjbedaaBd10
import Derived.Test.YtoalamakhjbedaaBd11
import Derived.Test.YtoalamakhjbedaaBd15
namespace Go.Proofs.Ytoalamakhjbedaa
open Go.RowKit

theorem en_all {gr hold t : Int} {nd l : List (List Int)} (hE : playE gr hold nd t l = 0) {i : Nat} (hi : i < nd.length) : (playEn gr hold nd t l)[i]?.getD 0 = enS nd ((playRows gr hold nd t l).take t.toNat) i := by
  rw [List.take_of_length_le (by rw [playRows_len hE]; exact Nat.le_refl _)]
  unfold playEn playRows
  rw [if_pos hE, if_pos hE]
  simp [hi]

set_option maxRecDepth 100000 in
set_option maxHeartbeats 1000000 in
theorem asleep_any (na la : Option Addr) (n nc m lc : Nat) (gr hold t : Int) (nd l : List (List Int)) (w : World) (hnd : StAt w 5 na n nd) (hl : StAt w 4 la m l) :
  Calls Try.prog 4 #[.agg #[.int .i64 gr, .int .i64 hold, .slice na n nc], .int .i64 t, .slice la m lc] w fun e w' => e = .returned (.bool true) ∧ Gr w w' := by
 have G := Gr.refl w
 have hlen := hnd.len
 have hll := hl.len
 have hlt := hnd.lt
 have hlt2 := hl.lt
 refine Y.calls 188 Try.func4 rfl rfl ?_
 intro ac F0
 have F : Fr ac 188 [(0, .agg #[.int .i64 gr, .int .i64 hold, .slice na n nc]), (1, .int .i64 t), (2, .slice la m lc)] := F0.sub _
 clear F0
 refine Y.seq ?_
 refine Y.lit (by kernel_rfl) ?_
 refine Y.pval F (X.w0 rfl) rfl (X.box rfl (F.ev 0 (.agg #[.int .i64 gr, .int .i64 hold, .slice na n nc])) X.bx) ?_
 clear F ac
 intro ac F
 have g := Gr.alloc w (.cells #[.int .i64 gr, .int .i64 hold, .slice na n nc] 24)
 have hb := heap_alloc_new w (.cells #[.int .i64 gr, .int .i64 hold, .slice na n nc] 24)
 have hbl : w.heap.size < (w.alloc (.cells #[.int .i64 gr, .int .i64 hold, .slice na n nc] 24)).heap.size := by simp
 have hC2 : RCells (w.alloc (.cells #[.int .i64 gr, .int .i64 hold, .slice na n nc] 24)) [(⟨w.heap.size, 0, none⟩, .int .i64 gr), (⟨w.heap.size, 1, none⟩, .int .i64 hold), (⟨w.heap.size, 2, none⟩, .slice na n nc)] := (RCells.nil w).box (b := w.heap.size) #[.int .i64 gr, .int .i64 hold, .slice na n nc] 24 rfl
 generalize w.alloc (.cells #[.int .i64 gr, .int .i64 hold, .slice na n nc] 24) = w3 at *
 replace G := G.trans g
 have hC := hC2
 clear hC2
 replace hnd := hnd.gr g
 replace hl := hl.gr g
 clear g hb hbl
 refine Y.pval F (X.w0 rfl) rfl (X.assign rfl (X.kc (.bool false) rfl)) ?_
 clear F ac
 intro ac F
 refine Y.nil ?_
 replace F : Fr ac 188 [(0, .agg #[.int .i64 gr, .int .i64 hold, .slice na n nc]), (1, .int .i64 t), (2, .slice la m lc), (3, .pointer (some ⟨w.heap.size, 0, none⟩)), (6, .bool false)] := F.sub _
 refine X.thenN ?_
 refine Y.seq ?_
 refine Y.seq ?_
 refine Y.lit (by kernel_rfl) ?_
 refine Y.pval F (X.w0 rfl) rfl (X.move rfl (F.ev 1 (.int .i64 t))) ?_
 clear F ac
 intro ac F
 refine Y.pval F (X.w0 rfl) rfl (X.binop rfl (F.ev 18 (.int .i64 t)) (X.kc (.int .i64 100) rfl) (X.gtrI Try.underlying3 rfl)) ?_
 clear F ac
 intro ac F
 refine Y.nil ?_
 replace F : Fr ac 188 [(0, .agg #[.int .i64 gr, .int .i64 hold, .slice na n nc]), (1, .int .i64 t), (2, .slice la m lc), (3, .pointer (some ⟨w.heap.size, 0, none⟩)), (6, .bool false), (19, .bool (decide ((100 : Int) < t)))] := F.sub _
 refine X.thenN ?_
 cases h4 : decide ((100 : Int) < t) with
 | false =>
  try rw [h4] at F
  have h4p : ¬ ((100 : Int) < t) := of_decide_eq_false h4
  refine Y.condF (F.ev 19 (.bool false)) ?_
  refine Y.skip ?_
  refine X.thenN ?_
  refine Y.seq ?_
  refine Y.lit (by kernel_rfl) ?_
  refine Y.pval F (X.w0 rfl) rfl (X.load rfl (F.ev 3 (.pointer (some ⟨w.heap.size, 0, none⟩))) (X.ldN (Try.agg24 _) (Try.siz24 _) (Y.atz (⟨w.heap.size, 0, none⟩) (Y.AtFrom.cons (hC.at 0 rfl) (Y.AtFrom.cons (hC.at 1 rfl) (Y.AtFrom.cons (hC.at 2 rfl) (Y.AtFrom.nil _ _ _))))))) ?_
  clear F ac
  intro ac F
  refine Y.pval F (X.w0 rfl) rfl (X.move rfl (F.ev 1 (.int .i64 t))) ?_
  clear F ac
  intro ac F
  refine Y.pval F (X.w0 rfl) rfl (X.move rfl (F.ev 2 (.slice la m lc))) ?_
  clear F ac
  intro ac F
  refine Y.pcall F (X.w0 rfl) rfl (X.enter (F := 18) rfl (X.kc (.func (.func 18) #[] #[]) rfl) (X.a3 (F.ev 22 (.agg #[.int .i64 gr, .int .i64 hold, .slice na n nc])) (F.ev 23 (.int .i64 t)) (F.ev 24 (.slice la m lc))) (enters_of Try.func18 (by kernel_rfl) rfl _)) (play_any na la n nc m lc gr hold t nd l w3 hnd hl) ?_
  clear F ac
  rintro e w6 ⟨ra5, rn5, rc5, ea5, en5, ec5, rfl, hr5, he5, g⟩
  refine ⟨_, rfl, ?_⟩
  intro ac F
  replace G := G.trans g
  replace hC := hC.gr g
  replace hnd := hnd.gr g
  replace hl := hl.gr g
  clear g
  refine Y.pval F (X.w0 rfl) rfl (X.move rfl (F.ev 25 (.tuple #[.slice ra5 rn5 rc5, .slice ea5 en5 ec5, .int .i64 (playE gr hold nd t l)]))) ?_
  clear F ac
  intro ac F
  refine Y.pval F (X.w0 rfl) rfl (X.extract rfl (F.ev 21 (.tuple #[.slice ra5 rn5 rc5, .slice ea5 en5 ec5, .int .i64 (playE gr hold nd t l)])) rfl) ?_
  clear F ac
  intro ac F
  refine Y.pval F (X.w0 rfl) rfl (X.extract rfl (F.ev 21 (.tuple #[.slice ra5 rn5 rc5, .slice ea5 en5 ec5, .int .i64 (playE gr hold nd t l)])) rfl) ?_
  clear F ac
  intro ac F
  refine Y.pval F (X.w0 rfl) rfl (X.extract rfl (F.ev 21 (.tuple #[.slice ra5 rn5 rc5, .slice ea5 en5 ec5, .int .i64 (playE gr hold nd t l)])) rfl) ?_
  clear F ac
  intro ac F
  refine Y.pval F (X.w0 rfl) rfl (X.assign rfl (F.ev 26 (.slice ra5 rn5 rc5))) ?_
  clear F ac
  intro ac F
  refine Y.pval F (X.w0 rfl) rfl (X.assign rfl (F.ev 27 (.slice ea5 en5 ec5))) ?_
  clear F ac
  intro ac F
  refine Y.pval F (X.w0 rfl) rfl (X.assign rfl (F.ev 28 (.int .i64 (playE gr hold nd t l)))) ?_
  clear F ac
  intro ac F
  refine Y.nil ?_
  replace F : Fr ac 188 [(0, .agg #[.int .i64 gr, .int .i64 hold, .slice na n nc]), (1, .int .i64 t), (2, .slice la m lc), (3, .pointer (some ⟨w.heap.size, 0, none⟩)), (6, .bool false), (7, .slice ra5 rn5 rc5), (8, .slice ea5 en5 ec5), (9, .int .i64 (playE gr hold nd t l)), (19, .bool false)] := F.sub _
  refine X.thenN ?_
  refine Y.seq ?_
  refine Y.lit (by kernel_rfl) ?_
  refine Y.pval F (X.w0 rfl) rfl (X.load rfl (F.ev 3 (.pointer (some ⟨w.heap.size, 0, none⟩))) (X.ldN (Try.agg24 _) (Try.siz24 _) (Y.atz (⟨w.heap.size, 0, none⟩) (Y.AtFrom.cons (hC.at 0 rfl) (Y.AtFrom.cons (hC.at 1 rfl) (Y.AtFrom.cons (hC.at 2 rfl) (Y.AtFrom.nil _ _ _))))))) ?_
  clear F ac
  intro ac F
  refine Y.pval F (X.w0 rfl) rfl (X.move rfl (F.ev 1 (.int .i64 t))) ?_
  clear F ac
  intro ac F
  refine Y.pval F (X.w0 rfl) rfl (X.move rfl (F.ev 2 (.slice la m lc))) ?_
  clear F ac
  intro ac F
  refine Y.pcall F (X.w0 rfl) rfl (X.enter (F := 19) rfl (X.kc (.func (.func 19) #[] #[]) rfl) (X.a3 (F.ev 30 (.agg #[.int .i64 gr, .int .i64 hold, .slice na n nc])) (F.ev 31 (.int .i64 t)) (F.ev 32 (.slice la m lc))) (enters_of Try.func19 (by kernel_rfl) rfl _)) (asked_any na la n nc m lc gr hold t nd l w6 hnd hl) ?_
  clear F ac
  rintro e w8 ⟨ka7, kn7, kc7, rfl, hk7, g⟩
  refine ⟨_, rfl, ?_⟩
  intro ac F
  replace G := G.trans g
  replace hC := hC.gr g
  replace hnd := hnd.gr g
  replace hl := hl.gr g
  replace hr5 := hr5.gr g
  replace he5 := he5.gr g
  clear g
  refine Y.pval F (X.w0 rfl) rfl (X.move rfl (F.ev 33 (.tuple #[.slice ka7 kn7 kc7, .int .i64 (playE gr hold nd t l)]))) ?_
  clear F ac
  intro ac F
  refine Y.pval F (X.w0 rfl) rfl (X.extract rfl (F.ev 29 (.tuple #[.slice ka7 kn7 kc7, .int .i64 (playE gr hold nd t l)])) rfl) ?_
  clear F ac
  intro ac F
  refine Y.pval F (X.w0 rfl) rfl (X.extract rfl (F.ev 29 (.tuple #[.slice ka7 kn7 kc7, .int .i64 (playE gr hold nd t l)])) rfl) ?_
  clear F ac
  intro ac F
  refine Y.pval F (X.w0 rfl) rfl (X.assign rfl (F.ev 34 (.slice ka7 kn7 kc7))) ?_
  clear F ac
  intro ac F
  refine Y.pval F (X.w0 rfl) rfl (X.assign rfl (F.ev 35 (.int .i64 (playE gr hold nd t l)))) ?_
  clear F ac
  intro ac F
  refine Y.nil ?_
  replace F : Fr ac 188 [(0, .agg #[.int .i64 gr, .int .i64 hold, .slice na n nc]), (1, .int .i64 t), (2, .slice la m lc), (3, .pointer (some ⟨w.heap.size, 0, none⟩)), (6, .bool false), (7, .slice ra5 rn5 rc5), (8, .slice ea5 en5 ec5), (9, .int .i64 (playE gr hold nd t l)), (10, .slice ka7 kn7 kc7), (11, .int .i64 (playE gr hold nd t l)), (19, .bool false)] := F.sub _
  refine X.thenN ?_
  refine Y.seq ?_
  refine Y.seq ?_
  refine Y.lit (by kernel_rfl) ?_
  refine Y.pval F (X.w0 rfl) rfl (X.move rfl (F.ev 9 (.int .i64 (playE gr hold nd t l)))) ?_
  clear F ac
  intro ac F
  refine Y.pval F (X.w0 rfl) rfl (X.binop rfl (F.ev 36 (.int .i64 (playE gr hold nd t l))) (X.kc (.int .i64 0) rfl) (X.neqI Try.underlying26 rfl)) ?_
  clear F ac
  intro ac F
  refine Y.pval F (X.w0 rfl) rfl (X.move rfl (F.ev 37 (.bool ((playE gr hold nd t l : Int) != 0)))) ?_
  clear F ac
  intro ac F
  cases h9 : ((playE gr hold nd t l : Int) != 0) with
  | false =>
   try rw [h9] at F
   have h9p : (playE gr hold nd t l : Int) = 0 := by simpa using h9
   have hok := playE_ok h9p
   have hc := hok.c
   have ht0 := hok.t0
   have h16 := hc.n16
   obtain rfl : rn5 = t.toNat := by have h8 := (by have h9 := hr5.len; rw [playRows_len h9p] at h9; exact h9); exact h8.symm
   obtain rfl : n = en5 := by have h9 := he5.len; rw [playEn_len h9p, hlen] at h9; exact h9
   obtain rfl : kn7 = t.toNat := by have h8 := (by have h9 := hk7.len; rw [playAsk_len h9p] at h9; exact h9); exact h8.symm
   have hh1 := hc.h1
   have hh2 := hc.h100
   refine Y.pval F (X.w1 rfl (F.yl (j := 2) (d := 38) (b := false) rfl (by kernel_rfl))) rfl (X.move rfl (F.ev 11 (.int .i64 (playE gr hold nd t l)))) ?_
   clear F ac
   intro ac F
   refine Y.pval F (X.w1 rfl (F.yl (j := 2) (d := 38) (b := false) rfl (by kernel_rfl))) rfl (X.binop rfl (F.ev 39 (.int .i64 (playE gr hold nd t l))) (X.kc (.int .i64 0) rfl) (X.neqI Try.underlying26 h9)) ?_
   clear F ac
   intro ac F
   refine Y.pval F (X.w0 rfl) rfl (X.pickF rfl (F.ev 38 (.bool false)) (F.ev 40 (.bool false))) ?_
   clear F ac
   intro ac F
   refine Y.nil ?_
   replace F : Fr ac 188 [(0, .agg #[.int .i64 gr, .int .i64 hold, .slice na n nc]), (1, .int .i64 t), (2, .slice la m lc), (3, .pointer (some ⟨w.heap.size, 0, none⟩)), (6, .bool false), (7, .slice ra5 t.toNat rc5), (8, .slice ea5 n ec5), (9, .int .i64 (playE gr hold nd t l)), (10, .slice ka7 t.toNat kc7), (11, .int .i64 (playE gr hold nd t l)), (19, .bool false), (41, .bool false)] := F.sub _
   refine X.thenN ?_
   refine Y.condF (F.ev 41 (.bool false)) ?_
   refine Y.skip ?_
   refine X.thenN ?_
   refine Y.seq ?_
   refine Y.seq ?_
   refine Y.lit (by kernel_rfl) ?_
   refine Y.pval F (X.w0 rfl) rfl (X.move rfl (F.ev 7 (.slice ra5 t.toNat rc5))) ?_
   clear F ac
   intro ac F
   refine Y.pval F (X.w0 rfl) rfl (X.len1 Try.underlying34 rfl (F.ev 48 (.slice ra5 t.toNat rc5))) ?_
   clear F ac
   intro ac F
   refine Y.pval F (X.w0 rfl) rfl (X.move rfl (F.ev 1 (.int .i64 t))) ?_
   clear F ac
   intro ac F
   refine Y.pval F (X.w0 rfl) rfl (X.binop rfl (F.ev 49 (.int .i64 t.toNat)) (F.ev 50 (.int .i64 t)) (X.neqI Try.underlying3 rfl)) ?_
   clear F ac
   intro ac F
   refine Y.pval F (X.w0 rfl) rfl (X.move rfl (F.ev 51 (.bool ((t.toNat : Int) != t)))) ?_
   clear F ac
   intro ac F
   have h11 : ((t.toNat : Int) != t) = false := by simp; omega
   try rw [h11] at F
   refine Y.pval F (X.w1 rfl (F.yl (j := 4) (d := 52) (b := false) rfl (by kernel_rfl))) rfl (X.move rfl (F.ev 10 (.slice ka7 t.toNat kc7))) ?_
   clear F ac
   intro ac F
   refine Y.pval F (X.w1 rfl (F.yl (j := 4) (d := 52) (b := false) rfl (by kernel_rfl))) rfl (X.len1 Try.underlying34 rfl (F.ev 53 (.slice ka7 t.toNat kc7))) ?_
   clear F ac
   intro ac F
   refine Y.pval F (X.w1 rfl (F.yl (j := 4) (d := 52) (b := false) rfl (by kernel_rfl))) rfl (X.move rfl (F.ev 1 (.int .i64 t))) ?_
   clear F ac
   intro ac F
   refine Y.pval F (X.w1 rfl (F.yl (j := 4) (d := 52) (b := false) rfl (by kernel_rfl))) rfl (X.binop rfl (F.ev 54 (.int .i64 t.toNat)) (F.ev 55 (.int .i64 t)) (X.neqI Try.underlying3 h11)) ?_
   clear F ac
   intro ac F
   refine Y.pval F (X.w0 rfl) rfl (X.pickF rfl (F.ev 52 (.bool false)) (F.ev 56 (.bool false))) ?_
   clear F ac
   intro ac F
   refine Y.pval F (X.w0 rfl) rfl (X.move rfl (F.ev 57 (.bool false))) ?_
   clear F ac
   intro ac F
   refine Y.pval F (X.w1 rfl (F.yl (j := 10) (d := 58) (b := false) rfl (by kernel_rfl))) rfl (X.move rfl (F.ev 8 (.slice ea5 n ec5))) ?_
   clear F ac
   intro ac F
   refine Y.pval F (X.w1 rfl (F.yl (j := 10) (d := 58) (b := false) rfl (by kernel_rfl))) rfl (X.len1 Try.underlying34 rfl (F.ev 59 (.slice ea5 n ec5))) ?_
   clear F ac
   intro ac F
   refine Y.pval F (X.w1 rfl (F.yl (j := 10) (d := 58) (b := false) rfl (by kernel_rfl))) rfl (X.field rfl (F.ev 3 (.pointer (some ⟨w.heap.size, 0, none⟩))) (X.fld Try.underlying24 rfl (Try.siz22 _) rfl rfl)) ?_
   clear F ac
   intro ac F
   refine Y.pval F (X.w1 rfl (F.yl (j := 10) (d := 58) (b := false) rfl (by kernel_rfl))) rfl (X.load rfl (F.ev 61 (.pointer (some ⟨w.heap.size, 2, none⟩))) (X.ld1 (Try.agg22 _) (hC.at 2 rfl))) ?_
   clear F ac
   intro ac F
   refine Y.pval F (X.w1 rfl (F.yl (j := 10) (d := 58) (b := false) rfl (by kernel_rfl))) rfl (X.len1 Try.underlying22 rfl (F.ev 62 (.slice na n nc))) ?_
   clear F ac
   intro ac F
   refine Y.pval F (X.w1 rfl (F.yl (j := 10) (d := 58) (b := false) rfl (by kernel_rfl))) rfl (X.binop rfl (F.ev 60 (.int .i64 n)) (F.ev 63 (.int .i64 n)) (X.neqI Try.underlying3 (show ((n : Int) != n) = false by simp))) ?_
   clear F ac
   intro ac F
   refine Y.pval F (X.w0 rfl) rfl (X.pickF rfl (F.ev 58 (.bool false)) (F.ev 64 (.bool false))) ?_
   clear F ac
   intro ac F
   refine Y.nil ?_
   replace F : Fr ac 188 [(0, .agg #[.int .i64 gr, .int .i64 hold, .slice na n nc]), (1, .int .i64 t), (2, .slice la m lc), (3, .pointer (some ⟨w.heap.size, 0, none⟩)), (6, .bool false), (7, .slice ra5 t.toNat rc5), (8, .slice ea5 n ec5), (9, .int .i64 (playE gr hold nd t l)), (10, .slice ka7 t.toNat kc7), (11, .int .i64 (playE gr hold nd t l)), (19, .bool false), (41, .bool false), (65, .bool false)] := F.sub _
   refine X.thenN ?_
   refine Y.condF (F.ev 65 (.bool false)) ?_
   refine Y.skip ?_
   refine X.thenN ?_
   refine Y.seq ?_
   refine Y.seq ?_
   refine Y.lit (by kernel_rfl) ?_
   refine Y.pval F (X.w0 rfl) rfl (X.assign rfl (X.kc (.int .i64 0) rfl)) ?_
   clear F ac
   intro ac F
   refine Y.nil ?_
   replace F : Fr ac 188 [(0, .agg #[.int .i64 gr, .int .i64 hold, .slice na n nc]), (1, .int .i64 t), (2, .slice la m lc), (3, .pointer (some ⟨w.heap.size, 0, none⟩)), (6, .bool false), (7, .slice ra5 t.toNat rc5), (8, .slice ea5 n ec5), (9, .int .i64 (playE gr hold nd t l)), (10, .slice ka7 t.toNat kc7), (11, .int .i64 (playE gr hold nd t l)), (12, .int .i64 0), (19, .bool false), (41, .bool false), (65, .bool false)] := F.sub _
   refine X.thenN ?_
   refine Y.block ?_
   have hndB := hnd
   have hlB := hl
   have hr5B := hr5
   have he5B := he5
   have hk7B := hk7
   have hCB := hC
   have GB := G
   refine Y.loop (fun me_ ac wr => ∃ (i : Nat), me_ = n - i ∧ Gr w8 wr ∧ i ≤ n ∧ Fr ac 188 [(0, .agg #[.int .i64 gr, .int .i64 hold, .slice na n nc]), (1, .int .i64 t), (2, .slice la m lc), (3, .pointer (some ⟨w.heap.size, 0, none⟩)), (7, .slice ra5 t.toNat rc5), (8, .slice ea5 n ec5), (9, .int .i64 (playE gr hold nd t l)), (10, .slice ka7 t.toNat kc7), (11, .int .i64 (playE gr hold nd t l)), (12, .int .i64 i), (19, .bool false), (41, .bool false), (65, .bool false)]) _ ⟨0, rfl, Gr.refl _, Nat.zero_le _, F.sub _⟩ ?_
   clear F
   intro me_ ac w12 hI
   obtain ⟨i, rfl, gr, hi, F⟩ := hI
   replace G := GB.trans gr
   replace hC := hCB.gr gr
   replace hnd := hndB.gr gr
   replace hl := hlB.gr gr
   replace hr5 := hr5B.gr gr
   replace he5 := he5B.gr gr
   replace hk7 := hk7B.gr gr
   have GB_ := gr
   clear gr
   refine Y.seq ?_
   refine Y.seq ?_
   refine Y.lit (by kernel_rfl) ?_
   refine Y.pval F (X.w0 rfl) rfl (X.move rfl (F.ev 12 (.int .i64 i))) ?_
   clear F ac
   intro ac F
   refine Y.pval F (X.w0 rfl) rfl (X.field rfl (F.ev 3 (.pointer (some ⟨w.heap.size, 0, none⟩))) (X.fld Try.underlying24 rfl (Try.siz22 _) rfl rfl)) ?_
   clear F ac
   intro ac F
   refine Y.pval F (X.w0 rfl) rfl (X.load rfl (F.ev 67 (.pointer (some ⟨w.heap.size, 2, none⟩))) (X.ld1 (Try.agg22 _) (hC.at 2 rfl))) ?_
   clear F ac
   intro ac F
   refine Y.pval F (X.w0 rfl) rfl (X.len1 Try.underlying22 rfl (F.ev 68 (.slice na n nc))) ?_
   clear F ac
   intro ac F
   refine Y.pval F (X.w0 rfl) rfl (X.binop rfl (F.ev 66 (.int .i64 i)) (F.ev 69 (.int .i64 n)) (X.lssI Try.underlying3 rfl)) ?_
   clear F ac
   intro ac F
   refine Y.nil ?_
   replace F : Fr ac 188 [(0, .agg #[.int .i64 gr, .int .i64 hold, .slice na n nc]), (1, .int .i64 t), (2, .slice la m lc), (3, .pointer (some ⟨w.heap.size, 0, none⟩)), (7, .slice ra5 t.toNat rc5), (8, .slice ea5 n ec5), (9, .int .i64 (playE gr hold nd t l)), (10, .slice ka7 t.toNat kc7), (11, .int .i64 (playE gr hold nd t l)), (12, .int .i64 i), (19, .bool false), (41, .bool false), (65, .bool false), (70, .bool (decide ((i : Int) < n)))] := F.sub _
   refine X.thenN ?_
   cases h13 : decide ((i : Int) < n) with
   | false =>
    try rw [h13] at F
    have h13p : ¬ ((i : Int) < n) := of_decide_eq_false h13
    obtain rfl : n = i := by omega
    refine Y.condF (F.ev 70 (.bool false)) ?_
    refine Y.exit ?_
    refine X.thenX ?_
    refine X.thenX ?_
    refine X.blockX ?_
    refine X.thenN ?_
    refine Y.seq ?_
    refine Y.lit (by kernel_rfl) ?_
    refine Y.pcall F (X.w0 rfl) rfl (X.enter (F := 16) rfl (X.kc (.func (.func 16) #[] #[]) rfl) rfl (enters_of Try.func16 (by kernel_rfl) rfl _)) (works_any w12) ?_
    clear F ac
    rintro e w15 ⟨rfl, g⟩
    refine ⟨_, rfl, ?_⟩
    intro ac F
    replace G := G.trans g
    replace hC := hC.gr g
    replace GB_ := GB_.trans g
    replace hnd := hnd.gr g
    replace hl := hl.gr g
    replace hr5 := hr5.gr g
    replace he5 := he5.gr g
    replace hk7 := hk7.gr g
    clear g
    refine Y.pval F (X.w0 rfl) rfl (X.assign rfl (F.ev 187 (.bool true))) ?_
    clear F ac
    intro ac F
    refine Y.nil ?_
    replace F : Fr ac 188 [(0, .agg #[.int .i64 gr, .int .i64 hold, .slice na n nc]), (1, .int .i64 t), (2, .slice la m lc), (3, .pointer (some ⟨w.heap.size, 0, none⟩)), (6, .bool true), (7, .slice ra5 t.toNat rc5), (8, .slice ea5 n ec5), (9, .int .i64 (playE gr hold nd t l)), (10, .slice ka7 t.toNat kc7), (11, .int .i64 (playE gr hold nd t l)), (12, .int .i64 n), (19, .bool false), (41, .bool false), (65, .bool false), (70, .bool false)] := F.sub _
    refine X.thenN ?_
    refine Y.ret ?_
    exact Y.ret0 (v := .bool true) F (Y.rs1 F rfl (by kernel_rfl)) ⟨rfl, G⟩
   | true =>
    try rw [h13] at F
    have h13p : ((i : Int) < n) := of_decide_eq_true h13
    refine Y.condT (F.ev 70 (.bool true)) ?_
    refine Y.skip ?_
    refine X.thenN ?_
    refine Y.seq ?_
    refine Y.block ?_
    refine Y.seq ?_
    refine Y.lit (by kernel_rfl) ?_
    refine Y.pval F (X.w0 rfl) rfl (X.assign rfl (X.kc (.int .i64 0) rfl)) ?_
    clear F ac
    intro ac F
    refine Y.nil ?_
    replace F : Fr ac 188 [(0, .agg #[.int .i64 gr, .int .i64 hold, .slice na n nc]), (1, .int .i64 t), (2, .slice la m lc), (3, .pointer (some ⟨w.heap.size, 0, none⟩)), (7, .slice ra5 t.toNat rc5), (8, .slice ea5 n ec5), (9, .int .i64 (playE gr hold nd t l)), (10, .slice ka7 t.toNat kc7), (11, .int .i64 (playE gr hold nd t l)), (12, .int .i64 i), (13, .int .i64 0), (19, .bool false), (41, .bool false), (65, .bool false), (70, .bool true)] := F.sub _
    refine X.thenN ?_
    refine Y.seq ?_
    refine Y.seq ?_
    refine Y.lit (by kernel_rfl) ?_
    refine Y.pval F (X.w0 rfl) rfl (X.assign rfl (X.kc (.int .i64 0) rfl)) ?_
    clear F ac
    intro ac F
    refine Y.nil ?_
    replace F : Fr ac 188 [(0, .agg #[.int .i64 gr, .int .i64 hold, .slice na n nc]), (1, .int .i64 t), (2, .slice la m lc), (3, .pointer (some ⟨w.heap.size, 0, none⟩)), (7, .slice ra5 t.toNat rc5), (8, .slice ea5 n ec5), (9, .int .i64 (playE gr hold nd t l)), (10, .slice ka7 t.toNat kc7), (11, .int .i64 (playE gr hold nd t l)), (12, .int .i64 i), (13, .int .i64 0), (14, .int .i64 0), (19, .bool false), (41, .bool false), (65, .bool false), (70, .bool true)] := F.sub _
    refine X.thenN ?_
    refine Y.block ?_
    have hndBB := hnd
    have hlBB := hl
    have hr5BB := hr5
    have he5BB := he5
    have hk7BB := hk7
    have hCBB := hC
    have GBB := G
    refine Y.loop (fun me_ ac wr => ∃ (k : Nat), me_ = t.toNat - k ∧ Gr w12 wr ∧ k ≤ t.toNat ∧ Fr ac 188 [(0, .agg #[.int .i64 gr, .int .i64 hold, .slice na n nc]), (1, .int .i64 t), (2, .slice la m lc), (3, .pointer (some ⟨w.heap.size, 0, none⟩)), (7, .slice ra5 t.toNat rc5), (8, .slice ea5 n ec5), (9, .int .i64 (playE gr hold nd t l)), (10, .slice ka7 t.toNat kc7), (11, .int .i64 (playE gr hold nd t l)), (12, .int .i64 i), (13, .int .i64 (enS nd ((playRows gr hold nd t l).take k) i)), (14, .int .i64 k), (19, .bool false), (41, .bool false), (65, .bool false), (70, .bool true)]) _ ⟨0, rfl, Gr.refl _, Nat.zero_le _, F.sub _⟩ ?_
    clear F
    intro me_ ac w16 hI
    obtain ⟨k, rfl, gr, hk, F⟩ := hI
    replace G := GBB.trans gr
    replace hC := hCBB.gr gr
    replace hnd := hndBB.gr gr
    replace hl := hlBB.gr gr
    replace hr5 := hr5BB.gr gr
    replace he5 := he5BB.gr gr
    replace hk7 := hk7BB.gr gr
    replace GB_ := GB_.trans gr
    have GBB_ := gr
    clear gr
    refine Y.seq ?_
    refine Y.seq ?_
    refine Y.lit (by kernel_rfl) ?_
    refine Y.pval F (X.w0 rfl) rfl (X.move rfl (F.ev 14 (.int .i64 k))) ?_
    clear F ac
    intro ac F
    refine Y.pval F (X.w0 rfl) rfl (X.move rfl (F.ev 1 (.int .i64 t))) ?_
    clear F ac
    intro ac F
    refine Y.pval F (X.w0 rfl) rfl (X.binop rfl (F.ev 73 (.int .i64 k)) (F.ev 74 (.int .i64 t)) (X.lssI Try.underlying3 rfl)) ?_
    clear F ac
    intro ac F
    refine Y.nil ?_
    replace F : Fr ac 188 [(0, .agg #[.int .i64 gr, .int .i64 hold, .slice na n nc]), (1, .int .i64 t), (2, .slice la m lc), (3, .pointer (some ⟨w.heap.size, 0, none⟩)), (7, .slice ra5 t.toNat rc5), (8, .slice ea5 n ec5), (9, .int .i64 (playE gr hold nd t l)), (10, .slice ka7 t.toNat kc7), (11, .int .i64 (playE gr hold nd t l)), (12, .int .i64 i), (13, .int .i64 (enS nd ((playRows gr hold nd t l).take k) i)), (14, .int .i64 k), (19, .bool false), (41, .bool false), (65, .bool false), (70, .bool true), (75, .bool (decide ((k : Int) < t)))] := F.sub _
    refine X.thenN ?_
    cases h17 : decide ((k : Int) < t) with
    | false =>
     try rw [h17] at F
     have h17p : ¬ ((k : Int) < t) := of_decide_eq_false h17
     have hrl := playRows_len h9p
     have hkt : k = t.toNat := by omega
     subst hkt
     refine Y.condF (F.ev 75 (.bool false)) ?_
     refine Y.exit ?_
     refine X.thenX ?_
     refine X.thenX ?_
     refine X.blockX ?_
     refine X.thenN ?_
     refine Y.seq ?_
     refine Y.lit (by kernel_rfl) ?_
     refine Y.pval F (X.w0 rfl) rfl (X.move rfl (F.ev 13 (.int .i64 (enS nd ((playRows gr hold nd t l).take t.toNat) i)))) ?_
     clear F ac
     intro ac F
     refine Y.pval F (X.w0 rfl) rfl (X.move rfl (F.ev 8 (.slice ea5 n ec5))) ?_
     clear F ac
     intro ac F
     refine Y.pval F (X.w0 rfl) rfl (X.move rfl (F.ev 12 (.int .i64 i))) ?_
     clear F ac
     intro ac F
     obtain ⟨pd18, pe18, -, pc18⟩ := he5.at (j := i) (by omega)
     subst pe18
     replace hC : RCells w16 [(⟨w.heap.size, 0, none⟩, .int .i64 gr), (⟨w.heap.size, 1, none⟩, .int .i64 hold), (⟨w.heap.size, 2, none⟩, .slice na n nc), (pd18.add i, .int .i64 ((playEn gr hold nd t l)[i]?.getD 0))] := hC.append ((RCells.cons pc18 (RCells.nil _)))
     clear pc18
     refine Y.pval F (X.w0 rfl) rfl (X.index rfl (F.ev 182 (.slice (some pd18) n ec5)) (F.ev 183 (.int .i64 i)) (X.idx (k := i) Try.underlying34 (Try.siz3 _) (by omega) (by omega) (by rw [Nat.mul_one]))) ?_
     clear F ac
     intro ac F
     refine Y.pval F (X.w0 rfl) rfl (X.load rfl (F.ev 184 (.pointer (some (pd18.add i)))) (X.ld1 (Try.agg3 _) (hC.at 3 rfl))) ?_
     clear F ac
     intro ac F
     refine Y.pval F (X.w0 rfl) rfl (X.binop rfl (F.ev 181 (.int .i64 (enS nd ((playRows gr hold nd t l).take t.toNat) i))) (F.ev 185 (.int .i64 ((playEn gr hold nd t l)[i]?.getD 0))) (X.neqI Try.underlying3 rfl)) ?_
     clear F ac
     intro ac F
     refine Y.nil ?_
     replace F : Fr ac 188 [(0, .agg #[.int .i64 gr, .int .i64 hold, .slice na n nc]), (1, .int .i64 t), (2, .slice la m lc), (3, .pointer (some ⟨w.heap.size, 0, none⟩)), (7, .slice ra5 t.toNat rc5), (8, .slice (some pd18) n ec5), (9, .int .i64 (playE gr hold nd t l)), (10, .slice ka7 t.toNat kc7), (11, .int .i64 (playE gr hold nd t l)), (12, .int .i64 i), (13, .int .i64 (enS nd ((playRows gr hold nd t l).take t.toNat) i)), (14, .int .i64 t.toNat), (19, .bool false), (41, .bool false), (65, .bool false), (70, .bool true), (75, .bool false), (186, .bool ((enS nd ((playRows gr hold nd t l).take t.toNat) i : Int) != ((playEn gr hold nd t l)[i]?.getD 0)))] := F.sub _
     refine X.thenN ?_
     have h20 : ((enS nd ((playRows gr hold nd t l).take t.toNat) i : Int) != ((playEn gr hold nd t l)[i]?.getD 0)) = false := by rw [en_all h9p (by omega)]; simp
     try rw [h20] at F
     refine Y.condF (F.ev 186 (.bool false)) ?_
     refine Y.skip ?_
     refine X.blockN ?_
     refine X.thenN ?_
     refine Y.lit (by kernel_rfl) ?_
     refine Y.pval F (X.w0 rfl) rfl (X.move rfl (F.ev 12 (.int .i64 i))) ?_
     clear F ac
     intro ac F
     refine Y.pval F (X.w0 rfl) rfl (X.binop rfl (F.ev 71 (.int .i64 i)) (X.kc (.int .i64 1) rfl) (X.addI Try.underlying3 rfl (by omega) (by omega))) ?_
     clear F ac
     intro ac F
     refine Y.pval F (X.w0 rfl) rfl (X.assign rfl (F.ev 72 (.int .i64 ((i : Int) + 1)))) ?_
     clear F ac
     intro ac F
     refine Y.nil ?_
     replace F : Fr ac 188 [(0, .agg #[.int .i64 gr, .int .i64 hold, .slice na n nc]), (1, .int .i64 t), (2, .slice la m lc), (3, .pointer (some ⟨w.heap.size, 0, none⟩)), (7, .slice ra5 t.toNat rc5), (8, .slice (some pd18) n ec5), (9, .int .i64 (playE gr hold nd t l)), (10, .slice ka7 t.toNat kc7), (11, .int .i64 (playE gr hold nd t l)), (12, .int .i64 ((i : Int) + 1)), (13, .int .i64 (enS nd ((playRows gr hold nd t l).take t.toNat) i)), (14, .int .i64 t.toNat), (19, .bool false), (41, .bool false), (65, .bool false), (70, .bool true), (75, .bool false), (186, .bool false)] := F.sub _
     refine X.thenN ?_
     refine ⟨_, ?_, i + 1, rfl, GB_, by omega, F.sub _⟩
     omega
    | true =>
     try rw [h17] at F
     have h17p : ((k : Int) < t) := of_decide_eq_true h17
     have hrl := playRows_len h9p
     have hb1 := enS_bd hc (j := i) (by omega) ((playRows gr hold nd t l).take k)
     have hb3 : ((playRows gr hold nd t l).take k).length ≤ 100 := by rw [List.length_take]; omega
     have hb4 := hc.awk i (by omega)
     have hb5 := hc.asl i (by omega)
     refine Y.condT (F.ev 75 (.bool true)) ?_
     refine Y.skip ?_
     refine X.thenN ?_
     refine Y.seq ?_
     refine Y.block ?_
     refine Y.seq ?_
     refine Y.lit (by kernel_rfl) ?_
     refine Y.pval F (X.w0 rfl) rfl (X.assign rfl (X.kc (.bool true) rfl)) ?_
     clear F ac
     intro ac F
     refine Y.nil ?_
     replace F : Fr ac 188 [(0, .agg #[.int .i64 gr, .int .i64 hold, .slice na n nc]), (1, .int .i64 t), (2, .slice la m lc), (3, .pointer (some ⟨w.heap.size, 0, none⟩)), (7, .slice ra5 t.toNat rc5), (8, .slice ea5 n ec5), (9, .int .i64 (playE gr hold nd t l)), (10, .slice ka7 t.toNat kc7), (11, .int .i64 (playE gr hold nd t l)), (12, .int .i64 i), (13, .int .i64 (enS nd ((playRows gr hold nd t l).take k) i)), (14, .int .i64 k), (15, .bool true), (19, .bool false), (41, .bool false), (65, .bool false), (70, .bool true), (75, .bool true)] := F.sub _
     refine X.thenN ?_
     refine Y.seq ?_
     refine Y.seq ?_
     refine Y.lit (by kernel_rfl) ?_
     refine Y.pval F (X.w0 rfl) rfl (X.move rfl (F.ev 14 (.int .i64 k))) ?_
     clear F ac
     intro ac F
     refine Y.pval F (X.w0 rfl) rfl (X.field rfl (F.ev 3 (.pointer (some ⟨w.heap.size, 0, none⟩))) (X.fld Try.underlying24 rfl (Try.siz3 _) rfl rfl)) ?_
     clear F ac
     intro ac F
     refine Y.pval F (X.w0 rfl) rfl (X.load rfl (F.ev 79 (.pointer (some ⟨w.heap.size, 1, none⟩))) (X.ld1 (Try.agg3 _) (hC.at 1 rfl))) ?_
     clear F ac
     intro ac F
     refine Y.pval F (X.w0 rfl) rfl (X.binop rfl (F.ev 78 (.int .i64 k)) (F.ev 80 (.int .i64 hold)) (X.subI Try.underlying3 rfl (by omega) (by omega))) ?_
     clear F ac
     intro ac F
     refine Y.pval F (X.w0 rfl) rfl (X.binop rfl (F.ev 81 (.int .i64 ((k : Int) - hold))) (X.kc (.int .i64 1) rfl) (X.addI Try.underlying3 rfl (by omega) (by omega))) ?_
     clear F ac
     intro ac F
     refine Y.pval F (X.w0 rfl) rfl (Y.max2 rfl (X.kc (.int .i64 0) rfl) (F.ev 82 (.int .i64 (((k : Int) - hold : Int) + 1)))) ?_
     clear F ac
     intro ac F
     refine Y.pval F (X.w0 rfl) rfl (X.assign rfl (F.ev 83 (.int .i64 (max (0 : Int) (((k : Int) - hold : Int) + 1 : Int))))) ?_
     clear F ac
     intro ac F
     refine Y.nil ?_
     replace F : Fr ac 188 [(0, .agg #[.int .i64 gr, .int .i64 hold, .slice na n nc]), (1, .int .i64 t), (2, .slice la m lc), (3, .pointer (some ⟨w.heap.size, 0, none⟩)), (7, .slice ra5 t.toNat rc5), (8, .slice ea5 n ec5), (9, .int .i64 (playE gr hold nd t l)), (10, .slice ka7 t.toNat kc7), (11, .int .i64 (playE gr hold nd t l)), (12, .int .i64 i), (13, .int .i64 (enS nd ((playRows gr hold nd t l).take k) i)), (14, .int .i64 k), (15, .bool true), (16, .int .i64 (max (0 : Int) (((k : Int) - hold : Int) + 1 : Int))), (19, .bool false), (41, .bool false), (65, .bool false), (70, .bool true), (75, .bool true)] := F.sub _
     refine X.thenN ?_
     refine Y.block ?_
     obtain ⟨lo, hlo⟩ : ∃ lo : Nat, max (0 : Int) ((k : Int) - hold + 1) = lo := ⟨_, (Int.toNat_of_nonneg (by omega)).symm⟩
     rw [show ((max (0 : Int) (((k : Int) - hold : Int) + 1 : Int)) : Int) = lo from hlo] at F
     have hndBBB := hnd
     have hlBBB := hl
     have hr5BBB := hr5
     have he5BBB := he5
     have hk7BBB := hk7
     have hCBBB := hC
     have GBBB := G
     refine Y.loop (fun me_ ac wr => ∃ (j : Nat), ∃ q : Bool, me_ = k + 1 - j ∧ Gr w16 wr ∧ lo ≤ j ∧ j ≤ k + 1 ∧ (q = true → ∀ a, lo ≤ a → a < j → andV ((playAsk gr hold nd t l)[a]?.getD 0) (cv nd i 0) = 0) ∧ Fr ac 188 [(0, .agg #[.int .i64 gr, .int .i64 hold, .slice na n nc]), (1, .int .i64 t), (2, .slice la m lc), (3, .pointer (some ⟨w.heap.size, 0, none⟩)), (7, .slice ra5 t.toNat rc5), (8, .slice ea5 n ec5), (9, .int .i64 (playE gr hold nd t l)), (10, .slice ka7 t.toNat kc7), (11, .int .i64 (playE gr hold nd t l)), (12, .int .i64 i), (13, .int .i64 (enS nd ((playRows gr hold nd t l).take k) i)), (14, .int .i64 k), (15, .bool q), (16, .int .i64 j), (19, .bool false), (41, .bool false), (65, .bool false), (70, .bool true), (75, .bool true)]) _ ⟨lo, true, rfl, Gr.refl _, Nat.le_refl _, by omega, (fun _ a h1 h2 => by omega), F.sub _⟩ ?_
     clear F
     intro me_ ac w21 hI
     obtain ⟨j, q, rfl, gr, hj0, hj1, hq, F⟩ := hI
     replace G := GBBB.trans gr
     replace hC := hCBBB.gr gr
     replace hnd := hndBBB.gr gr
     replace hl := hlBBB.gr gr
     replace hr5 := hr5BBB.gr gr
     replace he5 := he5BBB.gr gr
     replace hk7 := hk7BBB.gr gr
     replace GB_ := GB_.trans gr
     replace GBB_ := GBB_.trans gr
     have GBBB_ := gr
     clear gr
     refine Y.seq ?_
     refine Y.seq ?_
     refine Y.lit (by kernel_rfl) ?_
     refine Y.pval F (X.w0 rfl) rfl (X.move rfl (F.ev 16 (.int .i64 j))) ?_
     clear F ac
     intro ac F
     refine Y.pval F (X.w0 rfl) rfl (X.move rfl (F.ev 14 (.int .i64 k))) ?_
     clear F ac
     intro ac F
     refine Y.pval F (X.w0 rfl) rfl (X.binop rfl (F.ev 84 (.int .i64 j)) (F.ev 85 (.int .i64 k)) (X.leqI Try.underlying3 rfl)) ?_
     clear F ac
     intro ac F
     refine Y.nil ?_
     replace F : Fr ac 188 [(0, .agg #[.int .i64 gr, .int .i64 hold, .slice na n nc]), (1, .int .i64 t), (2, .slice la m lc), (3, .pointer (some ⟨w.heap.size, 0, none⟩)), (7, .slice ra5 t.toNat rc5), (8, .slice ea5 n ec5), (9, .int .i64 (playE gr hold nd t l)), (10, .slice ka7 t.toNat kc7), (11, .int .i64 (playE gr hold nd t l)), (12, .int .i64 i), (13, .int .i64 (enS nd ((playRows gr hold nd t l).take k) i)), (14, .int .i64 k), (15, .bool q), (16, .int .i64 j), (19, .bool false), (41, .bool false), (65, .bool false), (70, .bool true), (75, .bool true), (86, .bool (decide ((j : Int) ≤ k)))] := F.sub _
     refine X.thenN ?_
     cases h22 : decide ((j : Int) ≤ k) with
     | false =>
      try rw [h22] at F
      have h22p : ¬ ((j : Int) ≤ k) := of_decide_eq_false h22
      refine Y.condF (F.ev 86 (.bool false)) ?_
      refine Y.exit ?_
      refine X.thenX ?_
      refine X.thenX ?_
      refine X.blockX ?_
      refine X.thenN ?_
      refine Y.seq ?_
      refine Y.seq ?_
      refine Y.lit (by kernel_rfl) ?_
      refine Y.pval F (X.w0 rfl) rfl (X.assign rfl (X.kc (.int .i64 0) rfl)) ?_
      clear F ac
      intro ac F
      refine Y.nil ?_
      replace F : Fr ac 188 [(0, .agg #[.int .i64 gr, .int .i64 hold, .slice na n nc]), (1, .int .i64 t), (2, .slice la m lc), (3, .pointer (some ⟨w.heap.size, 0, none⟩)), (7, .slice ra5 t.toNat rc5), (8, .slice ea5 n ec5), (9, .int .i64 (playE gr hold nd t l)), (10, .slice ka7 t.toNat kc7), (11, .int .i64 (playE gr hold nd t l)), (12, .int .i64 i), (13, .int .i64 (enS nd ((playRows gr hold nd t l).take k) i)), (14, .int .i64 k), (15, .bool q), (16, .int .i64 j), (17, .int .i64 0), (19, .bool false), (41, .bool false), (65, .bool false), (70, .bool true), (75, .bool true), (86, .bool false)] := F.sub _
      refine X.thenN ?_
      refine Y.block ?_
      have hndBBBB := hnd
      have hlBBBB := hl
      have hr5BBBB := hr5
      have he5BBBB := he5
      have hk7BBBB := hk7
      have hCBBBB := hC
      have GBBBB := G
      refine Y.loop (fun me_ ac wr => ∃ (z : Nat), ∃ q2 : Bool, me_ = m - z ∧ Gr w21 wr ∧ z ≤ m ∧ (q2 = true → (∀ a, lo ≤ a → a ≤ k → andV ((playAsk gr hold nd t l)[a]?.getD 0) (cv nd i 0) = 0) ∧ ∀ b, b < z → ¬ (cv l b 1 = 3 ∧ cv l b 2 = i ∧ cv l b 0 ≤ k ∧ (k : Int) - hold < cv l b 0)) ∧ Fr ac 188 [(0, .agg #[.int .i64 gr, .int .i64 hold, .slice na n nc]), (1, .int .i64 t), (2, .slice la m lc), (3, .pointer (some ⟨w.heap.size, 0, none⟩)), (7, .slice ra5 t.toNat rc5), (8, .slice ea5 n ec5), (9, .int .i64 (playE gr hold nd t l)), (10, .slice ka7 t.toNat kc7), (11, .int .i64 (playE gr hold nd t l)), (12, .int .i64 i), (13, .int .i64 (enS nd ((playRows gr hold nd t l).take k) i)), (14, .int .i64 k), (15, .bool q2), (16, .int .i64 j), (17, .int .i64 z), (19, .bool false), (41, .bool false), (65, .bool false), (70, .bool true), (75, .bool true), (86, .bool false)]) _ ⟨0, q, rfl, Gr.refl _, Nat.zero_le _, (fun h => ⟨fun a h1 h2 => hq h a h1 (by omega), fun b hb => by omega⟩), F.sub _⟩ ?_
      clear F
      intro me_ ac w23 hI
      obtain ⟨z, q2, rfl, gr, hz, hq2, F⟩ := hI
      replace G := GBBBB.trans gr
      replace hC := hCBBBB.gr gr
      replace hnd := hndBBBB.gr gr
      replace hl := hlBBBB.gr gr
      replace hr5 := hr5BBBB.gr gr
      replace he5 := he5BBBB.gr gr
      replace hk7 := hk7BBBB.gr gr
      replace GB_ := GB_.trans gr
      replace GBB_ := GBB_.trans gr
      replace GBBB_ := GBBB_.trans gr
      have GBBBB_ := gr
      clear gr
      refine Y.seq ?_
      refine Y.seq ?_
      refine Y.lit (by kernel_rfl) ?_
      refine Y.pval F (X.w0 rfl) rfl (X.move rfl (F.ev 17 (.int .i64 z))) ?_
      clear F ac
      intro ac F
      refine Y.pval F (X.w0 rfl) rfl (X.move rfl (F.ev 2 (.slice la m lc))) ?_
      clear F ac
      intro ac F
      refine Y.pval F (X.w0 rfl) rfl (X.len1 Try.underlying25 rfl (F.ev 105 (.slice la m lc))) ?_
      clear F ac
      intro ac F
      refine Y.pval F (X.w0 rfl) rfl (X.binop rfl (F.ev 104 (.int .i64 z)) (F.ev 106 (.int .i64 m)) (X.lssI Try.underlying3 rfl)) ?_
      clear F ac
      intro ac F
      refine Y.nil ?_
      replace F : Fr ac 188 [(0, .agg #[.int .i64 gr, .int .i64 hold, .slice na n nc]), (1, .int .i64 t), (2, .slice la m lc), (3, .pointer (some ⟨w.heap.size, 0, none⟩)), (7, .slice ra5 t.toNat rc5), (8, .slice ea5 n ec5), (9, .int .i64 (playE gr hold nd t l)), (10, .slice ka7 t.toNat kc7), (11, .int .i64 (playE gr hold nd t l)), (12, .int .i64 i), (13, .int .i64 (enS nd ((playRows gr hold nd t l).take k) i)), (14, .int .i64 k), (15, .bool q2), (16, .int .i64 j), (17, .int .i64 z), (19, .bool false), (41, .bool false), (65, .bool false), (70, .bool true), (75, .bool true), (86, .bool false), (107, .bool (decide ((z : Int) < m)))] := F.sub _
      refine X.thenN ?_
      cases h24 : decide ((z : Int) < m) with
      | false =>
       try rw [h24] at F
       have h24p : ¬ ((z : Int) < m) := of_decide_eq_false h24
       refine Y.condF (F.ev 107 (.bool false)) ?_
       refine Y.exit ?_
       refine X.thenX ?_
       refine X.thenX ?_
       refine X.blockX ?_
       refine X.thenN ?_
       refine Y.seq ?_
       refine Y.seq ?_
       refine Y.lit (by kernel_rfl) ?_
       refine Y.pval F (X.w0 rfl) rfl (X.move rfl (F.ev 15 (.bool q2))) ?_
       clear F ac
       intro ac F
       refine Y.pval F (X.w0 rfl) rfl (X.move rfl (F.ev 150 (.bool q2))) ?_
       clear F ac
       intro ac F
       cases h25 : q2 with
       | false =>
        try rw [h25] at F
        refine Y.pskip F (X.w2 rfl (F.yl (j := 1) (d := 151) (b := false) rfl (by kernel_rfl)) rfl) rfl ?_
        clear F ac
        intro ac F
        refine Y.pskip F (X.w2 rfl (F.yl (j := 1) (d := 151) (b := false) rfl (by kernel_rfl)) rfl) rfl ?_
        clear F ac
        intro ac F
        refine Y.pskip F (X.w2 rfl (F.yl (j := 1) (d := 151) (b := false) rfl (by kernel_rfl)) rfl) rfl ?_
        clear F ac
        intro ac F
        refine Y.pskip F (X.w2 rfl (F.yl (j := 1) (d := 151) (b := false) rfl (by kernel_rfl)) rfl) rfl ?_
        clear F ac
        intro ac F
        refine Y.pskip F (X.w2 rfl (F.yl (j := 1) (d := 151) (b := false) rfl (by kernel_rfl)) rfl) rfl ?_
        clear F ac
        intro ac F
        refine Y.pskip F (X.w2 rfl (F.yl (j := 1) (d := 151) (b := false) rfl (by kernel_rfl)) rfl) rfl ?_
        clear F ac
        intro ac F
        refine Y.pval F (X.w0 rfl) rfl (X.pickF rfl (F.ev 151 (.bool false)) (X.kc (.bool false) rfl)) ?_
        clear F ac
        intro ac F
        refine Y.nil ?_
        replace F : Fr ac 188 [(0, .agg #[.int .i64 gr, .int .i64 hold, .slice na n nc]), (1, .int .i64 t), (2, .slice la m lc), (3, .pointer (some ⟨w.heap.size, 0, none⟩)), (7, .slice ra5 t.toNat rc5), (8, .slice ea5 n ec5), (9, .int .i64 (playE gr hold nd t l)), (10, .slice ka7 t.toNat kc7), (11, .int .i64 (playE gr hold nd t l)), (12, .int .i64 i), (13, .int .i64 (enS nd ((playRows gr hold nd t l).take k) i)), (14, .int .i64 k), (15, .bool false), (16, .int .i64 j), (17, .int .i64 z), (19, .bool false), (41, .bool false), (65, .bool false), (70, .bool true), (75, .bool true), (86, .bool false), (107, .bool false), (158, .bool false)] := F.sub _
        refine X.thenN ?_
        refine Y.condF (F.ev 158 (.bool false)) ?_
        refine Y.skip ?_
        refine X.thenN ?_
        refine Y.seq ?_
        refine Y.lit (by kernel_rfl) ?_
        refine Y.pval F (X.w0 rfl) rfl (X.move rfl (F.ev 7 (.slice ra5 t.toNat rc5))) ?_
        clear F ac
        intro ac F
        refine Y.pval F (X.w0 rfl) rfl (X.move rfl (F.ev 14 (.int .i64 k))) ?_
        clear F ac
        intro ac F
        obtain ⟨pd26, pe26, -, pc26⟩ := hr5.at (j := k) (by omega)
        subst pe26
        replace hC : RCells w23 [(⟨w.heap.size, 0, none⟩, .int .i64 gr), (⟨w.heap.size, 1, none⟩, .int .i64 hold), (⟨w.heap.size, 2, none⟩, .slice na n nc), (pd26.add k, .int .i64 ((playRows gr hold nd t l)[k]?.getD 0))] := hC.append ((RCells.cons pc26 (RCells.nil _)))
        clear pc26
        refine Y.pval F (X.w0 rfl) rfl (X.index rfl (F.ev 159 (.slice (some pd26) t.toNat rc5)) (F.ev 160 (.int .i64 k)) (X.idx (k := k) Try.underlying34 (Try.siz3 _) (by omega) (by omega) (by rw [Nat.mul_one]))) ?_
        clear F ac
        intro ac F
        refine Y.pval F (X.w0 rfl) rfl (X.load rfl (F.ev 161 (.pointer (some (pd26.add k)))) (X.ld1 (Try.agg3 _) (hC.at 3 rfl))) ?_
        clear F ac
        intro ac F
        refine Y.pval F (X.w0 rfl) rfl (X.move rfl (F.ev 12 (.int .i64 i))) ?_
        clear F ac
        intro ac F
        refine Y.pcall F (X.w0 rfl) rfl (X.enter (F := 17) rfl (X.kc (.func (.func 17) #[] #[]) rfl) (X.a2 (F.ev 162 (.int .i64 ((playRows gr hold nd t l)[k]?.getD 0))) (F.ev 163 (.int .i64 i))) (enters_of Try.func17 (by kernel_rfl) rfl _)) (bit_any ((playRows gr hold nd t l)[k]?.getD 0) i w23 (by omega)) ?_
        clear F ac
        rintro e w' ⟨rfl, hw_⟩
        obtain rfl : w23 = w' := hw_.symm
        clear hw_
        refine ⟨_, rfl, ?_⟩
        intro ac F
        refine Y.nil ?_
        replace F : Fr ac 188 [(0, .agg #[.int .i64 gr, .int .i64 hold, .slice na n nc]), (1, .int .i64 t), (2, .slice la m lc), (3, .pointer (some ⟨w.heap.size, 0, none⟩)), (7, .slice (some pd26) t.toNat rc5), (8, .slice ea5 n ec5), (9, .int .i64 (playE gr hold nd t l)), (10, .slice ka7 t.toNat kc7), (11, .int .i64 (playE gr hold nd t l)), (12, .int .i64 i), (13, .int .i64 (enS nd ((playRows gr hold nd t l).take k) i)), (14, .int .i64 k), (15, .bool false), (16, .int .i64 j), (17, .int .i64 z), (19, .bool false), (41, .bool false), (65, .bool false), (70, .bool true), (75, .bool true), (86, .bool false), (107, .bool false), (158, .bool false), (164, .bool (bitB ((playRows gr hold nd t l)[k]?.getD 0) i))] := F.sub _
        refine X.thenN ?_
        cases h27 : bitB ((playRows gr hold nd t l)[k]?.getD 0) i with
        | false =>
         try rw [h27] at F
         refine Y.condF (F.ev 164 (.bool false)) ?_
         refine Y.lit (by kernel_rfl) ?_
         refine Y.pval F (X.w0 rfl) rfl (X.move rfl (F.ev 13 (.int .i64 (enS nd ((playRows gr hold nd t l).take k) i)))) ?_
         clear F ac
         intro ac F
         refine Y.pval F (X.w0 rfl) rfl (X.field rfl (F.ev 3 (.pointer (some ⟨w.heap.size, 0, none⟩))) (X.fld Try.underlying24 rfl (Try.siz22 _) rfl rfl)) ?_
         clear F ac
         intro ac F
         refine Y.pval F (X.w0 rfl) rfl (X.load rfl (F.ev 174 (.pointer (some ⟨w.heap.size, 2, none⟩))) (X.ld1 (Try.agg22 _) (hC.at 2 rfl))) ?_
         clear F ac
         intro ac F
         refine Y.pval F (X.w0 rfl) rfl (X.move rfl (F.ev 12 (.int .i64 i))) ?_
         clear F ac
         intro ac F
         obtain ⟨pd28, pe28, -, -, pc28⟩ := hnd.at (j := i) (by omega)
         subst pe28
         replace hC : RCells w23 [(⟨w.heap.size, 0, none⟩, .int .i64 gr), (⟨w.heap.size, 1, none⟩, .int .i64 hold), (⟨w.heap.size, 2, none⟩, .slice (some pd28) n nc), (pd26.add k, .int .i64 ((playRows gr hold nd t l)[k]?.getD 0)), (pd28.add (i * 5), .int .i64 (cv nd i 0)), (⟨(pd28.add (i * 5)).block, (pd28.add (i * 5)).off + 1, none⟩, .int .i64 (cv nd i 1)), (⟨(pd28.add (i * 5)).block, (pd28.add (i * 5)).off + 2, none⟩, .int .i64 (cv nd i 2)), (⟨(pd28.add (i * 5)).block, (pd28.add (i * 5)).off + 3, none⟩, .int .i64 (cv nd i 3)), (⟨(pd28.add (i * 5)).block, (pd28.add (i * 5)).off + 4, none⟩, .int .i64 (cv nd i 4))] := hC.append ((RCells.cons (pc28 0 (by decide)) (RCells.cons (pc28 1 (by decide)) (RCells.cons (pc28 2 (by decide)) (RCells.cons (pc28 3 (by decide)) (RCells.cons (pc28 4 (by decide)) (RCells.nil _)))))))
         clear pc28
         refine Y.pval F (X.w0 rfl) rfl (X.index rfl (F.ev 175 (.slice (some pd28) n nc)) (F.ev 176 (.int .i64 i)) (X.idx (k := i) Try.underlying22 (Try.siz31 _) (by omega) (by omega) rfl)) ?_
         clear F ac
         intro ac F
         refine Y.pval F (X.w0 rfl) rfl (X.field rfl (F.ev 177 (.pointer (some (pd28.add (i * 5))))) (X.fld Try.underlying31 rfl (Try.siz3 _) rfl rfl)) ?_
         clear F ac
         intro ac F
         refine Y.pval F (X.w0 rfl) rfl (X.load rfl (F.ev 178 (.pointer (some (⟨(pd28.add (i * 5)).block, (pd28.add (i * 5)).off + 2, none⟩)))) (X.ld1 (Try.agg3 _) (hC.at 6 rfl))) ?_
         clear F ac
         intro ac F
         refine Y.pval F (X.w0 rfl) rfl (X.binop rfl (F.ev 173 (.int .i64 (enS nd ((playRows gr hold nd t l).take k) i))) (F.ev 179 (.int .i64 (cv nd i 2))) (X.addI Try.underlying3 rfl (by omega) (by omega))) ?_
         clear F ac
         intro ac F
         refine Y.pval F (X.w0 rfl) rfl (X.assign rfl (F.ev 180 (.int .i64 ((enS nd ((playRows gr hold nd t l).take k) i : Int) + (cv nd i 2))))) ?_
         clear F ac
         intro ac F
         refine Y.nil ?_
         replace F : Fr ac 188 [(0, .agg #[.int .i64 gr, .int .i64 hold, .slice (some pd28) n nc]), (1, .int .i64 t), (2, .slice la m lc), (3, .pointer (some ⟨w.heap.size, 0, none⟩)), (7, .slice (some pd26) t.toNat rc5), (8, .slice ea5 n ec5), (9, .int .i64 (playE gr hold nd t l)), (10, .slice ka7 t.toNat kc7), (11, .int .i64 (playE gr hold nd t l)), (12, .int .i64 i), (13, .int .i64 ((enS nd ((playRows gr hold nd t l).take k) i : Int) + (cv nd i 2))), (14, .int .i64 k), (15, .bool false), (16, .int .i64 j), (17, .int .i64 z), (19, .bool false), (41, .bool false), (65, .bool false), (70, .bool true), (75, .bool true), (86, .bool false), (107, .bool false), (158, .bool false), (164, .bool false)] := F.sub _
         refine X.blockN ?_
         refine X.thenN ?_
         refine Y.lit (by kernel_rfl) ?_
         refine Y.pval F (X.w0 rfl) rfl (X.move rfl (F.ev 14 (.int .i64 k))) ?_
         clear F ac
         intro ac F
         refine Y.pval F (X.w0 rfl) rfl (X.binop rfl (F.ev 76 (.int .i64 k)) (X.kc (.int .i64 1) rfl) (X.addI Try.underlying3 rfl (by omega) (by omega))) ?_
         clear F ac
         intro ac F
         refine Y.pval F (X.w0 rfl) rfl (X.assign rfl (F.ev 77 (.int .i64 ((k : Int) + 1)))) ?_
         clear F ac
         intro ac F
         refine Y.nil ?_
         replace F : Fr ac 188 [(0, .agg #[.int .i64 gr, .int .i64 hold, .slice (some pd28) n nc]), (1, .int .i64 t), (2, .slice la m lc), (3, .pointer (some ⟨w.heap.size, 0, none⟩)), (7, .slice (some pd26) t.toNat rc5), (8, .slice ea5 n ec5), (9, .int .i64 (playE gr hold nd t l)), (10, .slice ka7 t.toNat kc7), (11, .int .i64 (playE gr hold nd t l)), (12, .int .i64 i), (13, .int .i64 ((enS nd ((playRows gr hold nd t l).take k) i : Int) + (cv nd i 2))), (14, .int .i64 ((k : Int) + 1)), (15, .bool false), (16, .int .i64 j), (17, .int .i64 z), (19, .bool false), (41, .bool false), (65, .bool false), (70, .bool true), (75, .bool true), (86, .bool false), (107, .bool false), (158, .bool false), (164, .bool false)] := F.sub _
         refine X.thenN ?_
         refine ⟨_, ?_, k + 1, rfl, GBB_, by omega, (by rw [enS_take (by omega) i, show en1 nd ((playRows gr hold nd t l)[k]?.getD 0) i = cv nd i 2 from by unfold en1; rw [h27]; rfl]; exact F.sub _)⟩
         omega
        | true =>
         try rw [h27] at F
         refine Y.condT (F.ev 164 (.bool true)) ?_
         refine Y.lit (by kernel_rfl) ?_
         refine Y.pval F (X.w0 rfl) rfl (X.move rfl (F.ev 13 (.int .i64 (enS nd ((playRows gr hold nd t l).take k) i)))) ?_
         clear F ac
         intro ac F
         refine Y.pval F (X.w0 rfl) rfl (X.field rfl (F.ev 3 (.pointer (some ⟨w.heap.size, 0, none⟩))) (X.fld Try.underlying24 rfl (Try.siz22 _) rfl rfl)) ?_
         clear F ac
         intro ac F
         refine Y.pval F (X.w0 rfl) rfl (X.load rfl (F.ev 166 (.pointer (some ⟨w.heap.size, 2, none⟩))) (X.ld1 (Try.agg22 _) (hC.at 2 rfl))) ?_
         clear F ac
         intro ac F
         refine Y.pval F (X.w0 rfl) rfl (X.move rfl (F.ev 12 (.int .i64 i))) ?_
         clear F ac
         intro ac F
         obtain ⟨pd29, pe29, -, -, pc29⟩ := hnd.at (j := i) (by omega)
         subst pe29
         replace hC : RCells w23 [(⟨w.heap.size, 0, none⟩, .int .i64 gr), (⟨w.heap.size, 1, none⟩, .int .i64 hold), (⟨w.heap.size, 2, none⟩, .slice (some pd29) n nc), (pd26.add k, .int .i64 ((playRows gr hold nd t l)[k]?.getD 0)), (pd29.add (i * 5), .int .i64 (cv nd i 0)), (⟨(pd29.add (i * 5)).block, (pd29.add (i * 5)).off + 1, none⟩, .int .i64 (cv nd i 1)), (⟨(pd29.add (i * 5)).block, (pd29.add (i * 5)).off + 2, none⟩, .int .i64 (cv nd i 2)), (⟨(pd29.add (i * 5)).block, (pd29.add (i * 5)).off + 3, none⟩, .int .i64 (cv nd i 3)), (⟨(pd29.add (i * 5)).block, (pd29.add (i * 5)).off + 4, none⟩, .int .i64 (cv nd i 4))] := hC.append ((RCells.cons (pc29 0 (by decide)) (RCells.cons (pc29 1 (by decide)) (RCells.cons (pc29 2 (by decide)) (RCells.cons (pc29 3 (by decide)) (RCells.cons (pc29 4 (by decide)) (RCells.nil _)))))))
         clear pc29
         refine Y.pval F (X.w0 rfl) rfl (X.index rfl (F.ev 167 (.slice (some pd29) n nc)) (F.ev 168 (.int .i64 i)) (X.idx (k := i) Try.underlying22 (Try.siz31 _) (by omega) (by omega) rfl)) ?_
         clear F ac
         intro ac F
         refine Y.pval F (X.w0 rfl) rfl (X.field rfl (F.ev 169 (.pointer (some (pd29.add (i * 5))))) (X.fld Try.underlying31 rfl (Try.siz3 _) rfl rfl)) ?_
         clear F ac
         intro ac F
         refine Y.pval F (X.w0 rfl) rfl (X.load rfl (F.ev 170 (.pointer (some (⟨(pd29.add (i * 5)).block, (pd29.add (i * 5)).off + 1, none⟩)))) (X.ld1 (Try.agg3 _) (hC.at 5 rfl))) ?_
         clear F ac
         intro ac F
         refine Y.pval F (X.w0 rfl) rfl (X.binop rfl (F.ev 165 (.int .i64 (enS nd ((playRows gr hold nd t l).take k) i))) (F.ev 171 (.int .i64 (cv nd i 1))) (X.addI Try.underlying3 rfl (by omega) (by omega))) ?_
         clear F ac
         intro ac F
         refine Y.pval F (X.w0 rfl) rfl (X.assign rfl (F.ev 172 (.int .i64 ((enS nd ((playRows gr hold nd t l).take k) i : Int) + (cv nd i 1))))) ?_
         clear F ac
         intro ac F
         refine Y.nil ?_
         replace F : Fr ac 188 [(0, .agg #[.int .i64 gr, .int .i64 hold, .slice (some pd29) n nc]), (1, .int .i64 t), (2, .slice la m lc), (3, .pointer (some ⟨w.heap.size, 0, none⟩)), (7, .slice (some pd26) t.toNat rc5), (8, .slice ea5 n ec5), (9, .int .i64 (playE gr hold nd t l)), (10, .slice ka7 t.toNat kc7), (11, .int .i64 (playE gr hold nd t l)), (12, .int .i64 i), (13, .int .i64 ((enS nd ((playRows gr hold nd t l).take k) i : Int) + (cv nd i 1))), (14, .int .i64 k), (15, .bool false), (16, .int .i64 j), (17, .int .i64 z), (19, .bool false), (41, .bool false), (65, .bool false), (70, .bool true), (75, .bool true), (86, .bool false), (107, .bool false), (158, .bool false), (164, .bool true)] := F.sub _
         refine X.blockN ?_
         refine X.thenN ?_
         refine Y.lit (by kernel_rfl) ?_
         refine Y.pval F (X.w0 rfl) rfl (X.move rfl (F.ev 14 (.int .i64 k))) ?_
         clear F ac
         intro ac F
         refine Y.pval F (X.w0 rfl) rfl (X.binop rfl (F.ev 76 (.int .i64 k)) (X.kc (.int .i64 1) rfl) (X.addI Try.underlying3 rfl (by omega) (by omega))) ?_
         clear F ac
         intro ac F
         refine Y.pval F (X.w0 rfl) rfl (X.assign rfl (F.ev 77 (.int .i64 ((k : Int) + 1)))) ?_
         clear F ac
         intro ac F
         refine Y.nil ?_
         replace F : Fr ac 188 [(0, .agg #[.int .i64 gr, .int .i64 hold, .slice (some pd29) n nc]), (1, .int .i64 t), (2, .slice la m lc), (3, .pointer (some ⟨w.heap.size, 0, none⟩)), (7, .slice (some pd26) t.toNat rc5), (8, .slice ea5 n ec5), (9, .int .i64 (playE gr hold nd t l)), (10, .slice ka7 t.toNat kc7), (11, .int .i64 (playE gr hold nd t l)), (12, .int .i64 i), (13, .int .i64 ((enS nd ((playRows gr hold nd t l).take k) i : Int) + (cv nd i 1))), (14, .int .i64 ((k : Int) + 1)), (15, .bool false), (16, .int .i64 j), (17, .int .i64 z), (19, .bool false), (41, .bool false), (65, .bool false), (70, .bool true), (75, .bool true), (86, .bool false), (107, .bool false), (158, .bool false), (164, .bool true)] := F.sub _
         refine X.thenN ?_
         refine ⟨_, ?_, k + 1, rfl, GBB_, by omega, (by rw [enS_take (by omega) i, show en1 nd ((playRows gr hold nd t l)[k]?.getD 0) i = cv nd i 1 from by unfold en1; rw [h27]; rfl]; exact F.sub _)⟩
         omega
       | true =>
        try rw [h25] at F
        refine Y.pval F (X.w1 rfl (F.yl (j := 1) (d := 151) (b := true) rfl (by kernel_rfl))) rfl (X.move rfl (F.ev 7 (.slice ra5 t.toNat rc5))) ?_
        clear F ac
        intro ac F
        refine Y.pval F (X.w1 rfl (F.yl (j := 1) (d := 151) (b := true) rfl (by kernel_rfl))) rfl (X.move rfl (F.ev 14 (.int .i64 k))) ?_
        clear F ac
        intro ac F
        obtain ⟨pd30, pe30, -, pc30⟩ := hr5.at (j := k) (by omega)
        subst pe30
        replace hC : RCells w23 [(⟨w.heap.size, 0, none⟩, .int .i64 gr), (⟨w.heap.size, 1, none⟩, .int .i64 hold), (⟨w.heap.size, 2, none⟩, .slice na n nc), (pd30.add k, .int .i64 ((playRows gr hold nd t l)[k]?.getD 0))] := hC.append ((RCells.cons pc30 (RCells.nil _)))
        clear pc30
        refine Y.pval F (X.w1 rfl (F.yl (j := 1) (d := 151) (b := true) rfl (by kernel_rfl))) rfl (X.index rfl (F.ev 152 (.slice (some pd30) t.toNat rc5)) (F.ev 153 (.int .i64 k)) (X.idx (k := k) Try.underlying34 (Try.siz3 _) (by omega) (by omega) (by rw [Nat.mul_one]))) ?_
        clear F ac
        intro ac F
        refine Y.pval F (X.w1 rfl (F.yl (j := 1) (d := 151) (b := true) rfl (by kernel_rfl))) rfl (X.load rfl (F.ev 154 (.pointer (some (pd30.add k)))) (X.ld1 (Try.agg3 _) (hC.at 3 rfl))) ?_
        clear F ac
        intro ac F
        refine Y.pval F (X.w1 rfl (F.yl (j := 1) (d := 151) (b := true) rfl (by kernel_rfl))) rfl (X.move rfl (F.ev 12 (.int .i64 i))) ?_
        clear F ac
        intro ac F
        refine Y.pcall F (X.w1 rfl (F.yl (j := 1) (d := 151) (b := true) rfl (by kernel_rfl))) rfl (X.enter (F := 17) rfl (X.kc (.func (.func 17) #[] #[]) rfl) (X.a2 (F.ev 155 (.int .i64 ((playRows gr hold nd t l)[k]?.getD 0))) (F.ev 156 (.int .i64 i))) (enters_of Try.func17 (by kernel_rfl) rfl _)) (bit_any ((playRows gr hold nd t l)[k]?.getD 0) i w23 (by omega)) ?_
        clear F ac
        rintro e w' ⟨rfl, hw_⟩
        obtain rfl : w23 = w' := hw_.symm
        clear hw_
        refine ⟨_, rfl, ?_⟩
        intro ac F
        refine Y.pval F (X.w0 rfl) rfl (X.pickT rfl (F.ev 151 (.bool true)) (F.ev 157 (.bool (bitB ((playRows gr hold nd t l)[k]?.getD 0) i)))) ?_
        clear F ac
        intro ac F
        refine Y.nil ?_
        replace F : Fr ac 188 [(0, .agg #[.int .i64 gr, .int .i64 hold, .slice na n nc]), (1, .int .i64 t), (2, .slice la m lc), (3, .pointer (some ⟨w.heap.size, 0, none⟩)), (7, .slice (some pd30) t.toNat rc5), (8, .slice ea5 n ec5), (9, .int .i64 (playE gr hold nd t l)), (10, .slice ka7 t.toNat kc7), (11, .int .i64 (playE gr hold nd t l)), (12, .int .i64 i), (13, .int .i64 (enS nd ((playRows gr hold nd t l).take k) i)), (14, .int .i64 k), (15, .bool true), (16, .int .i64 j), (17, .int .i64 z), (19, .bool false), (41, .bool false), (65, .bool false), (70, .bool true), (75, .bool true), (86, .bool false), (107, .bool false), (158, .bool (bitB ((playRows gr hold nd t l)[k]?.getD 0) i))] := F.sub _
        refine X.thenN ?_
        have h32 : bitB ((playRows gr hold nd t l)[k]?.getD 0) i = false := asleep_all h9p (by omega) (by omega) hlo (hq2 (by assumption)).1 (fun b hb => (hq2 (by assumption)).2 b (by omega))
        try rw [h32] at F
        refine Y.condF (F.ev 158 (.bool false)) ?_
        refine Y.skip ?_
        refine X.thenN ?_
        refine Y.seq ?_
        refine Y.lit (by kernel_rfl) ?_
        refine Y.pval F (X.w0 rfl) rfl (X.move rfl (F.ev 7 (.slice (some pd30) t.toNat rc5))) ?_
        clear F ac
        intro ac F
        refine Y.pval F (X.w0 rfl) rfl (X.move rfl (F.ev 14 (.int .i64 k))) ?_
        clear F ac
        intro ac F
        refine Y.pval F (X.w0 rfl) rfl (X.index rfl (F.ev 159 (.slice (some pd30) t.toNat rc5)) (F.ev 160 (.int .i64 k)) (X.idx (k := k) Try.underlying34 (Try.siz3 _) (by omega) (by omega) (by rw [Nat.mul_one]))) ?_
        clear F ac
        intro ac F
        refine Y.pval F (X.w0 rfl) rfl (X.load rfl (F.ev 161 (.pointer (some (pd30.add k)))) (X.ld1 (Try.agg3 _) (hC.at 3 rfl))) ?_
        clear F ac
        intro ac F
        refine Y.pval F (X.w0 rfl) rfl (X.move rfl (F.ev 12 (.int .i64 i))) ?_
        clear F ac
        intro ac F
        refine Y.pcall F (X.w0 rfl) rfl (X.enter (F := 17) rfl (X.kc (.func (.func 17) #[] #[]) rfl) (X.a2 (F.ev 162 (.int .i64 ((playRows gr hold nd t l)[k]?.getD 0))) (F.ev 163 (.int .i64 i))) (enters_of Try.func17 (by kernel_rfl) rfl _)) (by have hq := bit_any ((playRows gr hold nd t l)[k]?.getD 0) i w23 (by omega); rw [h32] at hq; exact hq) ?_
        clear F ac
        rintro e w' ⟨rfl, hw_⟩
        obtain rfl : w23 = w' := hw_.symm
        clear hw_
        refine ⟨_, rfl, ?_⟩
        intro ac F
        refine Y.nil ?_
        replace F : Fr ac 188 [(0, .agg #[.int .i64 gr, .int .i64 hold, .slice na n nc]), (1, .int .i64 t), (2, .slice la m lc), (3, .pointer (some ⟨w.heap.size, 0, none⟩)), (7, .slice (some pd30) t.toNat rc5), (8, .slice ea5 n ec5), (9, .int .i64 (playE gr hold nd t l)), (10, .slice ka7 t.toNat kc7), (11, .int .i64 (playE gr hold nd t l)), (12, .int .i64 i), (13, .int .i64 (enS nd ((playRows gr hold nd t l).take k) i)), (14, .int .i64 k), (15, .bool true), (16, .int .i64 j), (17, .int .i64 z), (19, .bool false), (41, .bool false), (65, .bool false), (70, .bool true), (75, .bool true), (86, .bool false), (107, .bool false), (158, .bool false), (164, .bool false)] := F.sub _
        refine X.thenN ?_
        refine Y.condF (F.ev 164 (.bool false)) ?_
        refine Y.lit (by kernel_rfl) ?_
        refine Y.pval F (X.w0 rfl) rfl (X.move rfl (F.ev 13 (.int .i64 (enS nd ((playRows gr hold nd t l).take k) i)))) ?_
        clear F ac
        intro ac F
        refine Y.pval F (X.w0 rfl) rfl (X.field rfl (F.ev 3 (.pointer (some ⟨w.heap.size, 0, none⟩))) (X.fld Try.underlying24 rfl (Try.siz22 _) rfl rfl)) ?_
        clear F ac
        intro ac F
        refine Y.pval F (X.w0 rfl) rfl (X.load rfl (F.ev 174 (.pointer (some ⟨w.heap.size, 2, none⟩))) (X.ld1 (Try.agg22 _) (hC.at 2 rfl))) ?_
        clear F ac
        intro ac F
        refine Y.pval F (X.w0 rfl) rfl (X.move rfl (F.ev 12 (.int .i64 i))) ?_
        clear F ac
        intro ac F
        obtain ⟨pd33, pe33, -, -, pc33⟩ := hnd.at (j := i) (by omega)
        subst pe33
        replace hC : RCells w23 [(⟨w.heap.size, 0, none⟩, .int .i64 gr), (⟨w.heap.size, 1, none⟩, .int .i64 hold), (⟨w.heap.size, 2, none⟩, .slice (some pd33) n nc), (pd30.add k, .int .i64 ((playRows gr hold nd t l)[k]?.getD 0)), (pd33.add (i * 5), .int .i64 (cv nd i 0)), (⟨(pd33.add (i * 5)).block, (pd33.add (i * 5)).off + 1, none⟩, .int .i64 (cv nd i 1)), (⟨(pd33.add (i * 5)).block, (pd33.add (i * 5)).off + 2, none⟩, .int .i64 (cv nd i 2)), (⟨(pd33.add (i * 5)).block, (pd33.add (i * 5)).off + 3, none⟩, .int .i64 (cv nd i 3)), (⟨(pd33.add (i * 5)).block, (pd33.add (i * 5)).off + 4, none⟩, .int .i64 (cv nd i 4))] := hC.append ((RCells.cons (pc33 0 (by decide)) (RCells.cons (pc33 1 (by decide)) (RCells.cons (pc33 2 (by decide)) (RCells.cons (pc33 3 (by decide)) (RCells.cons (pc33 4 (by decide)) (RCells.nil _)))))))
        clear pc33
        refine Y.pval F (X.w0 rfl) rfl (X.index rfl (F.ev 175 (.slice (some pd33) n nc)) (F.ev 176 (.int .i64 i)) (X.idx (k := i) Try.underlying22 (Try.siz31 _) (by omega) (by omega) rfl)) ?_
        clear F ac
        intro ac F
        refine Y.pval F (X.w0 rfl) rfl (X.field rfl (F.ev 177 (.pointer (some (pd33.add (i * 5))))) (X.fld Try.underlying31 rfl (Try.siz3 _) rfl rfl)) ?_
        clear F ac
        intro ac F
        refine Y.pval F (X.w0 rfl) rfl (X.load rfl (F.ev 178 (.pointer (some (⟨(pd33.add (i * 5)).block, (pd33.add (i * 5)).off + 2, none⟩)))) (X.ld1 (Try.agg3 _) (hC.at 6 rfl))) ?_
        clear F ac
        intro ac F
        refine Y.pval F (X.w0 rfl) rfl (X.binop rfl (F.ev 173 (.int .i64 (enS nd ((playRows gr hold nd t l).take k) i))) (F.ev 179 (.int .i64 (cv nd i 2))) (X.addI Try.underlying3 rfl (by omega) (by omega))) ?_
        clear F ac
        intro ac F
        refine Y.pval F (X.w0 rfl) rfl (X.assign rfl (F.ev 180 (.int .i64 ((enS nd ((playRows gr hold nd t l).take k) i : Int) + (cv nd i 2))))) ?_
        clear F ac
        intro ac F
        refine Y.nil ?_
        replace F : Fr ac 188 [(0, .agg #[.int .i64 gr, .int .i64 hold, .slice (some pd33) n nc]), (1, .int .i64 t), (2, .slice la m lc), (3, .pointer (some ⟨w.heap.size, 0, none⟩)), (7, .slice (some pd30) t.toNat rc5), (8, .slice ea5 n ec5), (9, .int .i64 (playE gr hold nd t l)), (10, .slice ka7 t.toNat kc7), (11, .int .i64 (playE gr hold nd t l)), (12, .int .i64 i), (13, .int .i64 ((enS nd ((playRows gr hold nd t l).take k) i : Int) + (cv nd i 2))), (14, .int .i64 k), (15, .bool true), (16, .int .i64 j), (17, .int .i64 z), (19, .bool false), (41, .bool false), (65, .bool false), (70, .bool true), (75, .bool true), (86, .bool false), (107, .bool false), (158, .bool false), (164, .bool false)] := F.sub _
        refine X.blockN ?_
        refine X.thenN ?_
        refine Y.lit (by kernel_rfl) ?_
        refine Y.pval F (X.w0 rfl) rfl (X.move rfl (F.ev 14 (.int .i64 k))) ?_
        clear F ac
        intro ac F
        refine Y.pval F (X.w0 rfl) rfl (X.binop rfl (F.ev 76 (.int .i64 k)) (X.kc (.int .i64 1) rfl) (X.addI Try.underlying3 rfl (by omega) (by omega))) ?_
        clear F ac
        intro ac F
        refine Y.pval F (X.w0 rfl) rfl (X.assign rfl (F.ev 77 (.int .i64 ((k : Int) + 1)))) ?_
        clear F ac
        intro ac F
        refine Y.nil ?_
        replace F : Fr ac 188 [(0, .agg #[.int .i64 gr, .int .i64 hold, .slice (some pd33) n nc]), (1, .int .i64 t), (2, .slice la m lc), (3, .pointer (some ⟨w.heap.size, 0, none⟩)), (7, .slice (some pd30) t.toNat rc5), (8, .slice ea5 n ec5), (9, .int .i64 (playE gr hold nd t l)), (10, .slice ka7 t.toNat kc7), (11, .int .i64 (playE gr hold nd t l)), (12, .int .i64 i), (13, .int .i64 ((enS nd ((playRows gr hold nd t l).take k) i : Int) + (cv nd i 2))), (14, .int .i64 ((k : Int) + 1)), (15, .bool true), (16, .int .i64 j), (17, .int .i64 z), (19, .bool false), (41, .bool false), (65, .bool false), (70, .bool true), (75, .bool true), (86, .bool false), (107, .bool false), (158, .bool false), (164, .bool false)] := F.sub _
        refine X.thenN ?_
        refine ⟨_, ?_, k + 1, rfl, GBB_, by omega, (by rw [enS_take (by omega) i, show en1 nd ((playRows gr hold nd t l)[k]?.getD 0) i = cv nd i 2 from by unfold en1; rw [h32]; rfl]; exact F.sub _)⟩
        omega
      | true =>
       try rw [h24] at F
       have h24p : ((z : Int) < m) := of_decide_eq_true h24
       refine Y.condT (F.ev 107 (.bool true)) ?_
       refine Y.skip ?_
       refine X.thenN ?_
       refine Y.seq ?_
       refine Y.block ?_
       cases h34 : q2 with
       | false =>
        try rw [h34] at F
        refine Y.region F [some (.bool false), some (.bool false), none, none, none, none, none, none, none, none, none, none, none, none, none, none, none, none, none, none, none, none, none, none, none, none, none, none, none, none, none, none, none, none, none, none, none, none, none, some (.bool false), some (.bool false)] [(8, Y.MP.un), (17, Y.MP.un), (26, Y.MP.un)] rfl ⟨by kernel_rfl, of_decide_eq_true (by kernel_rfl), by kernel_rfl, by kernel_rfl, by kernel_rfl⟩ ⟨?_, ?_, ?_, ?_, ?_, ?_, ?_, ?_, ?_, ?_, ?_, ?_, ?_, ?_, ?_, ?_, ?_, ?_, ?_, ?_, ?_, ?_, ?_, ?_, ?_, ?_, ?_, ?_, ?_, ?_, ?_, ?_, ?_, ?_, ?_, ?_, ?_, ?_, ?_, ?_, ?_, trivial⟩ ?_
        ·intro ac done u W Sx hR
         exact X.val (X.w0 rfl) rfl (X.move rfl (Sx.ev 15 (.bool false))) (hR.step (Gr.refl _) rfl)
        ·intro ac done u W Sx hR
         exact X.val (X.w0 rfl) rfl (X.move rfl (Sx.ev 110 (.bool false))) (hR.step (Gr.refl _) rfl)
        ·intro ac done u W Sx hR
         exact X.skip (X.w2 rfl (Sx.yl 1 111 false (by kernel_rfl) rfl rfl) rfl) rfl (hR.skip rfl)
        ·intro ac done u W Sx hR
         exact X.skip (X.w2 rfl (Sx.yl 1 111 false (by kernel_rfl) rfl rfl) rfl) rfl (hR.skip rfl)
        ·intro ac done u W Sx hR
         exact X.skip (X.w2 rfl (Sx.yl 1 111 false (by kernel_rfl) rfl rfl) rfl) rfl (hR.skip rfl)
        ·intro ac done u W Sx hR
         exact X.skip (X.w2 rfl (Sx.yl 1 111 false (by kernel_rfl) rfl rfl) rfl) rfl (hR.skip rfl)
        ·intro ac done u W Sx hR
         exact X.skip (X.w2 rfl (Sx.yl 1 111 false (by kernel_rfl) rfl rfl) rfl) rfl (hR.skip rfl)
        ·intro ac done u W Sx hR
         exact X.skip (X.w2 rfl (Sx.yl 1 111 false (by kernel_rfl) rfl rfl) rfl) rfl (hR.skip rfl)
        ·intro ac done u W Sx hR
         exact X.skip (X.w2 rfl (Sx.yl 1 111 false (by kernel_rfl) rfl rfl) rfl) rfl (hR.skipU rfl)
        ·intro ac done u W Sx hR
         have e8 := hR.get (i := 8) Y.MP.un rfl (Sx.an 8 (by kernel_rfl))
         exact X.skip (Y.w3 rfl (Sx.yn (j := 8) (d := 118) rfl e8)) rfl (hR.skip rfl)
        ·intro ac done u W Sx hR
         have e8 := hR.get (i := 8) Y.MP.un rfl (Sx.an 8 (by kernel_rfl))
         exact X.skip (Y.w3 rfl (Sx.yn (j := 8) (d := 118) rfl e8)) rfl (hR.skip rfl)
        ·intro ac done u W Sx hR
         have e8 := hR.get (i := 8) Y.MP.un rfl (Sx.an 8 (by kernel_rfl))
         exact X.skip (Y.w3 rfl (Sx.yn (j := 8) (d := 118) rfl e8)) rfl (hR.skip rfl)
        ·intro ac done u W Sx hR
         have e8 := hR.get (i := 8) Y.MP.un rfl (Sx.an 8 (by kernel_rfl))
         exact X.skip (Y.w3 rfl (Sx.yn (j := 8) (d := 118) rfl e8)) rfl (hR.skip rfl)
        ·intro ac done u W Sx hR
         have e8 := hR.get (i := 8) Y.MP.un rfl (Sx.an 8 (by kernel_rfl))
         exact X.skip (Y.w3 rfl (Sx.yn (j := 8) (d := 118) rfl e8)) rfl (hR.skip rfl)
        ·intro ac done u W Sx hR
         have e8 := hR.get (i := 8) Y.MP.un rfl (Sx.an 8 (by kernel_rfl))
         exact X.skip (Y.w3 rfl (Sx.yn (j := 8) (d := 118) rfl e8)) rfl (hR.skip rfl)
        ·intro ac done u W Sx hR
         have e8 := hR.get (i := 8) Y.MP.un rfl (Sx.an 8 (by kernel_rfl))
         exact X.skip (Y.w3 rfl (Sx.yn (j := 8) (d := 118) rfl e8)) rfl (hR.skip rfl)
        ·intro ac done u W Sx hR
         exact X.skip (X.w2 rfl (Sx.yl 1 111 false (by kernel_rfl) rfl rfl) rfl) rfl (hR.skip rfl)
        ·intro ac done u W Sx hR
         exact X.skip (X.w2 rfl (Sx.yl 1 111 false (by kernel_rfl) rfl rfl) rfl) rfl (hR.skipU rfl)
        ·intro ac done u W Sx hR
         have e17 := hR.get (i := 17) Y.MP.un rfl (Sx.an 17 (by kernel_rfl))
         exact X.skip (Y.w3 rfl (Sx.yn (j := 17) (d := 127) rfl e17)) rfl (hR.skip rfl)
        ·intro ac done u W Sx hR
         have e17 := hR.get (i := 17) Y.MP.un rfl (Sx.an 17 (by kernel_rfl))
         exact X.skip (Y.w3 rfl (Sx.yn (j := 17) (d := 127) rfl e17)) rfl (hR.skip rfl)
        ·intro ac done u W Sx hR
         have e17 := hR.get (i := 17) Y.MP.un rfl (Sx.an 17 (by kernel_rfl))
         exact X.skip (Y.w3 rfl (Sx.yn (j := 17) (d := 127) rfl e17)) rfl (hR.skip rfl)
        ·intro ac done u W Sx hR
         have e17 := hR.get (i := 17) Y.MP.un rfl (Sx.an 17 (by kernel_rfl))
         exact X.skip (Y.w3 rfl (Sx.yn (j := 17) (d := 127) rfl e17)) rfl (hR.skip rfl)
        ·intro ac done u W Sx hR
         have e17 := hR.get (i := 17) Y.MP.un rfl (Sx.an 17 (by kernel_rfl))
         exact X.skip (Y.w3 rfl (Sx.yn (j := 17) (d := 127) rfl e17)) rfl (hR.skip rfl)
        ·intro ac done u W Sx hR
         have e17 := hR.get (i := 17) Y.MP.un rfl (Sx.an 17 (by kernel_rfl))
         exact X.skip (Y.w3 rfl (Sx.yn (j := 17) (d := 127) rfl e17)) rfl (hR.skip rfl)
        ·intro ac done u W Sx hR
         have e17 := hR.get (i := 17) Y.MP.un rfl (Sx.an 17 (by kernel_rfl))
         exact X.skip (Y.w3 rfl (Sx.yn (j := 17) (d := 127) rfl e17)) rfl (hR.skip rfl)
        ·intro ac done u W Sx hR
         exact X.skip (X.w2 rfl (Sx.yl 1 111 false (by kernel_rfl) rfl rfl) rfl) rfl (hR.skip rfl)
        ·intro ac done u W Sx hR
         exact X.skip (X.w2 rfl (Sx.yl 1 111 false (by kernel_rfl) rfl rfl) rfl) rfl (hR.skipU rfl)
        ·intro ac done u W Sx hR
         have e26 := hR.get (i := 26) Y.MP.un rfl (Sx.an 26 (by kernel_rfl))
         exact X.skip (Y.w3 rfl (Sx.yn (j := 26) (d := 136) rfl e26)) rfl (hR.skip rfl)
        ·intro ac done u W Sx hR
         have e26 := hR.get (i := 26) Y.MP.un rfl (Sx.an 26 (by kernel_rfl))
         exact X.skip (Y.w3 rfl (Sx.yn (j := 26) (d := 136) rfl e26)) rfl (hR.skip rfl)
        ·intro ac done u W Sx hR
         have e26 := hR.get (i := 26) Y.MP.un rfl (Sx.an 26 (by kernel_rfl))
         exact X.skip (Y.w3 rfl (Sx.yn (j := 26) (d := 136) rfl e26)) rfl (hR.skip rfl)
        ·intro ac done u W Sx hR
         have e26 := hR.get (i := 26) Y.MP.un rfl (Sx.an 26 (by kernel_rfl))
         exact X.skip (Y.w3 rfl (Sx.yn (j := 26) (d := 136) rfl e26)) rfl (hR.skip rfl)
        ·intro ac done u W Sx hR
         have e26 := hR.get (i := 26) Y.MP.un rfl (Sx.an 26 (by kernel_rfl))
         exact X.skip (Y.w3 rfl (Sx.yn (j := 26) (d := 136) rfl e26)) rfl (hR.skip rfl)
        ·intro ac done u W Sx hR
         have e26 := hR.get (i := 26) Y.MP.un rfl (Sx.an 26 (by kernel_rfl))
         exact X.skip (Y.w3 rfl (Sx.yn (j := 26) (d := 136) rfl e26)) rfl (hR.skip rfl)
        ·intro ac done u W Sx hR
         have e26 := hR.get (i := 26) Y.MP.un rfl (Sx.an 26 (by kernel_rfl))
         exact X.skip (Y.w3 rfl (Sx.yn (j := 26) (d := 136) rfl e26)) rfl (hR.skip rfl)
        ·intro ac done u W Sx hR
         have e26 := hR.get (i := 26) Y.MP.un rfl (Sx.an 26 (by kernel_rfl))
         exact X.skip (Y.w3 rfl (Sx.yn (j := 26) (d := 136) rfl e26)) rfl (hR.skip rfl)
        ·intro ac done u W Sx hR
         have e26 := hR.get (i := 26) Y.MP.un rfl (Sx.an 26 (by kernel_rfl))
         exact X.skip (Y.w3 rfl (Sx.yn (j := 26) (d := 136) rfl e26)) rfl (hR.skip rfl)
        ·intro ac done u W Sx hR
         have e26 := hR.get (i := 26) Y.MP.un rfl (Sx.an 26 (by kernel_rfl))
         exact X.skip (Y.w3 rfl (Sx.yn (j := 26) (d := 136) rfl e26)) rfl (hR.skip rfl)
        ·intro ac done u W Sx hR
         exact X.skip (X.w2 rfl (Sx.yl 1 111 false (by kernel_rfl) rfl rfl) rfl) rfl (hR.skip rfl)
        ·intro ac done u W Sx hR
         exact X.skip (X.w2 rfl (Sx.yl 1 111 false (by kernel_rfl) rfl rfl) rfl) rfl (hR.skip rfl)
        ·intro ac done u W Sx hR
         exact X.val (X.w0 rfl) rfl (X.pickF rfl (Sx.ev 111 (.bool false)) (X.kc (.bool false) rfl)) (hR.step (Gr.refl _) rfl)
        ·intro ac done u W Sx hR
         exact X.val (X.w0 rfl) rfl (X.assign rfl (Sx.ev 149 (.bool false))) (hR.step (Gr.refl _) rfl)
        intro ac u w35 hs hd hl ho hR
        have g : Gr w23 w35 := hR.1
        replace F : Fr ac 188 [(0, .agg #[.int .i64 gr, .int .i64 hold, .slice na n nc]), (1, .int .i64 t), (2, .slice la m lc), (3, .pointer (some ⟨w.heap.size, 0, none⟩)), (7, .slice ra5 t.toNat rc5), (8, .slice ea5 n ec5), (9, .int .i64 (playE gr hold nd t l)), (10, .slice ka7 t.toNat kc7), (11, .int .i64 (playE gr hold nd t l)), (12, .int .i64 i), (13, .int .i64 (enS nd ((playRows gr hold nd t l).take k) i)), (14, .int .i64 k), (15, .bool false), (16, .int .i64 j), (17, .int .i64 z), (19, .bool false), (41, .bool false), (65, .bool false), (70, .bool true), (75, .bool true), (86, .bool false), (107, .bool true)] := X.fr hs hd hl _ (by kernel_rfl)
        clear hs hd hl ho hR
        replace G := G.trans g
        replace hC := hC.gr g
        replace GB_ := GB_.trans g
        replace GBB_ := GBB_.trans g
        replace GBBB_ := GBBB_.trans g
        replace GBBBB_ := GBBBB_.trans g
        replace hnd := hnd.gr g
        replace hl := hl.gr g
        replace hr5 := hr5.gr g
        replace he5 := he5.gr g
        replace hk7 := hk7.gr g
        clear g
        refine X.blockN ?_
        refine X.thenN ?_
        refine Y.lit (by kernel_rfl) ?_
        refine Y.pval F (X.w0 rfl) rfl (X.move rfl (F.ev 17 (.int .i64 z))) ?_
        clear F ac
        intro ac F
        refine Y.pval F (X.w0 rfl) rfl (X.binop rfl (F.ev 108 (.int .i64 z)) (X.kc (.int .i64 1) rfl) (X.addI Try.underlying3 rfl (by omega) (by omega))) ?_
        clear F ac
        intro ac F
        refine Y.pval F (X.w0 rfl) rfl (X.assign rfl (F.ev 109 (.int .i64 ((z : Int) + 1)))) ?_
        clear F ac
        intro ac F
        refine Y.nil ?_
        replace F : Fr ac 188 [(0, .agg #[.int .i64 gr, .int .i64 hold, .slice na n nc]), (1, .int .i64 t), (2, .slice la m lc), (3, .pointer (some ⟨w.heap.size, 0, none⟩)), (7, .slice ra5 t.toNat rc5), (8, .slice ea5 n ec5), (9, .int .i64 (playE gr hold nd t l)), (10, .slice ka7 t.toNat kc7), (11, .int .i64 (playE gr hold nd t l)), (12, .int .i64 i), (13, .int .i64 (enS nd ((playRows gr hold nd t l).take k) i)), (14, .int .i64 k), (15, .bool false), (16, .int .i64 j), (17, .int .i64 ((z : Int) + 1)), (19, .bool false), (41, .bool false), (65, .bool false), (70, .bool true), (75, .bool true), (86, .bool false), (107, .bool true)] := F.sub _
        refine X.thenN ?_
        refine ⟨_, ?_, z + 1, false, rfl, GBBBB_, by omega, (fun h => by cases h), F.sub _⟩
        omega
       | true =>
        try rw [h34] at F
        obtain ⟨pd36, pe36, -, -, pc36⟩ := hl.at (j := z) (by omega)
        subst pe36
        replace hC : RCells w23 [(⟨w.heap.size, 0, none⟩, .int .i64 gr), (⟨w.heap.size, 1, none⟩, .int .i64 hold), (⟨w.heap.size, 2, none⟩, .slice na n nc), (pd36.add (z * 4), .int .i64 (cv l z 0)), (⟨(pd36.add (z * 4)).block, (pd36.add (z * 4)).off + 1, none⟩, .int .i64 (cv l z 1)), (⟨(pd36.add (z * 4)).block, (pd36.add (z * 4)).off + 2, none⟩, .int .i64 (cv l z 2)), (⟨(pd36.add (z * 4)).block, (pd36.add (z * 4)).off + 3, none⟩, .int .i64 (cv l z 3))] := hC.append ((RCells.cons (pc36 0 (by decide)) (RCells.cons (pc36 1 (by decide)) (RCells.cons (pc36 2 (by decide)) (RCells.cons (pc36 3 (by decide)) (RCells.nil _))))))
        clear pc36
        cases h37 : ((cv l z 1 : Int) == 3) with
        | false =>
         try rw [h37] at F
         have h37p : ¬ (cv l z 1 : Int) = 3 := by simpa using h37
         refine Y.region F [some (.bool true), some (.bool true), some (.slice (some pd36) m lc), some (.int .i64 z), some (.pointer (some (pd36.add (z * 4)))), some (.pointer (some (⟨(pd36.add (z * 4)).block, (pd36.add (z * 4)).off + 1, none⟩))), some (.int .i64 (cv l z 1)), some (.bool false), some (.bool false), none, none, none, none, none, none, none, some (.bool false), some (.bool false), none, none, none, none, none, none, none, some (.bool false), some (.bool false), none, none, none, none, none, none, none, none, none, none, some (.bool false), some (.bool true), some (.bool true), some (.bool true)] [] rfl ⟨by kernel_rfl, of_decide_eq_true (by kernel_rfl), by kernel_rfl, by kernel_rfl, by kernel_rfl⟩ ⟨?_, ?_, ?_, ?_, ?_, ?_, ?_, ?_, ?_, ?_, ?_, ?_, ?_, ?_, ?_, ?_, ?_, ?_, ?_, ?_, ?_, ?_, ?_, ?_, ?_, ?_, ?_, ?_, ?_, ?_, ?_, ?_, ?_, ?_, ?_, ?_, ?_, ?_, ?_, ?_, ?_, trivial⟩ ?_
         ·intro ac done u W Sx hR
          exact X.val (X.w0 rfl) rfl (X.move rfl (Sx.ev 15 (.bool true))) (hR.step (Gr.refl _) rfl)
         ·intro ac done u W Sx hR
          exact X.val (X.w0 rfl) rfl (X.move rfl (Sx.ev 110 (.bool true))) (hR.step (Gr.refl _) rfl)
         ·intro ac done u W Sx hR
          exact X.val (X.w1 rfl (Sx.yl 1 111 true (by kernel_rfl) rfl rfl)) rfl (X.move rfl (Sx.ev 2 (.slice (some pd36) m lc))) (hR.step (Gr.refl _) rfl)
         ·intro ac done u W Sx hR
          exact X.val (X.w1 rfl (Sx.yl 1 111 true (by kernel_rfl) rfl rfl)) rfl (X.move rfl (Sx.ev 17 (.int .i64 z))) (hR.step (Gr.refl _) rfl)
         ·intro ac done u W Sx hR
          exact X.val (X.w1 rfl (Sx.yl 1 111 true (by kernel_rfl) rfl rfl)) rfl (X.index rfl (Sx.ev 112 (.slice (some pd36) m lc)) (Sx.ev 113 (.int .i64 z)) (X.idx (k := z) Try.underlying25 (Try.siz33 _) (by omega) (by omega) rfl)) (hR.step (Gr.refl _) rfl)
         ·intro ac done u W Sx hR
          exact X.val (X.w1 rfl (Sx.yl 1 111 true (by kernel_rfl) rfl rfl)) rfl (X.field rfl (Sx.ev 114 (.pointer (some (pd36.add (z * 4))))) (X.fld Try.underlying33 rfl (Try.siz3 _) rfl rfl)) (hR.step (Gr.refl _) rfl)
         ·intro ac done u W Sx hR
          have g : Gr w23 W := hR.1
          exact X.val (X.w1 rfl (Sx.yl 1 111 true (by kernel_rfl) rfl rfl)) rfl (X.load rfl (Sx.ev 115 (.pointer (some (⟨(pd36.add (z * 4)).block, (pd36.add (z * 4)).off + 1, none⟩)))) (X.ld1 (Try.agg3 _) ((hC.gr g).at 4 rfl))) (hR.step (Gr.refl _) rfl)
         ·intro ac done u W Sx hR
          exact X.val (X.w1 rfl (Sx.yl 1 111 true (by kernel_rfl) rfl rfl)) rfl (X.binop rfl (Sx.ev 116 (.int .i64 (cv l z 1))) (X.kc (.int .i64 3) rfl) (X.eqlI Try.underlying3 h37)) (hR.step (Gr.refl _) rfl)
         ·intro ac done u W Sx hR
          exact X.val (X.w1 rfl (Sx.yl 1 111 true (by kernel_rfl) rfl rfl)) rfl (X.move rfl (Sx.ev 117 (.bool false))) (hR.step (Gr.refl _) rfl)
         ·intro ac done u W Sx hR
          exact X.skip (X.w2 rfl (Sx.yl 8 118 false (by kernel_rfl) rfl rfl) rfl) rfl (hR.skip rfl)
         ·intro ac done u W Sx hR
          exact X.skip (X.w2 rfl (Sx.yl 8 118 false (by kernel_rfl) rfl rfl) rfl) rfl (hR.skip rfl)
         ·intro ac done u W Sx hR
          exact X.skip (X.w2 rfl (Sx.yl 8 118 false (by kernel_rfl) rfl rfl) rfl) rfl (hR.skip rfl)
         ·intro ac done u W Sx hR
          exact X.skip (X.w2 rfl (Sx.yl 8 118 false (by kernel_rfl) rfl rfl) rfl) rfl (hR.skip rfl)
         ·intro ac done u W Sx hR
          exact X.skip (X.w2 rfl (Sx.yl 8 118 false (by kernel_rfl) rfl rfl) rfl) rfl (hR.skip rfl)
         ·intro ac done u W Sx hR
          exact X.skip (X.w2 rfl (Sx.yl 8 118 false (by kernel_rfl) rfl rfl) rfl) rfl (hR.skip rfl)
         ·intro ac done u W Sx hR
          exact X.skip (X.w2 rfl (Sx.yl 8 118 false (by kernel_rfl) rfl rfl) rfl) rfl (hR.skip rfl)
         ·intro ac done u W Sx hR
          exact X.val (X.w1 rfl (Sx.yl 1 111 true (by kernel_rfl) rfl rfl)) rfl (X.pickF rfl (Sx.ev 118 (.bool false)) (X.kc (.bool false) rfl)) (hR.step (Gr.refl _) rfl)
         ·intro ac done u W Sx hR
          exact X.val (X.w1 rfl (Sx.yl 1 111 true (by kernel_rfl) rfl rfl)) rfl (X.move rfl (Sx.ev 126 (.bool false))) (hR.step (Gr.refl _) rfl)
         ·intro ac done u W Sx hR
          exact X.skip (X.w2 rfl (Sx.yl 17 127 false (by kernel_rfl) rfl rfl) rfl) rfl (hR.skip rfl)
         ·intro ac done u W Sx hR
          exact X.skip (X.w2 rfl (Sx.yl 17 127 false (by kernel_rfl) rfl rfl) rfl) rfl (hR.skip rfl)
         ·intro ac done u W Sx hR
          exact X.skip (X.w2 rfl (Sx.yl 17 127 false (by kernel_rfl) rfl rfl) rfl) rfl (hR.skip rfl)
         ·intro ac done u W Sx hR
          exact X.skip (X.w2 rfl (Sx.yl 17 127 false (by kernel_rfl) rfl rfl) rfl) rfl (hR.skip rfl)
         ·intro ac done u W Sx hR
          exact X.skip (X.w2 rfl (Sx.yl 17 127 false (by kernel_rfl) rfl rfl) rfl) rfl (hR.skip rfl)
         ·intro ac done u W Sx hR
          exact X.skip (X.w2 rfl (Sx.yl 17 127 false (by kernel_rfl) rfl rfl) rfl) rfl (hR.skip rfl)
         ·intro ac done u W Sx hR
          exact X.skip (X.w2 rfl (Sx.yl 17 127 false (by kernel_rfl) rfl rfl) rfl) rfl (hR.skip rfl)
         ·intro ac done u W Sx hR
          exact X.val (X.w1 rfl (Sx.yl 1 111 true (by kernel_rfl) rfl rfl)) rfl (X.pickF rfl (Sx.ev 127 (.bool false)) (X.kc (.bool false) rfl)) (hR.step (Gr.refl _) rfl)
         ·intro ac done u W Sx hR
          exact X.val (X.w1 rfl (Sx.yl 1 111 true (by kernel_rfl) rfl rfl)) rfl (X.move rfl (Sx.ev 135 (.bool false))) (hR.step (Gr.refl _) rfl)
         ·intro ac done u W Sx hR
          exact X.skip (X.w2 rfl (Sx.yl 26 136 false (by kernel_rfl) rfl rfl) rfl) rfl (hR.skip rfl)
         ·intro ac done u W Sx hR
          exact X.skip (X.w2 rfl (Sx.yl 26 136 false (by kernel_rfl) rfl rfl) rfl) rfl (hR.skip rfl)
         ·intro ac done u W Sx hR
          exact X.skip (X.w2 rfl (Sx.yl 26 136 false (by kernel_rfl) rfl rfl) rfl) rfl (hR.skip rfl)
         ·intro ac done u W Sx hR
          exact X.skip (X.w2 rfl (Sx.yl 26 136 false (by kernel_rfl) rfl rfl) rfl) rfl (hR.skip rfl)
         ·intro ac done u W Sx hR
          exact X.skip (X.w2 rfl (Sx.yl 26 136 false (by kernel_rfl) rfl rfl) rfl) rfl (hR.skip rfl)
         ·intro ac done u W Sx hR
          exact X.skip (X.w2 rfl (Sx.yl 26 136 false (by kernel_rfl) rfl rfl) rfl) rfl (hR.skip rfl)
         ·intro ac done u W Sx hR
          exact X.skip (X.w2 rfl (Sx.yl 26 136 false (by kernel_rfl) rfl rfl) rfl) rfl (hR.skip rfl)
         ·intro ac done u W Sx hR
          exact X.skip (X.w2 rfl (Sx.yl 26 136 false (by kernel_rfl) rfl rfl) rfl) rfl (hR.skip rfl)
         ·intro ac done u W Sx hR
          exact X.skip (X.w2 rfl (Sx.yl 26 136 false (by kernel_rfl) rfl rfl) rfl) rfl (hR.skip rfl)
         ·intro ac done u W Sx hR
          exact X.skip (X.w2 rfl (Sx.yl 26 136 false (by kernel_rfl) rfl rfl) rfl) rfl (hR.skip rfl)
         ·intro ac done u W Sx hR
          exact X.val (X.w1 rfl (Sx.yl 1 111 true (by kernel_rfl) rfl rfl)) rfl (X.pickF rfl (Sx.ev 136 (.bool false)) (X.kc (.bool false) rfl)) (hR.step (Gr.refl _) rfl)
         ·intro ac done u W Sx hR
          exact X.val (X.w1 rfl (Sx.yl 1 111 true (by kernel_rfl) rfl rfl)) rfl (X.notB rfl (Sx.ev 147 (.bool false)) rfl) (hR.step (Gr.refl _) rfl)
         ·intro ac done u W Sx hR
          exact X.val (X.w0 rfl) rfl (X.pickT rfl (Sx.ev 111 (.bool true)) (Sx.ev 148 (.bool true))) (hR.step (Gr.refl _) rfl)
         ·intro ac done u W Sx hR
          exact X.val (X.w0 rfl) rfl (X.assign rfl (Sx.ev 149 (.bool true))) (hR.step (Gr.refl _) rfl)
         intro ac u w38 hs hd hl ho hR
         have g : Gr w23 w38 := hR.1
         replace F : Fr ac 188 [(0, .agg #[.int .i64 gr, .int .i64 hold, .slice na n nc]), (1, .int .i64 t), (2, .slice (some pd36) m lc), (3, .pointer (some ⟨w.heap.size, 0, none⟩)), (7, .slice ra5 t.toNat rc5), (8, .slice ea5 n ec5), (9, .int .i64 (playE gr hold nd t l)), (10, .slice ka7 t.toNat kc7), (11, .int .i64 (playE gr hold nd t l)), (12, .int .i64 i), (13, .int .i64 (enS nd ((playRows gr hold nd t l).take k) i)), (14, .int .i64 k), (15, .bool true), (16, .int .i64 j), (17, .int .i64 z), (19, .bool false), (41, .bool false), (65, .bool false), (70, .bool true), (75, .bool true), (86, .bool false), (107, .bool true)] := X.fr hs hd hl _ (by kernel_rfl)
         clear hs hd hl ho hR
         replace G := G.trans g
         replace hC := hC.gr g
         replace GB_ := GB_.trans g
         replace GBB_ := GBB_.trans g
         replace GBBB_ := GBBB_.trans g
         replace GBBBB_ := GBBBB_.trans g
         replace hnd := hnd.gr g
         replace hl := hl.gr g
         replace hr5 := hr5.gr g
         replace he5 := he5.gr g
         replace hk7 := hk7.gr g
         clear g
         refine X.blockN ?_
         refine X.thenN ?_
         refine Y.lit (by kernel_rfl) ?_
         refine Y.pval F (X.w0 rfl) rfl (X.move rfl (F.ev 17 (.int .i64 z))) ?_
         clear F ac
         intro ac F
         refine Y.pval F (X.w0 rfl) rfl (X.binop rfl (F.ev 108 (.int .i64 z)) (X.kc (.int .i64 1) rfl) (X.addI Try.underlying3 rfl (by omega) (by omega))) ?_
         clear F ac
         intro ac F
         refine Y.pval F (X.w0 rfl) rfl (X.assign rfl (F.ev 109 (.int .i64 ((z : Int) + 1)))) ?_
         clear F ac
         intro ac F
         refine Y.nil ?_
         replace F : Fr ac 188 [(0, .agg #[.int .i64 gr, .int .i64 hold, .slice na n nc]), (1, .int .i64 t), (2, .slice (some pd36) m lc), (3, .pointer (some ⟨w.heap.size, 0, none⟩)), (7, .slice ra5 t.toNat rc5), (8, .slice ea5 n ec5), (9, .int .i64 (playE gr hold nd t l)), (10, .slice ka7 t.toNat kc7), (11, .int .i64 (playE gr hold nd t l)), (12, .int .i64 i), (13, .int .i64 (enS nd ((playRows gr hold nd t l).take k) i)), (14, .int .i64 k), (15, .bool true), (16, .int .i64 j), (17, .int .i64 ((z : Int) + 1)), (19, .bool false), (41, .bool false), (65, .bool false), (70, .bool true), (75, .bool true), (86, .bool false), (107, .bool true)] := F.sub _
         refine X.thenN ?_
         refine ⟨_, ?_, z + 1, true, rfl, GBBBB_, by omega, (fun h => ⟨(hq2 (by assumption)).1, fun b hb => by
          by_cases e : b = z
          ·subst e; omega
          ·exact (hq2 (by assumption)).2 b (by omega)⟩), F.sub _⟩
         omega
        | true =>
         try rw [h37] at F
         have h37p : (cv l z 1 : Int) = 3 := by simpa using h37
         cases h39 : ((cv l z 2 : Int) == i) with
         | false =>
          try rw [h39] at F
          have h39p : ¬ (cv l z 2 : Int) = i := by simpa using h39
          refine Y.region F [some (.bool true), some (.bool true), some (.slice (some pd36) m lc), some (.int .i64 z), some (.pointer (some (pd36.add (z * 4)))), some (.pointer (some (⟨(pd36.add (z * 4)).block, (pd36.add (z * 4)).off + 1, none⟩))), some (.int .i64 (cv l z 1)), some (.bool true), some (.bool true), some (.slice (some pd36) m lc), some (.int .i64 z), some (.pointer (some (pd36.add (z * 4)))), some (.pointer (some (⟨(pd36.add (z * 4)).block, (pd36.add (z * 4)).off + 2, none⟩))), some (.int .i64 (cv l z 2)), some (.int .i64 i), some (.bool false), some (.bool false), some (.bool false), none, none, none, none, none, none, none, some (.bool false), some (.bool false), none, none, none, none, none, none, none, none, none, none, some (.bool false), some (.bool true), some (.bool true), some (.bool true)] [] rfl ⟨by kernel_rfl, of_decide_eq_true (by kernel_rfl), by kernel_rfl, by kernel_rfl, by kernel_rfl⟩ ⟨?_, ?_, ?_, ?_, ?_, ?_, ?_, ?_, ?_, ?_, ?_, ?_, ?_, ?_, ?_, ?_, ?_, ?_, ?_, ?_, ?_, ?_, ?_, ?_, ?_, ?_, ?_, ?_, ?_, ?_, ?_, ?_, ?_, ?_, ?_, ?_, ?_, ?_, ?_, ?_, ?_, trivial⟩ ?_
          ·intro ac done u W Sx hR
           exact X.val (X.w0 rfl) rfl (X.move rfl (Sx.ev 15 (.bool true))) (hR.step (Gr.refl _) rfl)
          ·intro ac done u W Sx hR
           exact X.val (X.w0 rfl) rfl (X.move rfl (Sx.ev 110 (.bool true))) (hR.step (Gr.refl _) rfl)
          ·intro ac done u W Sx hR
           exact X.val (X.w1 rfl (Sx.yl 1 111 true (by kernel_rfl) rfl rfl)) rfl (X.move rfl (Sx.ev 2 (.slice (some pd36) m lc))) (hR.step (Gr.refl _) rfl)
          ·intro ac done u W Sx hR
           exact X.val (X.w1 rfl (Sx.yl 1 111 true (by kernel_rfl) rfl rfl)) rfl (X.move rfl (Sx.ev 17 (.int .i64 z))) (hR.step (Gr.refl _) rfl)
          ·intro ac done u W Sx hR
           exact X.val (X.w1 rfl (Sx.yl 1 111 true (by kernel_rfl) rfl rfl)) rfl (X.index rfl (Sx.ev 112 (.slice (some pd36) m lc)) (Sx.ev 113 (.int .i64 z)) (X.idx (k := z) Try.underlying25 (Try.siz33 _) (by omega) (by omega) rfl)) (hR.step (Gr.refl _) rfl)
          ·intro ac done u W Sx hR
           exact X.val (X.w1 rfl (Sx.yl 1 111 true (by kernel_rfl) rfl rfl)) rfl (X.field rfl (Sx.ev 114 (.pointer (some (pd36.add (z * 4))))) (X.fld Try.underlying33 rfl (Try.siz3 _) rfl rfl)) (hR.step (Gr.refl _) rfl)
          ·intro ac done u W Sx hR
           have g : Gr w23 W := hR.1
           exact X.val (X.w1 rfl (Sx.yl 1 111 true (by kernel_rfl) rfl rfl)) rfl (X.load rfl (Sx.ev 115 (.pointer (some (⟨(pd36.add (z * 4)).block, (pd36.add (z * 4)).off + 1, none⟩)))) (X.ld1 (Try.agg3 _) ((hC.gr g).at 4 rfl))) (hR.step (Gr.refl _) rfl)
          ·intro ac done u W Sx hR
           exact X.val (X.w1 rfl (Sx.yl 1 111 true (by kernel_rfl) rfl rfl)) rfl (X.binop rfl (Sx.ev 116 (.int .i64 (cv l z 1))) (X.kc (.int .i64 3) rfl) (X.eqlI Try.underlying3 h37)) (hR.step (Gr.refl _) rfl)
          ·intro ac done u W Sx hR
           exact X.val (X.w1 rfl (Sx.yl 1 111 true (by kernel_rfl) rfl rfl)) rfl (X.move rfl (Sx.ev 117 (.bool true))) (hR.step (Gr.refl _) rfl)
          ·intro ac done u W Sx hR
           exact X.val (X.w1 rfl (Sx.yl 8 118 true (by kernel_rfl) rfl rfl)) rfl (X.move rfl (Sx.ev 2 (.slice (some pd36) m lc))) (hR.step (Gr.refl _) rfl)
          ·intro ac done u W Sx hR
           exact X.val (X.w1 rfl (Sx.yl 8 118 true (by kernel_rfl) rfl rfl)) rfl (X.move rfl (Sx.ev 17 (.int .i64 z))) (hR.step (Gr.refl _) rfl)
          ·intro ac done u W Sx hR
           exact X.val (X.w1 rfl (Sx.yl 8 118 true (by kernel_rfl) rfl rfl)) rfl (X.index rfl (Sx.ev 119 (.slice (some pd36) m lc)) (Sx.ev 120 (.int .i64 z)) (X.idx (k := z) Try.underlying25 (Try.siz33 _) (by omega) (by omega) rfl)) (hR.step (Gr.refl _) rfl)
          ·intro ac done u W Sx hR
           exact X.val (X.w1 rfl (Sx.yl 8 118 true (by kernel_rfl) rfl rfl)) rfl (X.field rfl (Sx.ev 121 (.pointer (some (pd36.add (z * 4))))) (X.fld Try.underlying33 rfl (Try.siz3 _) rfl rfl)) (hR.step (Gr.refl _) rfl)
          ·intro ac done u W Sx hR
           have g : Gr w23 W := hR.1
           exact X.val (X.w1 rfl (Sx.yl 8 118 true (by kernel_rfl) rfl rfl)) rfl (X.load rfl (Sx.ev 122 (.pointer (some (⟨(pd36.add (z * 4)).block, (pd36.add (z * 4)).off + 2, none⟩)))) (X.ld1 (Try.agg3 _) ((hC.gr g).at 5 rfl))) (hR.step (Gr.refl _) rfl)
          ·intro ac done u W Sx hR
           exact X.val (X.w1 rfl (Sx.yl 8 118 true (by kernel_rfl) rfl rfl)) rfl (X.move rfl (Sx.ev 12 (.int .i64 i))) (hR.step (Gr.refl _) rfl)
          ·intro ac done u W Sx hR
           exact X.val (X.w1 rfl (Sx.yl 8 118 true (by kernel_rfl) rfl rfl)) rfl (X.binop rfl (Sx.ev 123 (.int .i64 (cv l z 2))) (Sx.ev 124 (.int .i64 i)) (X.eqlI Try.underlying3 h39)) (hR.step (Gr.refl _) rfl)
          ·intro ac done u W Sx hR
           exact X.val (X.w1 rfl (Sx.yl 1 111 true (by kernel_rfl) rfl rfl)) rfl (X.pickT rfl (Sx.ev 118 (.bool true)) (Sx.ev 125 (.bool false))) (hR.step (Gr.refl _) rfl)
          ·intro ac done u W Sx hR
           exact X.val (X.w1 rfl (Sx.yl 1 111 true (by kernel_rfl) rfl rfl)) rfl (X.move rfl (Sx.ev 126 (.bool false))) (hR.step (Gr.refl _) rfl)
          ·intro ac done u W Sx hR
           exact X.skip (X.w2 rfl (Sx.yl 17 127 false (by kernel_rfl) rfl rfl) rfl) rfl (hR.skip rfl)
          ·intro ac done u W Sx hR
           exact X.skip (X.w2 rfl (Sx.yl 17 127 false (by kernel_rfl) rfl rfl) rfl) rfl (hR.skip rfl)
          ·intro ac done u W Sx hR
           exact X.skip (X.w2 rfl (Sx.yl 17 127 false (by kernel_rfl) rfl rfl) rfl) rfl (hR.skip rfl)
          ·intro ac done u W Sx hR
           exact X.skip (X.w2 rfl (Sx.yl 17 127 false (by kernel_rfl) rfl rfl) rfl) rfl (hR.skip rfl)
          ·intro ac done u W Sx hR
           exact X.skip (X.w2 rfl (Sx.yl 17 127 false (by kernel_rfl) rfl rfl) rfl) rfl (hR.skip rfl)
          ·intro ac done u W Sx hR
           exact X.skip (X.w2 rfl (Sx.yl 17 127 false (by kernel_rfl) rfl rfl) rfl) rfl (hR.skip rfl)
          ·intro ac done u W Sx hR
           exact X.skip (X.w2 rfl (Sx.yl 17 127 false (by kernel_rfl) rfl rfl) rfl) rfl (hR.skip rfl)
          ·intro ac done u W Sx hR
           exact X.val (X.w1 rfl (Sx.yl 1 111 true (by kernel_rfl) rfl rfl)) rfl (X.pickF rfl (Sx.ev 127 (.bool false)) (X.kc (.bool false) rfl)) (hR.step (Gr.refl _) rfl)
          ·intro ac done u W Sx hR
           exact X.val (X.w1 rfl (Sx.yl 1 111 true (by kernel_rfl) rfl rfl)) rfl (X.move rfl (Sx.ev 135 (.bool false))) (hR.step (Gr.refl _) rfl)
          ·intro ac done u W Sx hR
           exact X.skip (X.w2 rfl (Sx.yl 26 136 false (by kernel_rfl) rfl rfl) rfl) rfl (hR.skip rfl)
          ·intro ac done u W Sx hR
           exact X.skip (X.w2 rfl (Sx.yl 26 136 false (by kernel_rfl) rfl rfl) rfl) rfl (hR.skip rfl)
          ·intro ac done u W Sx hR
           exact X.skip (X.w2 rfl (Sx.yl 26 136 false (by kernel_rfl) rfl rfl) rfl) rfl (hR.skip rfl)
          ·intro ac done u W Sx hR
           exact X.skip (X.w2 rfl (Sx.yl 26 136 false (by kernel_rfl) rfl rfl) rfl) rfl (hR.skip rfl)
          ·intro ac done u W Sx hR
           exact X.skip (X.w2 rfl (Sx.yl 26 136 false (by kernel_rfl) rfl rfl) rfl) rfl (hR.skip rfl)
          ·intro ac done u W Sx hR
           exact X.skip (X.w2 rfl (Sx.yl 26 136 false (by kernel_rfl) rfl rfl) rfl) rfl (hR.skip rfl)
          ·intro ac done u W Sx hR
           exact X.skip (X.w2 rfl (Sx.yl 26 136 false (by kernel_rfl) rfl rfl) rfl) rfl (hR.skip rfl)
          ·intro ac done u W Sx hR
           exact X.skip (X.w2 rfl (Sx.yl 26 136 false (by kernel_rfl) rfl rfl) rfl) rfl (hR.skip rfl)
          ·intro ac done u W Sx hR
           exact X.skip (X.w2 rfl (Sx.yl 26 136 false (by kernel_rfl) rfl rfl) rfl) rfl (hR.skip rfl)
          ·intro ac done u W Sx hR
           exact X.skip (X.w2 rfl (Sx.yl 26 136 false (by kernel_rfl) rfl rfl) rfl) rfl (hR.skip rfl)
          ·intro ac done u W Sx hR
           exact X.val (X.w1 rfl (Sx.yl 1 111 true (by kernel_rfl) rfl rfl)) rfl (X.pickF rfl (Sx.ev 136 (.bool false)) (X.kc (.bool false) rfl)) (hR.step (Gr.refl _) rfl)
          ·intro ac done u W Sx hR
           exact X.val (X.w1 rfl (Sx.yl 1 111 true (by kernel_rfl) rfl rfl)) rfl (X.notB rfl (Sx.ev 147 (.bool false)) rfl) (hR.step (Gr.refl _) rfl)
          ·intro ac done u W Sx hR
           exact X.val (X.w0 rfl) rfl (X.pickT rfl (Sx.ev 111 (.bool true)) (Sx.ev 148 (.bool true))) (hR.step (Gr.refl _) rfl)
          ·intro ac done u W Sx hR
           exact X.val (X.w0 rfl) rfl (X.assign rfl (Sx.ev 149 (.bool true))) (hR.step (Gr.refl _) rfl)
          intro ac u w40 hs hd hl ho hR
          have g : Gr w23 w40 := hR.1
          replace F : Fr ac 188 [(0, .agg #[.int .i64 gr, .int .i64 hold, .slice na n nc]), (1, .int .i64 t), (2, .slice (some pd36) m lc), (3, .pointer (some ⟨w.heap.size, 0, none⟩)), (7, .slice ra5 t.toNat rc5), (8, .slice ea5 n ec5), (9, .int .i64 (playE gr hold nd t l)), (10, .slice ka7 t.toNat kc7), (11, .int .i64 (playE gr hold nd t l)), (12, .int .i64 i), (13, .int .i64 (enS nd ((playRows gr hold nd t l).take k) i)), (14, .int .i64 k), (15, .bool true), (16, .int .i64 j), (17, .int .i64 z), (19, .bool false), (41, .bool false), (65, .bool false), (70, .bool true), (75, .bool true), (86, .bool false), (107, .bool true)] := X.fr hs hd hl _ (by kernel_rfl)
          clear hs hd hl ho hR
          replace G := G.trans g
          replace hC := hC.gr g
          replace GB_ := GB_.trans g
          replace GBB_ := GBB_.trans g
          replace GBBB_ := GBBB_.trans g
          replace GBBBB_ := GBBBB_.trans g
          replace hnd := hnd.gr g
          replace hl := hl.gr g
          replace hr5 := hr5.gr g
          replace he5 := he5.gr g
          replace hk7 := hk7.gr g
          clear g
          refine X.blockN ?_
          refine X.thenN ?_
          refine Y.lit (by kernel_rfl) ?_
          refine Y.pval F (X.w0 rfl) rfl (X.move rfl (F.ev 17 (.int .i64 z))) ?_
          clear F ac
          intro ac F
          refine Y.pval F (X.w0 rfl) rfl (X.binop rfl (F.ev 108 (.int .i64 z)) (X.kc (.int .i64 1) rfl) (X.addI Try.underlying3 rfl (by omega) (by omega))) ?_
          clear F ac
          intro ac F
          refine Y.pval F (X.w0 rfl) rfl (X.assign rfl (F.ev 109 (.int .i64 ((z : Int) + 1)))) ?_
          clear F ac
          intro ac F
          refine Y.nil ?_
          replace F : Fr ac 188 [(0, .agg #[.int .i64 gr, .int .i64 hold, .slice na n nc]), (1, .int .i64 t), (2, .slice (some pd36) m lc), (3, .pointer (some ⟨w.heap.size, 0, none⟩)), (7, .slice ra5 t.toNat rc5), (8, .slice ea5 n ec5), (9, .int .i64 (playE gr hold nd t l)), (10, .slice ka7 t.toNat kc7), (11, .int .i64 (playE gr hold nd t l)), (12, .int .i64 i), (13, .int .i64 (enS nd ((playRows gr hold nd t l).take k) i)), (14, .int .i64 k), (15, .bool true), (16, .int .i64 j), (17, .int .i64 ((z : Int) + 1)), (19, .bool false), (41, .bool false), (65, .bool false), (70, .bool true), (75, .bool true), (86, .bool false), (107, .bool true)] := F.sub _
          refine X.thenN ?_
          refine ⟨_, ?_, z + 1, true, rfl, GBBBB_, by omega, (fun h => ⟨(hq2 (by assumption)).1, fun b hb => by
           by_cases e : b = z
           ·subst e; omega
           ·exact (hq2 (by assumption)).2 b (by omega)⟩), F.sub _⟩
          omega
         | true =>
          try rw [h39] at F
          have h39p : (cv l z 2 : Int) = i := by simpa using h39
          cases h41 : decide ((cv l z 0 : Int) ≤ k) with
          | false =>
           try rw [h41] at F
           have h41p : ¬ ((cv l z 0 : Int) ≤ k) := of_decide_eq_false h41
           refine Y.region F [some (.bool true), some (.bool true), some (.slice (some pd36) m lc), some (.int .i64 z), some (.pointer (some (pd36.add (z * 4)))), some (.pointer (some (⟨(pd36.add (z * 4)).block, (pd36.add (z * 4)).off + 1, none⟩))), some (.int .i64 (cv l z 1)), some (.bool true), some (.bool true), some (.slice (some pd36) m lc), some (.int .i64 z), some (.pointer (some (pd36.add (z * 4)))), some (.pointer (some (⟨(pd36.add (z * 4)).block, (pd36.add (z * 4)).off + 2, none⟩))), some (.int .i64 (cv l z 2)), some (.int .i64 i), some (.bool true), some (.bool true), some (.bool true), some (.slice (some pd36) m lc), some (.int .i64 z), some (.pointer (some (pd36.add (z * 4)))), some (.pointer (some (pd36.add (z * 4)))), some (.int .i64 (cv l z 0)), some (.int .i64 k), some (.bool false), some (.bool false), some (.bool false), none, none, none, none, none, none, none, none, none, none, some (.bool false), some (.bool true), some (.bool true), some (.bool true)] [] rfl ⟨by kernel_rfl, of_decide_eq_true (by kernel_rfl), by kernel_rfl, by kernel_rfl, by kernel_rfl⟩ ⟨?_, ?_, ?_, ?_, ?_, ?_, ?_, ?_, ?_, ?_, ?_, ?_, ?_, ?_, ?_, ?_, ?_, ?_, ?_, ?_, ?_, ?_, ?_, ?_, ?_, ?_, ?_, ?_, ?_, ?_, ?_, ?_, ?_, ?_, ?_, ?_, ?_, ?_, ?_, ?_, ?_, trivial⟩ ?_
           ·intro ac done u W Sx hR
            exact X.val (X.w0 rfl) rfl (X.move rfl (Sx.ev 15 (.bool true))) (hR.step (Gr.refl _) rfl)
           ·intro ac done u W Sx hR
            exact X.val (X.w0 rfl) rfl (X.move rfl (Sx.ev 110 (.bool true))) (hR.step (Gr.refl _) rfl)
           ·intro ac done u W Sx hR
            exact X.val (X.w1 rfl (Sx.yl 1 111 true (by kernel_rfl) rfl rfl)) rfl (X.move rfl (Sx.ev 2 (.slice (some pd36) m lc))) (hR.step (Gr.refl _) rfl)
           ·intro ac done u W Sx hR
            exact X.val (X.w1 rfl (Sx.yl 1 111 true (by kernel_rfl) rfl rfl)) rfl (X.move rfl (Sx.ev 17 (.int .i64 z))) (hR.step (Gr.refl _) rfl)
           ·intro ac done u W Sx hR
            exact X.val (X.w1 rfl (Sx.yl 1 111 true (by kernel_rfl) rfl rfl)) rfl (X.index rfl (Sx.ev 112 (.slice (some pd36) m lc)) (Sx.ev 113 (.int .i64 z)) (X.idx (k := z) Try.underlying25 (Try.siz33 _) (by omega) (by omega) rfl)) (hR.step (Gr.refl _) rfl)
           ·intro ac done u W Sx hR
            exact X.val (X.w1 rfl (Sx.yl 1 111 true (by kernel_rfl) rfl rfl)) rfl (X.field rfl (Sx.ev 114 (.pointer (some (pd36.add (z * 4))))) (X.fld Try.underlying33 rfl (Try.siz3 _) rfl rfl)) (hR.step (Gr.refl _) rfl)
           ·intro ac done u W Sx hR
            have g : Gr w23 W := hR.1
            exact X.val (X.w1 rfl (Sx.yl 1 111 true (by kernel_rfl) rfl rfl)) rfl (X.load rfl (Sx.ev 115 (.pointer (some (⟨(pd36.add (z * 4)).block, (pd36.add (z * 4)).off + 1, none⟩)))) (X.ld1 (Try.agg3 _) ((hC.gr g).at 4 rfl))) (hR.step (Gr.refl _) rfl)
           ·intro ac done u W Sx hR
            exact X.val (X.w1 rfl (Sx.yl 1 111 true (by kernel_rfl) rfl rfl)) rfl (X.binop rfl (Sx.ev 116 (.int .i64 (cv l z 1))) (X.kc (.int .i64 3) rfl) (X.eqlI Try.underlying3 h37)) (hR.step (Gr.refl _) rfl)
           ·intro ac done u W Sx hR
            exact X.val (X.w1 rfl (Sx.yl 1 111 true (by kernel_rfl) rfl rfl)) rfl (X.move rfl (Sx.ev 117 (.bool true))) (hR.step (Gr.refl _) rfl)
           ·intro ac done u W Sx hR
            exact X.val (X.w1 rfl (Sx.yl 8 118 true (by kernel_rfl) rfl rfl)) rfl (X.move rfl (Sx.ev 2 (.slice (some pd36) m lc))) (hR.step (Gr.refl _) rfl)
           ·intro ac done u W Sx hR
            exact X.val (X.w1 rfl (Sx.yl 8 118 true (by kernel_rfl) rfl rfl)) rfl (X.move rfl (Sx.ev 17 (.int .i64 z))) (hR.step (Gr.refl _) rfl)
           ·intro ac done u W Sx hR
            exact X.val (X.w1 rfl (Sx.yl 8 118 true (by kernel_rfl) rfl rfl)) rfl (X.index rfl (Sx.ev 119 (.slice (some pd36) m lc)) (Sx.ev 120 (.int .i64 z)) (X.idx (k := z) Try.underlying25 (Try.siz33 _) (by omega) (by omega) rfl)) (hR.step (Gr.refl _) rfl)
           ·intro ac done u W Sx hR
            exact X.val (X.w1 rfl (Sx.yl 8 118 true (by kernel_rfl) rfl rfl)) rfl (X.field rfl (Sx.ev 121 (.pointer (some (pd36.add (z * 4))))) (X.fld Try.underlying33 rfl (Try.siz3 _) rfl rfl)) (hR.step (Gr.refl _) rfl)
           ·intro ac done u W Sx hR
            have g : Gr w23 W := hR.1
            exact X.val (X.w1 rfl (Sx.yl 8 118 true (by kernel_rfl) rfl rfl)) rfl (X.load rfl (Sx.ev 122 (.pointer (some (⟨(pd36.add (z * 4)).block, (pd36.add (z * 4)).off + 2, none⟩)))) (X.ld1 (Try.agg3 _) ((hC.gr g).at 5 rfl))) (hR.step (Gr.refl _) rfl)
           ·intro ac done u W Sx hR
            exact X.val (X.w1 rfl (Sx.yl 8 118 true (by kernel_rfl) rfl rfl)) rfl (X.move rfl (Sx.ev 12 (.int .i64 i))) (hR.step (Gr.refl _) rfl)
           ·intro ac done u W Sx hR
            exact X.val (X.w1 rfl (Sx.yl 8 118 true (by kernel_rfl) rfl rfl)) rfl (X.binop rfl (Sx.ev 123 (.int .i64 (cv l z 2))) (Sx.ev 124 (.int .i64 i)) (X.eqlI Try.underlying3 h39)) (hR.step (Gr.refl _) rfl)
           ·intro ac done u W Sx hR
            exact X.val (X.w1 rfl (Sx.yl 1 111 true (by kernel_rfl) rfl rfl)) rfl (X.pickT rfl (Sx.ev 118 (.bool true)) (Sx.ev 125 (.bool true))) (hR.step (Gr.refl _) rfl)
           ·intro ac done u W Sx hR
            exact X.val (X.w1 rfl (Sx.yl 1 111 true (by kernel_rfl) rfl rfl)) rfl (X.move rfl (Sx.ev 126 (.bool true))) (hR.step (Gr.refl _) rfl)
           ·intro ac done u W Sx hR
            exact X.val (X.w1 rfl (Sx.yl 17 127 true (by kernel_rfl) rfl rfl)) rfl (X.move rfl (Sx.ev 2 (.slice (some pd36) m lc))) (hR.step (Gr.refl _) rfl)
           ·intro ac done u W Sx hR
            exact X.val (X.w1 rfl (Sx.yl 17 127 true (by kernel_rfl) rfl rfl)) rfl (X.move rfl (Sx.ev 17 (.int .i64 z))) (hR.step (Gr.refl _) rfl)
           ·intro ac done u W Sx hR
            exact X.val (X.w1 rfl (Sx.yl 17 127 true (by kernel_rfl) rfl rfl)) rfl (X.index rfl (Sx.ev 128 (.slice (some pd36) m lc)) (Sx.ev 129 (.int .i64 z)) (X.idx (k := z) Try.underlying25 (Try.siz33 _) (by omega) (by omega) rfl)) (hR.step (Gr.refl _) rfl)
           ·intro ac done u W Sx hR
            exact X.val (X.w1 rfl (Sx.yl 17 127 true (by kernel_rfl) rfl rfl)) rfl (X.field rfl (Sx.ev 130 (.pointer (some (pd36.add (z * 4))))) (X.fld Try.underlying33 rfl (Try.siz3 _) rfl rfl)) (hR.step (Gr.refl _) rfl)
           ·intro ac done u W Sx hR
            have g : Gr w23 W := hR.1
            exact X.val (X.w1 rfl (Sx.yl 17 127 true (by kernel_rfl) rfl rfl)) rfl (X.load rfl (Sx.ev 131 (.pointer (some (pd36.add (z * 4))))) (X.ld1 (Try.agg3 _) ((hC.gr g).at 3 rfl))) (hR.step (Gr.refl _) rfl)
           ·intro ac done u W Sx hR
            exact X.val (X.w1 rfl (Sx.yl 17 127 true (by kernel_rfl) rfl rfl)) rfl (X.move rfl (Sx.ev 14 (.int .i64 k))) (hR.step (Gr.refl _) rfl)
           ·intro ac done u W Sx hR
            exact X.val (X.w1 rfl (Sx.yl 17 127 true (by kernel_rfl) rfl rfl)) rfl (X.binop rfl (Sx.ev 132 (.int .i64 (cv l z 0))) (Sx.ev 133 (.int .i64 k)) (X.leqI Try.underlying3 h41)) (hR.step (Gr.refl _) rfl)
           ·intro ac done u W Sx hR
            exact X.val (X.w1 rfl (Sx.yl 1 111 true (by kernel_rfl) rfl rfl)) rfl (X.pickT rfl (Sx.ev 127 (.bool true)) (Sx.ev 134 (.bool false))) (hR.step (Gr.refl _) rfl)
           ·intro ac done u W Sx hR
            exact X.val (X.w1 rfl (Sx.yl 1 111 true (by kernel_rfl) rfl rfl)) rfl (X.move rfl (Sx.ev 135 (.bool false))) (hR.step (Gr.refl _) rfl)
           ·intro ac done u W Sx hR
            exact X.skip (X.w2 rfl (Sx.yl 26 136 false (by kernel_rfl) rfl rfl) rfl) rfl (hR.skip rfl)
           ·intro ac done u W Sx hR
            exact X.skip (X.w2 rfl (Sx.yl 26 136 false (by kernel_rfl) rfl rfl) rfl) rfl (hR.skip rfl)
           ·intro ac done u W Sx hR
            exact X.skip (X.w2 rfl (Sx.yl 26 136 false (by kernel_rfl) rfl rfl) rfl) rfl (hR.skip rfl)
           ·intro ac done u W Sx hR
            exact X.skip (X.w2 rfl (Sx.yl 26 136 false (by kernel_rfl) rfl rfl) rfl) rfl (hR.skip rfl)
           ·intro ac done u W Sx hR
            exact X.skip (X.w2 rfl (Sx.yl 26 136 false (by kernel_rfl) rfl rfl) rfl) rfl (hR.skip rfl)
           ·intro ac done u W Sx hR
            exact X.skip (X.w2 rfl (Sx.yl 26 136 false (by kernel_rfl) rfl rfl) rfl) rfl (hR.skip rfl)
           ·intro ac done u W Sx hR
            exact X.skip (X.w2 rfl (Sx.yl 26 136 false (by kernel_rfl) rfl rfl) rfl) rfl (hR.skip rfl)
           ·intro ac done u W Sx hR
            exact X.skip (X.w2 rfl (Sx.yl 26 136 false (by kernel_rfl) rfl rfl) rfl) rfl (hR.skip rfl)
           ·intro ac done u W Sx hR
            exact X.skip (X.w2 rfl (Sx.yl 26 136 false (by kernel_rfl) rfl rfl) rfl) rfl (hR.skip rfl)
           ·intro ac done u W Sx hR
            exact X.skip (X.w2 rfl (Sx.yl 26 136 false (by kernel_rfl) rfl rfl) rfl) rfl (hR.skip rfl)
           ·intro ac done u W Sx hR
            exact X.val (X.w1 rfl (Sx.yl 1 111 true (by kernel_rfl) rfl rfl)) rfl (X.pickF rfl (Sx.ev 136 (.bool false)) (X.kc (.bool false) rfl)) (hR.step (Gr.refl _) rfl)
           ·intro ac done u W Sx hR
            exact X.val (X.w1 rfl (Sx.yl 1 111 true (by kernel_rfl) rfl rfl)) rfl (X.notB rfl (Sx.ev 147 (.bool false)) rfl) (hR.step (Gr.refl _) rfl)
           ·intro ac done u W Sx hR
            exact X.val (X.w0 rfl) rfl (X.pickT rfl (Sx.ev 111 (.bool true)) (Sx.ev 148 (.bool true))) (hR.step (Gr.refl _) rfl)
           ·intro ac done u W Sx hR
            exact X.val (X.w0 rfl) rfl (X.assign rfl (Sx.ev 149 (.bool true))) (hR.step (Gr.refl _) rfl)
           intro ac u w42 hs hd hl ho hR
           have g : Gr w23 w42 := hR.1
           replace F : Fr ac 188 [(0, .agg #[.int .i64 gr, .int .i64 hold, .slice na n nc]), (1, .int .i64 t), (2, .slice (some pd36) m lc), (3, .pointer (some ⟨w.heap.size, 0, none⟩)), (7, .slice ra5 t.toNat rc5), (8, .slice ea5 n ec5), (9, .int .i64 (playE gr hold nd t l)), (10, .slice ka7 t.toNat kc7), (11, .int .i64 (playE gr hold nd t l)), (12, .int .i64 i), (13, .int .i64 (enS nd ((playRows gr hold nd t l).take k) i)), (14, .int .i64 k), (15, .bool true), (16, .int .i64 j), (17, .int .i64 z), (19, .bool false), (41, .bool false), (65, .bool false), (70, .bool true), (75, .bool true), (86, .bool false), (107, .bool true)] := X.fr hs hd hl _ (by kernel_rfl)
           clear hs hd hl ho hR
           replace G := G.trans g
           replace hC := hC.gr g
           replace GB_ := GB_.trans g
           replace GBB_ := GBB_.trans g
           replace GBBB_ := GBBB_.trans g
           replace GBBBB_ := GBBBB_.trans g
           replace hnd := hnd.gr g
           replace hl := hl.gr g
           replace hr5 := hr5.gr g
           replace he5 := he5.gr g
           replace hk7 := hk7.gr g
           clear g
           refine X.blockN ?_
           refine X.thenN ?_
           refine Y.lit (by kernel_rfl) ?_
           refine Y.pval F (X.w0 rfl) rfl (X.move rfl (F.ev 17 (.int .i64 z))) ?_
           clear F ac
           intro ac F
           refine Y.pval F (X.w0 rfl) rfl (X.binop rfl (F.ev 108 (.int .i64 z)) (X.kc (.int .i64 1) rfl) (X.addI Try.underlying3 rfl (by omega) (by omega))) ?_
           clear F ac
           intro ac F
           refine Y.pval F (X.w0 rfl) rfl (X.assign rfl (F.ev 109 (.int .i64 ((z : Int) + 1)))) ?_
           clear F ac
           intro ac F
           refine Y.nil ?_
           replace F : Fr ac 188 [(0, .agg #[.int .i64 gr, .int .i64 hold, .slice na n nc]), (1, .int .i64 t), (2, .slice (some pd36) m lc), (3, .pointer (some ⟨w.heap.size, 0, none⟩)), (7, .slice ra5 t.toNat rc5), (8, .slice ea5 n ec5), (9, .int .i64 (playE gr hold nd t l)), (10, .slice ka7 t.toNat kc7), (11, .int .i64 (playE gr hold nd t l)), (12, .int .i64 i), (13, .int .i64 (enS nd ((playRows gr hold nd t l).take k) i)), (14, .int .i64 k), (15, .bool true), (16, .int .i64 j), (17, .int .i64 ((z : Int) + 1)), (19, .bool false), (41, .bool false), (65, .bool false), (70, .bool true), (75, .bool true), (86, .bool false), (107, .bool true)] := F.sub _
           refine X.thenN ?_
           refine ⟨_, ?_, z + 1, true, rfl, GBBBB_, by omega, (fun h => ⟨(hq2 (by assumption)).1, fun b hb => by
            by_cases e : b = z
            ·subst e; omega
            ·exact (hq2 (by assumption)).2 b (by omega)⟩), F.sub _⟩
           omega
          | true =>
           try rw [h41] at F
           have h41p : ((cv l z 0 : Int) ≤ k) := of_decide_eq_true h41
           refine Y.region F [some (.bool true), some (.bool true), some (.slice (some pd36) m lc), some (.int .i64 z), some (.pointer (some (pd36.add (z * 4)))), some (.pointer (some (⟨(pd36.add (z * 4)).block, (pd36.add (z * 4)).off + 1, none⟩))), some (.int .i64 (cv l z 1)), some (.bool true), some (.bool true), some (.slice (some pd36) m lc), some (.int .i64 z), some (.pointer (some (pd36.add (z * 4)))), some (.pointer (some (⟨(pd36.add (z * 4)).block, (pd36.add (z * 4)).off + 2, none⟩))), some (.int .i64 (cv l z 2)), some (.int .i64 i), some (.bool true), some (.bool true), some (.bool true), some (.slice (some pd36) m lc), some (.int .i64 z), some (.pointer (some (pd36.add (z * 4)))), some (.pointer (some (pd36.add (z * 4)))), some (.int .i64 (cv l z 0)), some (.int .i64 k), some (.bool true), some (.bool true), some (.bool true), some (.slice (some pd36) m lc), some (.int .i64 z), some (.pointer (some (pd36.add (z * 4)))), some (.pointer (some (pd36.add (z * 4)))), some (.int .i64 (cv l z 0)), some (.int .i64 k), some (.pointer (some ⟨w.heap.size, 1, none⟩)), some (.int .i64 hold), some (.int .i64 ((k : Int) - hold)), some (.bool (decide (((k : Int) - hold : Int) < (cv l z 0)))), some (.bool (decide (((k : Int) - hold : Int) < (cv l z 0)))), some (.bool (!(decide (((k : Int) - hold : Int) < (cv l z 0))))), some (.bool (!(decide (((k : Int) - hold : Int) < (cv l z 0))))), some (.bool (!(decide (((k : Int) - hold : Int) < (cv l z 0)))))] [] rfl ⟨by kernel_rfl, of_decide_eq_true (by kernel_rfl), by kernel_rfl, by kernel_rfl, by kernel_rfl⟩ ⟨?_, ?_, ?_, ?_, ?_, ?_, ?_, ?_, ?_, ?_, ?_, ?_, ?_, ?_, ?_, ?_, ?_, ?_, ?_, ?_, ?_, ?_, ?_, ?_, ?_, ?_, ?_, ?_, ?_, ?_, ?_, ?_, ?_, ?_, ?_, ?_, ?_, ?_, ?_, ?_, ?_, trivial⟩ ?_
           ·intro ac done u W Sx hR
            exact X.val (X.w0 rfl) rfl (X.move rfl (Sx.ev 15 (.bool true))) (hR.step (Gr.refl _) rfl)
           ·intro ac done u W Sx hR
            exact X.val (X.w0 rfl) rfl (X.move rfl (Sx.ev 110 (.bool true))) (hR.step (Gr.refl _) rfl)
           ·intro ac done u W Sx hR
            exact X.val (X.w1 rfl (Sx.yl 1 111 true (by kernel_rfl) rfl rfl)) rfl (X.move rfl (Sx.ev 2 (.slice (some pd36) m lc))) (hR.step (Gr.refl _) rfl)
           ·intro ac done u W Sx hR
            exact X.val (X.w1 rfl (Sx.yl 1 111 true (by kernel_rfl) rfl rfl)) rfl (X.move rfl (Sx.ev 17 (.int .i64 z))) (hR.step (Gr.refl _) rfl)
           ·intro ac done u W Sx hR
            exact X.val (X.w1 rfl (Sx.yl 1 111 true (by kernel_rfl) rfl rfl)) rfl (X.index rfl (Sx.ev 112 (.slice (some pd36) m lc)) (Sx.ev 113 (.int .i64 z)) (X.idx (k := z) Try.underlying25 (Try.siz33 _) (by omega) (by omega) rfl)) (hR.step (Gr.refl _) rfl)
           ·intro ac done u W Sx hR
            exact X.val (X.w1 rfl (Sx.yl 1 111 true (by kernel_rfl) rfl rfl)) rfl (X.field rfl (Sx.ev 114 (.pointer (some (pd36.add (z * 4))))) (X.fld Try.underlying33 rfl (Try.siz3 _) rfl rfl)) (hR.step (Gr.refl _) rfl)
           ·intro ac done u W Sx hR
            have g : Gr w23 W := hR.1
            exact X.val (X.w1 rfl (Sx.yl 1 111 true (by kernel_rfl) rfl rfl)) rfl (X.load rfl (Sx.ev 115 (.pointer (some (⟨(pd36.add (z * 4)).block, (pd36.add (z * 4)).off + 1, none⟩)))) (X.ld1 (Try.agg3 _) ((hC.gr g).at 4 rfl))) (hR.step (Gr.refl _) rfl)
           ·intro ac done u W Sx hR
            exact X.val (X.w1 rfl (Sx.yl 1 111 true (by kernel_rfl) rfl rfl)) rfl (X.binop rfl (Sx.ev 116 (.int .i64 (cv l z 1))) (X.kc (.int .i64 3) rfl) (X.eqlI Try.underlying3 h37)) (hR.step (Gr.refl _) rfl)
           ·intro ac done u W Sx hR
            exact X.val (X.w1 rfl (Sx.yl 1 111 true (by kernel_rfl) rfl rfl)) rfl (X.move rfl (Sx.ev 117 (.bool true))) (hR.step (Gr.refl _) rfl)
           ·intro ac done u W Sx hR
            exact X.val (X.w1 rfl (Sx.yl 8 118 true (by kernel_rfl) rfl rfl)) rfl (X.move rfl (Sx.ev 2 (.slice (some pd36) m lc))) (hR.step (Gr.refl _) rfl)
           ·intro ac done u W Sx hR
            exact X.val (X.w1 rfl (Sx.yl 8 118 true (by kernel_rfl) rfl rfl)) rfl (X.move rfl (Sx.ev 17 (.int .i64 z))) (hR.step (Gr.refl _) rfl)
           ·intro ac done u W Sx hR
            exact X.val (X.w1 rfl (Sx.yl 8 118 true (by kernel_rfl) rfl rfl)) rfl (X.index rfl (Sx.ev 119 (.slice (some pd36) m lc)) (Sx.ev 120 (.int .i64 z)) (X.idx (k := z) Try.underlying25 (Try.siz33 _) (by omega) (by omega) rfl)) (hR.step (Gr.refl _) rfl)
           ·intro ac done u W Sx hR
            exact X.val (X.w1 rfl (Sx.yl 8 118 true (by kernel_rfl) rfl rfl)) rfl (X.field rfl (Sx.ev 121 (.pointer (some (pd36.add (z * 4))))) (X.fld Try.underlying33 rfl (Try.siz3 _) rfl rfl)) (hR.step (Gr.refl _) rfl)
           ·intro ac done u W Sx hR
            have g : Gr w23 W := hR.1
            exact X.val (X.w1 rfl (Sx.yl 8 118 true (by kernel_rfl) rfl rfl)) rfl (X.load rfl (Sx.ev 122 (.pointer (some (⟨(pd36.add (z * 4)).block, (pd36.add (z * 4)).off + 2, none⟩)))) (X.ld1 (Try.agg3 _) ((hC.gr g).at 5 rfl))) (hR.step (Gr.refl _) rfl)
           ·intro ac done u W Sx hR
            exact X.val (X.w1 rfl (Sx.yl 8 118 true (by kernel_rfl) rfl rfl)) rfl (X.move rfl (Sx.ev 12 (.int .i64 i))) (hR.step (Gr.refl _) rfl)
           ·intro ac done u W Sx hR
            exact X.val (X.w1 rfl (Sx.yl 8 118 true (by kernel_rfl) rfl rfl)) rfl (X.binop rfl (Sx.ev 123 (.int .i64 (cv l z 2))) (Sx.ev 124 (.int .i64 i)) (X.eqlI Try.underlying3 h39)) (hR.step (Gr.refl _) rfl)
           ·intro ac done u W Sx hR
            exact X.val (X.w1 rfl (Sx.yl 1 111 true (by kernel_rfl) rfl rfl)) rfl (X.pickT rfl (Sx.ev 118 (.bool true)) (Sx.ev 125 (.bool true))) (hR.step (Gr.refl _) rfl)
           ·intro ac done u W Sx hR
            exact X.val (X.w1 rfl (Sx.yl 1 111 true (by kernel_rfl) rfl rfl)) rfl (X.move rfl (Sx.ev 126 (.bool true))) (hR.step (Gr.refl _) rfl)
           ·intro ac done u W Sx hR
            exact X.val (X.w1 rfl (Sx.yl 17 127 true (by kernel_rfl) rfl rfl)) rfl (X.move rfl (Sx.ev 2 (.slice (some pd36) m lc))) (hR.step (Gr.refl _) rfl)
           ·intro ac done u W Sx hR
            exact X.val (X.w1 rfl (Sx.yl 17 127 true (by kernel_rfl) rfl rfl)) rfl (X.move rfl (Sx.ev 17 (.int .i64 z))) (hR.step (Gr.refl _) rfl)
           ·intro ac done u W Sx hR
            exact X.val (X.w1 rfl (Sx.yl 17 127 true (by kernel_rfl) rfl rfl)) rfl (X.index rfl (Sx.ev 128 (.slice (some pd36) m lc)) (Sx.ev 129 (.int .i64 z)) (X.idx (k := z) Try.underlying25 (Try.siz33 _) (by omega) (by omega) rfl)) (hR.step (Gr.refl _) rfl)
           ·intro ac done u W Sx hR
            exact X.val (X.w1 rfl (Sx.yl 17 127 true (by kernel_rfl) rfl rfl)) rfl (X.field rfl (Sx.ev 130 (.pointer (some (pd36.add (z * 4))))) (X.fld Try.underlying33 rfl (Try.siz3 _) rfl rfl)) (hR.step (Gr.refl _) rfl)
           ·intro ac done u W Sx hR
            have g : Gr w23 W := hR.1
            exact X.val (X.w1 rfl (Sx.yl 17 127 true (by kernel_rfl) rfl rfl)) rfl (X.load rfl (Sx.ev 131 (.pointer (some (pd36.add (z * 4))))) (X.ld1 (Try.agg3 _) ((hC.gr g).at 3 rfl))) (hR.step (Gr.refl _) rfl)
           ·intro ac done u W Sx hR
            exact X.val (X.w1 rfl (Sx.yl 17 127 true (by kernel_rfl) rfl rfl)) rfl (X.move rfl (Sx.ev 14 (.int .i64 k))) (hR.step (Gr.refl _) rfl)
           ·intro ac done u W Sx hR
            exact X.val (X.w1 rfl (Sx.yl 17 127 true (by kernel_rfl) rfl rfl)) rfl (X.binop rfl (Sx.ev 132 (.int .i64 (cv l z 0))) (Sx.ev 133 (.int .i64 k)) (X.leqI Try.underlying3 h41)) (hR.step (Gr.refl _) rfl)
           ·intro ac done u W Sx hR
            exact X.val (X.w1 rfl (Sx.yl 1 111 true (by kernel_rfl) rfl rfl)) rfl (X.pickT rfl (Sx.ev 127 (.bool true)) (Sx.ev 134 (.bool true))) (hR.step (Gr.refl _) rfl)
           ·intro ac done u W Sx hR
            exact X.val (X.w1 rfl (Sx.yl 1 111 true (by kernel_rfl) rfl rfl)) rfl (X.move rfl (Sx.ev 135 (.bool true))) (hR.step (Gr.refl _) rfl)
           ·intro ac done u W Sx hR
            exact X.val (X.w1 rfl (Sx.yl 26 136 true (by kernel_rfl) rfl rfl)) rfl (X.move rfl (Sx.ev 2 (.slice (some pd36) m lc))) (hR.step (Gr.refl _) rfl)
           ·intro ac done u W Sx hR
            exact X.val (X.w1 rfl (Sx.yl 26 136 true (by kernel_rfl) rfl rfl)) rfl (X.move rfl (Sx.ev 17 (.int .i64 z))) (hR.step (Gr.refl _) rfl)
           ·intro ac done u W Sx hR
            exact X.val (X.w1 rfl (Sx.yl 26 136 true (by kernel_rfl) rfl rfl)) rfl (X.index rfl (Sx.ev 137 (.slice (some pd36) m lc)) (Sx.ev 138 (.int .i64 z)) (X.idx (k := z) Try.underlying25 (Try.siz33 _) (by omega) (by omega) rfl)) (hR.step (Gr.refl _) rfl)
           ·intro ac done u W Sx hR
            exact X.val (X.w1 rfl (Sx.yl 26 136 true (by kernel_rfl) rfl rfl)) rfl (X.field rfl (Sx.ev 139 (.pointer (some (pd36.add (z * 4))))) (X.fld Try.underlying33 rfl (Try.siz3 _) rfl rfl)) (hR.step (Gr.refl _) rfl)
           ·intro ac done u W Sx hR
            have g : Gr w23 W := hR.1
            exact X.val (X.w1 rfl (Sx.yl 26 136 true (by kernel_rfl) rfl rfl)) rfl (X.load rfl (Sx.ev 140 (.pointer (some (pd36.add (z * 4))))) (X.ld1 (Try.agg3 _) ((hC.gr g).at 3 rfl))) (hR.step (Gr.refl _) rfl)
           ·intro ac done u W Sx hR
            exact X.val (X.w1 rfl (Sx.yl 26 136 true (by kernel_rfl) rfl rfl)) rfl (X.move rfl (Sx.ev 14 (.int .i64 k))) (hR.step (Gr.refl _) rfl)
           ·intro ac done u W Sx hR
            exact X.val (X.w1 rfl (Sx.yl 26 136 true (by kernel_rfl) rfl rfl)) rfl (X.field rfl (Sx.ev 3 (.pointer (some ⟨w.heap.size, 0, none⟩))) (X.fld Try.underlying24 rfl (Try.siz3 _) rfl rfl)) (hR.step (Gr.refl _) rfl)
           ·intro ac done u W Sx hR
            have g : Gr w23 W := hR.1
            exact X.val (X.w1 rfl (Sx.yl 26 136 true (by kernel_rfl) rfl rfl)) rfl (X.load rfl (Sx.ev 143 (.pointer (some ⟨w.heap.size, 1, none⟩))) (X.ld1 (Try.agg3 _) ((hC.gr g).at 1 rfl))) (hR.step (Gr.refl _) rfl)
           ·intro ac done u W Sx hR
            exact X.val (X.w1 rfl (Sx.yl 26 136 true (by kernel_rfl) rfl rfl)) rfl (X.binop rfl (Sx.ev 142 (.int .i64 k)) (Sx.ev 144 (.int .i64 hold)) (X.subI Try.underlying3 rfl (by omega) (by omega))) (hR.step (Gr.refl _) rfl)
           ·intro ac done u W Sx hR
            exact X.val (X.w1 rfl (Sx.yl 26 136 true (by kernel_rfl) rfl rfl)) rfl (X.binop rfl (Sx.ev 141 (.int .i64 (cv l z 0))) (Sx.ev 145 (.int .i64 ((k : Int) - hold))) (X.gtrI Try.underlying3 rfl)) (hR.step (Gr.refl _) rfl)
           ·intro ac done u W Sx hR
            exact X.val (X.w1 rfl (Sx.yl 1 111 true (by kernel_rfl) rfl rfl)) rfl (X.pickT rfl (Sx.ev 136 (.bool true)) (Sx.ev 146 (.bool (decide (((k : Int) - hold : Int) < (cv l z 0)))))) (hR.step (Gr.refl _) rfl)
           ·intro ac done u W Sx hR
            exact X.val (X.w1 rfl (Sx.yl 1 111 true (by kernel_rfl) rfl rfl)) rfl (X.notB rfl (Sx.ev 147 (.bool (decide (((k : Int) - hold : Int) < (cv l z 0))))) rfl) (hR.step (Gr.refl _) rfl)
           ·intro ac done u W Sx hR
            exact X.val (X.w0 rfl) rfl (X.pickT rfl (Sx.ev 111 (.bool true)) (Sx.ev 148 (.bool (!(decide (((k : Int) - hold : Int) < (cv l z 0))))))) (hR.step (Gr.refl _) rfl)
           ·intro ac done u W Sx hR
            exact X.val (X.w0 rfl) rfl (X.assign rfl (Sx.ev 149 (.bool (!(decide (((k : Int) - hold : Int) < (cv l z 0))))))) (hR.step (Gr.refl _) rfl)
           intro ac u w43 hs hd hl ho hR
           have g : Gr w23 w43 := hR.1
           replace F : Fr ac 188 [(0, .agg #[.int .i64 gr, .int .i64 hold, .slice na n nc]), (1, .int .i64 t), (2, .slice (some pd36) m lc), (3, .pointer (some ⟨w.heap.size, 0, none⟩)), (7, .slice ra5 t.toNat rc5), (8, .slice ea5 n ec5), (9, .int .i64 (playE gr hold nd t l)), (10, .slice ka7 t.toNat kc7), (11, .int .i64 (playE gr hold nd t l)), (12, .int .i64 i), (13, .int .i64 (enS nd ((playRows gr hold nd t l).take k) i)), (14, .int .i64 k), (15, .bool (!(decide (((k : Int) - hold : Int) < (cv l z 0))))), (16, .int .i64 j), (17, .int .i64 z), (19, .bool false), (41, .bool false), (65, .bool false), (70, .bool true), (75, .bool true), (86, .bool false), (107, .bool true)] := X.fr hs hd hl _ (by kernel_rfl)
           clear hs hd hl ho hR
           replace G := G.trans g
           replace hC := hC.gr g
           replace GB_ := GB_.trans g
           replace GBB_ := GBB_.trans g
           replace GBBB_ := GBBB_.trans g
           replace GBBBB_ := GBBBB_.trans g
           replace hnd := hnd.gr g
           replace hl := hl.gr g
           replace hr5 := hr5.gr g
           replace he5 := he5.gr g
           replace hk7 := hk7.gr g
           clear g
           refine X.blockN ?_
           refine X.thenN ?_
           refine Y.lit (by kernel_rfl) ?_
           refine Y.pval F (X.w0 rfl) rfl (X.move rfl (F.ev 17 (.int .i64 z))) ?_
           clear F ac
           intro ac F
           refine Y.pval F (X.w0 rfl) rfl (X.binop rfl (F.ev 108 (.int .i64 z)) (X.kc (.int .i64 1) rfl) (X.addI Try.underlying3 rfl (by omega) (by omega))) ?_
           clear F ac
           intro ac F
           refine Y.pval F (X.w0 rfl) rfl (X.assign rfl (F.ev 109 (.int .i64 ((z : Int) + 1)))) ?_
           clear F ac
           intro ac F
           refine Y.nil ?_
           replace F : Fr ac 188 [(0, .agg #[.int .i64 gr, .int .i64 hold, .slice na n nc]), (1, .int .i64 t), (2, .slice (some pd36) m lc), (3, .pointer (some ⟨w.heap.size, 0, none⟩)), (7, .slice ra5 t.toNat rc5), (8, .slice ea5 n ec5), (9, .int .i64 (playE gr hold nd t l)), (10, .slice ka7 t.toNat kc7), (11, .int .i64 (playE gr hold nd t l)), (12, .int .i64 i), (13, .int .i64 (enS nd ((playRows gr hold nd t l).take k) i)), (14, .int .i64 k), (15, .bool (!(decide (((k : Int) - hold : Int) < (cv l z 0))))), (16, .int .i64 j), (17, .int .i64 ((z : Int) + 1)), (19, .bool false), (41, .bool false), (65, .bool false), (70, .bool true), (75, .bool true), (86, .bool false), (107, .bool true)] := F.sub _
           refine X.thenN ?_
           refine ⟨_, ?_, z + 1, !(decide (((k : Int) - hold : Int) < (cv l z 0))), rfl, GBBBB_, by omega, (fun h => ⟨(hq2 (by assumption)).1, fun b hb => by
            by_cases e : b = z
            ·subst e; simp at h; omega
            ·exact (hq2 (by assumption)).2 b (by omega)⟩), F.sub _⟩
           omega
     | true =>
      try rw [h22] at F
      have h22p : ((j : Int) ≤ k) := of_decide_eq_true h22
      refine Y.condT (F.ev 86 (.bool true)) ?_
      refine Y.skip ?_
      refine X.thenN ?_
      refine Y.seq ?_
      refine Y.block ?_
      cases h44 : q with
      | false =>
       try rw [h44] at F
       refine Y.region F [some (.bool false), some (.bool false), none, none, none, none, none, none, none, none, none, none, none, none, some (.bool false), some (.bool false)] [] rfl ⟨by kernel_rfl, of_decide_eq_true (by kernel_rfl), by kernel_rfl, by kernel_rfl, by kernel_rfl⟩ ⟨?_, ?_, ?_, ?_, ?_, ?_, ?_, ?_, ?_, ?_, ?_, ?_, ?_, ?_, ?_, ?_, trivial⟩ ?_
       ·intro ac done u W Sx hR
        exact X.val (X.w0 rfl) rfl (X.move rfl (Sx.ev 15 (.bool false))) (hR.step (Gr.refl _) rfl)
       ·intro ac done u W Sx hR
        exact X.val (X.w0 rfl) rfl (X.move rfl (Sx.ev 89 (.bool false))) (hR.step (Gr.refl _) rfl)
       ·intro ac done u W Sx hR
        exact X.skip (X.w2 rfl (Sx.yl 1 90 false (by kernel_rfl) rfl rfl) rfl) rfl (hR.skip rfl)
       ·intro ac done u W Sx hR
        exact X.skip (X.w2 rfl (Sx.yl 1 90 false (by kernel_rfl) rfl rfl) rfl) rfl (hR.skip rfl)
       ·intro ac done u W Sx hR
        exact X.skip (X.w2 rfl (Sx.yl 1 90 false (by kernel_rfl) rfl rfl) rfl) rfl (hR.skip rfl)
       ·intro ac done u W Sx hR
        exact X.skip (X.w2 rfl (Sx.yl 1 90 false (by kernel_rfl) rfl rfl) rfl) rfl (hR.skip rfl)
       ·intro ac done u W Sx hR
        exact X.skip (X.w2 rfl (Sx.yl 1 90 false (by kernel_rfl) rfl rfl) rfl) rfl (hR.skip rfl)
       ·intro ac done u W Sx hR
        exact X.skip (X.w2 rfl (Sx.yl 1 90 false (by kernel_rfl) rfl rfl) rfl) rfl (hR.skip rfl)
       ·intro ac done u W Sx hR
        exact X.skip (X.w2 rfl (Sx.yl 1 90 false (by kernel_rfl) rfl rfl) rfl) rfl (hR.skip rfl)
       ·intro ac done u W Sx hR
        exact X.skip (X.w2 rfl (Sx.yl 1 90 false (by kernel_rfl) rfl rfl) rfl) rfl (hR.skip rfl)
       ·intro ac done u W Sx hR
        exact X.skip (X.w2 rfl (Sx.yl 1 90 false (by kernel_rfl) rfl rfl) rfl) rfl (hR.skip rfl)
       ·intro ac done u W Sx hR
        exact X.skip (X.w2 rfl (Sx.yl 1 90 false (by kernel_rfl) rfl rfl) rfl) rfl (hR.skip rfl)
       ·intro ac done u W Sx hR
        exact X.skip (X.w2 rfl (Sx.yl 1 90 false (by kernel_rfl) rfl rfl) rfl) rfl (hR.skip rfl)
       ·intro ac done u W Sx hR
        exact X.skip (X.w2 rfl (Sx.yl 1 90 false (by kernel_rfl) rfl rfl) rfl) rfl (hR.skip rfl)
       ·intro ac done u W Sx hR
        exact X.val (X.w0 rfl) rfl (X.pickF rfl (Sx.ev 90 (.bool false)) (X.kc (.bool false) rfl)) (hR.step (Gr.refl _) rfl)
       ·intro ac done u W Sx hR
        exact X.val (X.w0 rfl) rfl (X.assign rfl (Sx.ev 103 (.bool false))) (hR.step (Gr.refl _) rfl)
       intro ac u w45 hs hd hl ho hR
       have g : Gr w21 w45 := hR.1
       replace F : Fr ac 188 [(0, .agg #[.int .i64 gr, .int .i64 hold, .slice na n nc]), (1, .int .i64 t), (2, .slice la m lc), (3, .pointer (some ⟨w.heap.size, 0, none⟩)), (7, .slice ra5 t.toNat rc5), (8, .slice ea5 n ec5), (9, .int .i64 (playE gr hold nd t l)), (10, .slice ka7 t.toNat kc7), (11, .int .i64 (playE gr hold nd t l)), (12, .int .i64 i), (13, .int .i64 (enS nd ((playRows gr hold nd t l).take k) i)), (14, .int .i64 k), (15, .bool false), (16, .int .i64 j), (19, .bool false), (41, .bool false), (65, .bool false), (70, .bool true), (75, .bool true), (86, .bool true)] := X.fr hs hd hl _ (by kernel_rfl)
       clear hs hd hl ho hR
       replace G := G.trans g
       replace hC := hC.gr g
       replace GB_ := GB_.trans g
       replace GBB_ := GBB_.trans g
       replace GBBB_ := GBBB_.trans g
       replace hnd := hnd.gr g
       replace hl := hl.gr g
       replace hr5 := hr5.gr g
       replace he5 := he5.gr g
       replace hk7 := hk7.gr g
       clear g
       refine X.blockN ?_
       refine X.thenN ?_
       refine Y.lit (by kernel_rfl) ?_
       refine Y.pval F (X.w0 rfl) rfl (X.move rfl (F.ev 16 (.int .i64 j))) ?_
       clear F ac
       intro ac F
       refine Y.pval F (X.w0 rfl) rfl (X.binop rfl (F.ev 87 (.int .i64 j)) (X.kc (.int .i64 1) rfl) (X.addI Try.underlying3 rfl (by omega) (by omega))) ?_
       clear F ac
       intro ac F
       refine Y.pval F (X.w0 rfl) rfl (X.assign rfl (F.ev 88 (.int .i64 ((j : Int) + 1)))) ?_
       clear F ac
       intro ac F
       refine Y.nil ?_
       replace F : Fr ac 188 [(0, .agg #[.int .i64 gr, .int .i64 hold, .slice na n nc]), (1, .int .i64 t), (2, .slice la m lc), (3, .pointer (some ⟨w.heap.size, 0, none⟩)), (7, .slice ra5 t.toNat rc5), (8, .slice ea5 n ec5), (9, .int .i64 (playE gr hold nd t l)), (10, .slice ka7 t.toNat kc7), (11, .int .i64 (playE gr hold nd t l)), (12, .int .i64 i), (13, .int .i64 (enS nd ((playRows gr hold nd t l).take k) i)), (14, .int .i64 k), (15, .bool false), (16, .int .i64 ((j : Int) + 1)), (19, .bool false), (41, .bool false), (65, .bool false), (70, .bool true), (75, .bool true), (86, .bool true)] := F.sub _
       refine X.thenN ?_
       refine ⟨_, ?_, j + 1, false, rfl, GBBB_, by omega, by omega, (fun h => by cases h), F.sub _⟩
       omega
      | true =>
       try rw [h44] at F
       obtain ⟨pd46, pe46, -, pc46⟩ := hk7.at (j := j) (by omega)
       subst pe46
       replace hC : RCells w21 [(⟨w.heap.size, 0, none⟩, .int .i64 gr), (⟨w.heap.size, 1, none⟩, .int .i64 hold), (⟨w.heap.size, 2, none⟩, .slice na n nc), (pd46.add j, .int .i64 ((playAsk gr hold nd t l)[j]?.getD 0))] := hC.append ((RCells.cons pc46 (RCells.nil _)))
       clear pc46
       obtain ⟨pd47, pe47, -, -, pc47⟩ := hnd.at (j := i) (by omega)
       subst pe47
       replace hC : RCells w21 [(⟨w.heap.size, 0, none⟩, .int .i64 gr), (⟨w.heap.size, 1, none⟩, .int .i64 hold), (⟨w.heap.size, 2, none⟩, .slice (some pd47) n nc), (pd46.add j, .int .i64 ((playAsk gr hold nd t l)[j]?.getD 0)), (pd47.add (i * 5), .int .i64 (cv nd i 0)), (⟨(pd47.add (i * 5)).block, (pd47.add (i * 5)).off + 1, none⟩, .int .i64 (cv nd i 1)), (⟨(pd47.add (i * 5)).block, (pd47.add (i * 5)).off + 2, none⟩, .int .i64 (cv nd i 2)), (⟨(pd47.add (i * 5)).block, (pd47.add (i * 5)).off + 3, none⟩, .int .i64 (cv nd i 3)), (⟨(pd47.add (i * 5)).block, (pd47.add (i * 5)).off + 4, none⟩, .int .i64 (cv nd i 4))] := hC.append ((RCells.cons (pc47 0 (by decide)) (RCells.cons (pc47 1 (by decide)) (RCells.cons (pc47 2 (by decide)) (RCells.cons (pc47 3 (by decide)) (RCells.cons (pc47 4 (by decide)) (RCells.nil _)))))))
       clear pc47
       refine Y.region F [some (.bool true), some (.bool true), some (.slice (some pd46) t.toNat kc7), some (.int .i64 j), some (.pointer (some (pd46.add j))), some (.int .i64 ((playAsk gr hold nd t l)[j]?.getD 0)), some (.pointer (some ⟨w.heap.size, 2, none⟩)), some (.slice (some pd47) n nc), some (.int .i64 i), some (.pointer (some (pd47.add (i * 5)))), some (.pointer (some (pd47.add (i * 5)))), some (.int .i64 (cv nd i 0)), some (.int .i64 (andV ((playAsk gr hold nd t l)[j]?.getD 0 : Int) (cv nd i 0 : Int))), some (.bool ((andV ((playAsk gr hold nd t l)[j]?.getD 0 : Int) (cv nd i 0 : Int) : Int) == 0)), some (.bool ((andV ((playAsk gr hold nd t l)[j]?.getD 0 : Int) (cv nd i 0 : Int) : Int) == 0)), some (.bool ((andV ((playAsk gr hold nd t l)[j]?.getD 0 : Int) (cv nd i 0 : Int) : Int) == 0))] [] rfl ⟨by kernel_rfl, of_decide_eq_true (by kernel_rfl), by kernel_rfl, by kernel_rfl, by kernel_rfl⟩ ⟨?_, ?_, ?_, ?_, ?_, ?_, ?_, ?_, ?_, ?_, ?_, ?_, ?_, ?_, ?_, ?_, trivial⟩ ?_
       ·intro ac done u W Sx hR
        exact X.val (X.w0 rfl) rfl (X.move rfl (Sx.ev 15 (.bool true))) (hR.step (Gr.refl _) rfl)
       ·intro ac done u W Sx hR
        exact X.val (X.w0 rfl) rfl (X.move rfl (Sx.ev 89 (.bool true))) (hR.step (Gr.refl _) rfl)
       ·intro ac done u W Sx hR
        exact X.val (X.w1 rfl (Sx.yl 1 90 true (by kernel_rfl) rfl rfl)) rfl (X.move rfl (Sx.ev 10 (.slice (some pd46) t.toNat kc7))) (hR.step (Gr.refl _) rfl)
       ·intro ac done u W Sx hR
        exact X.val (X.w1 rfl (Sx.yl 1 90 true (by kernel_rfl) rfl rfl)) rfl (X.move rfl (Sx.ev 16 (.int .i64 j))) (hR.step (Gr.refl _) rfl)
       ·intro ac done u W Sx hR
        exact X.val (X.w1 rfl (Sx.yl 1 90 true (by kernel_rfl) rfl rfl)) rfl (X.index rfl (Sx.ev 91 (.slice (some pd46) t.toNat kc7)) (Sx.ev 92 (.int .i64 j)) (X.idx (k := j) Try.underlying34 (Try.siz3 _) (by omega) (by omega) (by rw [Nat.mul_one]))) (hR.step (Gr.refl _) rfl)
       ·intro ac done u W Sx hR
        have g : Gr w21 W := hR.1
        exact X.val (X.w1 rfl (Sx.yl 1 90 true (by kernel_rfl) rfl rfl)) rfl (X.load rfl (Sx.ev 93 (.pointer (some (pd46.add j)))) (X.ld1 (Try.agg3 _) ((hC.gr g).at 3 rfl))) (hR.step (Gr.refl _) rfl)
       ·intro ac done u W Sx hR
        exact X.val (X.w1 rfl (Sx.yl 1 90 true (by kernel_rfl) rfl rfl)) rfl (X.field rfl (Sx.ev 3 (.pointer (some ⟨w.heap.size, 0, none⟩))) (X.fld Try.underlying24 rfl (Try.siz22 _) rfl rfl)) (hR.step (Gr.refl _) rfl)
       ·intro ac done u W Sx hR
        have g : Gr w21 W := hR.1
        exact X.val (X.w1 rfl (Sx.yl 1 90 true (by kernel_rfl) rfl rfl)) rfl (X.load rfl (Sx.ev 95 (.pointer (some ⟨w.heap.size, 2, none⟩))) (X.ld1 (Try.agg22 _) ((hC.gr g).at 2 rfl))) (hR.step (Gr.refl _) rfl)
       ·intro ac done u W Sx hR
        exact X.val (X.w1 rfl (Sx.yl 1 90 true (by kernel_rfl) rfl rfl)) rfl (X.move rfl (Sx.ev 12 (.int .i64 i))) (hR.step (Gr.refl _) rfl)
       ·intro ac done u W Sx hR
        exact X.val (X.w1 rfl (Sx.yl 1 90 true (by kernel_rfl) rfl rfl)) rfl (X.index rfl (Sx.ev 96 (.slice (some pd47) n nc)) (Sx.ev 97 (.int .i64 i)) (X.idx (k := i) Try.underlying22 (Try.siz31 _) (by omega) (by omega) rfl)) (hR.step (Gr.refl _) rfl)
       ·intro ac done u W Sx hR
        exact X.val (X.w1 rfl (Sx.yl 1 90 true (by kernel_rfl) rfl rfl)) rfl (X.field rfl (Sx.ev 98 (.pointer (some (pd47.add (i * 5))))) (X.fld Try.underlying31 rfl (Try.siz3 _) rfl rfl)) (hR.step (Gr.refl _) rfl)
       ·intro ac done u W Sx hR
        have g : Gr w21 W := hR.1
        exact X.val (X.w1 rfl (Sx.yl 1 90 true (by kernel_rfl) rfl rfl)) rfl (X.load rfl (Sx.ev 99 (.pointer (some (pd47.add (i * 5))))) (X.ld1 (Try.agg3 _) ((hC.gr g).at 4 rfl))) (hR.step (Gr.refl _) rfl)
       ·intro ac done u W Sx hR
        exact X.val (X.w1 rfl (Sx.yl 1 90 true (by kernel_rfl) rfl rfl)) rfl (X.binop rfl (Sx.ev 94 (.int .i64 ((playAsk gr hold nd t l)[j]?.getD 0))) (Sx.ev 100 (.int .i64 (cv nd i 0))) (X.andI Try.underlying3 rfl)) (hR.step (Gr.refl _) rfl)
       ·intro ac done u W Sx hR
        exact X.val (X.w1 rfl (Sx.yl 1 90 true (by kernel_rfl) rfl rfl)) rfl (X.binop rfl (Sx.ev 101 (.int .i64 (andV ((playAsk gr hold nd t l)[j]?.getD 0 : Int) (cv nd i 0 : Int)))) (X.kc (.int .i64 0) rfl) (X.eqlI Try.underlying3 rfl)) (hR.step (Gr.refl _) rfl)
       ·intro ac done u W Sx hR
        exact X.val (X.w0 rfl) rfl (X.pickT rfl (Sx.ev 90 (.bool true)) (Sx.ev 102 (.bool ((andV ((playAsk gr hold nd t l)[j]?.getD 0 : Int) (cv nd i 0 : Int) : Int) == 0)))) (hR.step (Gr.refl _) rfl)
       ·intro ac done u W Sx hR
        exact X.val (X.w0 rfl) rfl (X.assign rfl (Sx.ev 103 (.bool ((andV ((playAsk gr hold nd t l)[j]?.getD 0 : Int) (cv nd i 0 : Int) : Int) == 0)))) (hR.step (Gr.refl _) rfl)
       intro ac u w48 hs hd hl ho hR
       have g : Gr w21 w48 := hR.1
       replace F : Fr ac 188 [(0, .agg #[.int .i64 gr, .int .i64 hold, .slice (some pd47) n nc]), (1, .int .i64 t), (2, .slice la m lc), (3, .pointer (some ⟨w.heap.size, 0, none⟩)), (7, .slice ra5 t.toNat rc5), (8, .slice ea5 n ec5), (9, .int .i64 (playE gr hold nd t l)), (10, .slice (some pd46) t.toNat kc7), (11, .int .i64 (playE gr hold nd t l)), (12, .int .i64 i), (13, .int .i64 (enS nd ((playRows gr hold nd t l).take k) i)), (14, .int .i64 k), (15, .bool ((andV ((playAsk gr hold nd t l)[j]?.getD 0 : Int) (cv nd i 0 : Int) : Int) == 0)), (16, .int .i64 j), (19, .bool false), (41, .bool false), (65, .bool false), (70, .bool true), (75, .bool true), (86, .bool true)] := X.fr hs hd hl _ (by kernel_rfl)
       clear hs hd hl ho hR
       replace G := G.trans g
       replace hC := hC.gr g
       replace GB_ := GB_.trans g
       replace GBB_ := GBB_.trans g
       replace GBBB_ := GBBB_.trans g
       replace hnd := hnd.gr g
       replace hl := hl.gr g
       replace hr5 := hr5.gr g
       replace he5 := he5.gr g
       replace hk7 := hk7.gr g
       clear g
       refine X.blockN ?_
       refine X.thenN ?_
       refine Y.lit (by kernel_rfl) ?_
       refine Y.pval F (X.w0 rfl) rfl (X.move rfl (F.ev 16 (.int .i64 j))) ?_
       clear F ac
       intro ac F
       refine Y.pval F (X.w0 rfl) rfl (X.binop rfl (F.ev 87 (.int .i64 j)) (X.kc (.int .i64 1) rfl) (X.addI Try.underlying3 rfl (by omega) (by omega))) ?_
       clear F ac
       intro ac F
       refine Y.pval F (X.w0 rfl) rfl (X.assign rfl (F.ev 88 (.int .i64 ((j : Int) + 1)))) ?_
       clear F ac
       intro ac F
       refine Y.nil ?_
       replace F : Fr ac 188 [(0, .agg #[.int .i64 gr, .int .i64 hold, .slice (some pd47) n nc]), (1, .int .i64 t), (2, .slice la m lc), (3, .pointer (some ⟨w.heap.size, 0, none⟩)), (7, .slice ra5 t.toNat rc5), (8, .slice ea5 n ec5), (9, .int .i64 (playE gr hold nd t l)), (10, .slice (some pd46) t.toNat kc7), (11, .int .i64 (playE gr hold nd t l)), (12, .int .i64 i), (13, .int .i64 (enS nd ((playRows gr hold nd t l).take k) i)), (14, .int .i64 k), (15, .bool ((andV ((playAsk gr hold nd t l)[j]?.getD 0 : Int) (cv nd i 0 : Int) : Int) == 0)), (16, .int .i64 ((j : Int) + 1)), (19, .bool false), (41, .bool false), (65, .bool false), (70, .bool true), (75, .bool true), (86, .bool true)] := F.sub _
       refine X.thenN ?_
       refine ⟨_, ?_, j + 1, ((andV ((playAsk gr hold nd t l)[j]?.getD 0 : Int) (cv nd i 0 : Int) : Int) == 0), rfl, GBBB_, by omega, by omega, (fun h a h1 h2 => by
        by_cases e : a = j
        ·subst e; simpa using h
        ·exact hq (by assumption) a h1 (by omega)), F.sub _⟩
       omega
  | true =>
   try rw [h9] at F
   have h9p : ¬ (playE gr hold nd t l : Int) = 0 := by simpa using h9
   refine Y.pskip F (X.w2 rfl (F.yl (j := 2) (d := 38) (b := true) rfl (by kernel_rfl)) rfl) rfl ?_
   clear F ac
   intro ac F
   refine Y.pskip F (X.w2 rfl (F.yl (j := 2) (d := 38) (b := true) rfl (by kernel_rfl)) rfl) rfl ?_
   clear F ac
   intro ac F
   refine Y.pval F (X.w0 rfl) rfl (X.pickT rfl (F.ev 38 (.bool true)) (X.kc (.bool true) rfl)) ?_
   clear F ac
   intro ac F
   refine Y.nil ?_
   replace F : Fr ac 188 [(0, .agg #[.int .i64 gr, .int .i64 hold, .slice na n nc]), (1, .int .i64 t), (2, .slice la m lc), (3, .pointer (some ⟨w.heap.size, 0, none⟩)), (6, .bool false), (7, .slice ra5 rn5 rc5), (8, .slice ea5 en5 ec5), (9, .int .i64 (playE gr hold nd t l)), (10, .slice ka7 kn7 kc7), (11, .int .i64 (playE gr hold nd t l)), (19, .bool false), (41, .bool true)] := F.sub _
   refine X.thenN ?_
   refine Y.condT (F.ev 41 (.bool true)) ?_
   refine Y.seq ?_
   refine Y.lit (by kernel_rfl) ?_
   refine Y.pval F (X.w0 rfl) rfl (X.move rfl (F.ev 9 (.int .i64 (playE gr hold nd t l)))) ?_
   clear F ac
   intro ac F
   refine Y.pval F (X.w0 rfl) rfl (X.move rfl (F.ev 11 (.int .i64 (playE gr hold nd t l)))) ?_
   clear F ac
   intro ac F
   refine Y.pval F (X.w0 rfl) rfl (X.binop rfl (F.ev 42 (.int .i64 (playE gr hold nd t l))) (F.ev 43 (.int .i64 (playE gr hold nd t l))) (X.eqlI Try.underlying26 (show ((playE gr hold nd t l : Int) == (playE gr hold nd t l)) = true by simp))) ?_
   clear F ac
   intro ac F
   refine Y.pval F (X.w0 rfl) rfl (X.move rfl (F.ev 44 (.bool true))) ?_
   clear F ac
   intro ac F
   refine Y.pcall F (X.w1 rfl (F.yl (j := 3) (d := 45) (b := true) rfl (by kernel_rfl))) rfl (X.enter (F := 16) rfl (X.kc (.func (.func 16) #[] #[]) rfl) rfl (enters_of Try.func16 (by kernel_rfl) rfl _)) (works_any w8) ?_
   clear F ac
   rintro e w50 ⟨rfl, g⟩
   refine ⟨_, rfl, ?_⟩
   intro ac F
   replace G := G.trans g
   replace hC := hC.gr g
   replace hnd := hnd.gr g
   replace hl := hl.gr g
   replace hr5 := hr5.gr g
   replace he5 := he5.gr g
   replace hk7 := hk7.gr g
   clear g
   refine Y.pval F (X.w0 rfl) rfl (X.pickT rfl (F.ev 45 (.bool true)) (F.ev 46 (.bool true))) ?_
   clear F ac
   intro ac F
   refine Y.pval F (X.w0 rfl) rfl (X.assign rfl (F.ev 47 (.bool true))) ?_
   clear F ac
   intro ac F
   refine Y.nil ?_
   replace F : Fr ac 188 [(0, .agg #[.int .i64 gr, .int .i64 hold, .slice na n nc]), (1, .int .i64 t), (2, .slice la m lc), (3, .pointer (some ⟨w.heap.size, 0, none⟩)), (6, .bool true), (7, .slice ra5 rn5 rc5), (8, .slice ea5 en5 ec5), (9, .int .i64 (playE gr hold nd t l)), (10, .slice ka7 kn7 kc7), (11, .int .i64 (playE gr hold nd t l)), (19, .bool false), (41, .bool true)] := F.sub _
   refine X.thenN ?_
   refine Y.ret ?_
   refine X.thenR ?_
   exact Y.ret0 (v := .bool true) F (Y.rs1 F rfl (by kernel_rfl)) ⟨rfl, G⟩
 | true =>
  try rw [h4] at F
  have h4p : ((100 : Int) < t) := of_decide_eq_true h4
  refine Y.condT (F.ev 19 (.bool true)) ?_
  refine Y.seq ?_
  refine Y.lit (by kernel_rfl) ?_
  refine Y.pcall F (X.w0 rfl) rfl (X.enter (F := 16) rfl (X.kc (.func (.func 16) #[] #[]) rfl) rfl (enters_of Try.func16 (by kernel_rfl) rfl _)) (works_any w3) ?_
  clear F ac
  rintro e w52 ⟨rfl, g⟩
  refine ⟨_, rfl, ?_⟩
  intro ac F
  replace G := G.trans g
  replace hC := hC.gr g
  replace hnd := hnd.gr g
  replace hl := hl.gr g
  clear g
  refine Y.pval F (X.w0 rfl) rfl (X.assign rfl (F.ev 20 (.bool true))) ?_
  clear F ac
  intro ac F
  refine Y.nil ?_
  replace F : Fr ac 188 [(0, .agg #[.int .i64 gr, .int .i64 hold, .slice na n nc]), (1, .int .i64 t), (2, .slice la m lc), (3, .pointer (some ⟨w.heap.size, 0, none⟩)), (6, .bool true), (19, .bool true)] := F.sub _
  refine X.thenN ?_
  refine Y.ret ?_
  refine X.thenR ?_
  exact Y.ret0 (v := .bool true) F (Y.rs1 F rfl (by kernel_rfl)) ⟨rfl, G⟩
end Go.Proofs.Ytoalamakhjbedaa
