/- Contract: SleepWith returns true. -/
import Derived.Test.YtoalamakhjbedaaBd9
import Derived.Test.YtoalamakhjbedaaBd13
import Derived.Test.YtoalamakhjbedaaBd14
namespace Go.Proofs.Ytoalamakhjbedaa
open Go.RowKit

theorem any_lo {p : Nat → Bool} {k : Nat} {hold : Int} {lo : Nat} (hlo : max (0 : Int) ((k : Int) - hold + 1) = lo) : anyB (fun a => decide ((k : Int) - hold < a) && p a) lo = false := by
  cases e : anyB (fun a => decide ((k : Int) - hold < a) && p a) lo with
  | false => rfl
  | true =>
    obtain ⟨a, h1, h2⟩ := anyB_iff.1 e
    rw [Bool.and_eq_true, decide_eq_true_eq] at h2
    omega
section
variable {nd : List (List Int)} {A R : List Int} {hold : Int} {i k : Nat}
theorem rest_called (h : callB A (cv nd i 0) hold k = true) : restV nd A R hold i (k + 1) = restV nd A R hold i k := by
  simp only [restV]; rw [if_pos h]; omega
theorem rest_unT (h : callB A (cv nd i 0) hold k = false) (hb : bitB (R[k]?.getD 0) i = true) : restV nd A R hold i (k + 1) = restV nd A R hold i k + cv nd i 1 := by
  simp only [restV]; rw [if_neg (by rw [h]; decide)]; unfold en1; rw [if_pos hb]
theorem rest_unF (h : callB A (cv nd i 0) hold k = false) (hb : bitB (R[k]?.getD 0) i = false) : restV nd A R hold i (k + 1) = restV nd A R hold i k + cv nd i 2 := by
  simp only [restV]; rw [if_neg (by rw [h]; decide)]; unfold en1; rw [if_neg (by rw [hb]; decide)]
end
theorem restV_bd {gr hold : Int} {nd : List (List Int)} (h : CluOk gr hold nd) {i : Nat} (hi : i < nd.length) (A R : List Int) : ∀ k : Nat, 0 ≤ restV nd A R hold i k ∧ restV nd A R hold i k ≤ k * 10000
  | 0 => by simp [restV]
  | k + 1 => by
    have ih := restV_bd h hi A R k
    have h1 := en1_bd h hi (R[k]?.getD 0)
    simp only [restV]
    split <;> omega

set_option maxRecDepth 100000 in
set_option maxHeartbeats 1000000 in
theorem with_any (na la : Option Addr) (n nc m lc : Nat) (gr hold t : Int) (nd l : List (List Int)) (w : World) (hnd : StAt w 5 na n nd) (hl : StAt w 4 la m l) :
  Calls Try.prog 9 #[.agg #[.int .i64 gr, .int .i64 hold, .slice na n nc], .int .i64 t, .slice la m lc] w fun e w' => e = .returned (.bool true) ∧ Gr w w' := by
 have G := Gr.refl w
 have hlen := hnd.len
 have hll := hl.len
 have hlt := hnd.lt
 have hlt2 := hl.lt
 refine Y.calls 132 Try.func9 rfl rfl ?_
 intro ac F0
 have F : Fr ac 132 [(0, .agg #[.int .i64 gr, .int .i64 hold, .slice na n nc]), (1, .int .i64 t), (2, .slice la m lc)] := F0.sub _
 clear F0
 refine Y.seq ?_
 refine Y.lit (by kernel_rfl) ?_
 refine Y.pval F (X.w0 rfl) rfl (X.box rfl (F.ev 0 (.agg #[.int .i64 gr, .int .i64 hold, .slice na n nc])) X.bx) ?_
 clear F ac
 intro ac F
 have g := Gr.alloc w (.cells #[.int .i64 gr, .int .i64 hold, .slice na n nc] 24)
 have hb := heap_alloc_new w (.cells #[.int .i64 gr, .int .i64 hold, .slice na n nc] 24)
 have hbl : w.heap.size < (w.alloc (.cells #[.int .i64 gr, .int .i64 hold, .slice na n nc] 24)).heap.size := by simp
 have hC2 : RCells (w.alloc (.cells #[.int .i64 gr, .int .i64 hold, .slice na n nc] 24)) [(⟨w.heap.size, 0, none⟩, .int .i64 gr), (⟨w.heap.size, 1, none⟩, .int .i64 hold), (⟨w.heap.size, 2, none⟩, .slice na n nc)] := (RCells.nil w).box (b := w.heap.size) #[.int .i64 gr, .int .i64 hold, .slice na n nc] 24 rfl
 generalize w.alloc (.cells #[.int .i64 gr, .int .i64 hold, .slice na n nc] 24) = w3 at *
 replace G := G.trans g
 have hC := hC2
 clear hC2
 replace hnd := hnd.gr g
 replace hl := hl.gr g
 clear g hb hbl
 refine Y.pval F (X.w0 rfl) rfl (X.assign rfl (X.kc (.bool false) rfl)) ?_
 clear F ac
 intro ac F
 refine Y.nil ?_
 replace F : Fr ac 132 [(0, .agg #[.int .i64 gr, .int .i64 hold, .slice na n nc]), (1, .int .i64 t), (2, .slice la m lc), (3, .pointer (some ⟨w.heap.size, 0, none⟩)), (6, .bool false)] := F.sub _
 refine X.thenN ?_
 refine Y.seq ?_
 refine Y.seq ?_
 refine Y.lit (by kernel_rfl) ?_
 refine Y.pval F (X.w0 rfl) rfl (X.move rfl (F.ev 1 (.int .i64 t))) ?_
 clear F ac
 intro ac F
 refine Y.pval F (X.w0 rfl) rfl (X.binop rfl (F.ev 19 (.int .i64 t)) (X.kc (.int .i64 100) rfl) (X.gtrI Try.underlying3 rfl)) ?_
 clear F ac
 intro ac F
 refine Y.nil ?_
 replace F : Fr ac 132 [(0, .agg #[.int .i64 gr, .int .i64 hold, .slice na n nc]), (1, .int .i64 t), (2, .slice la m lc), (3, .pointer (some ⟨w.heap.size, 0, none⟩)), (6, .bool false), (20, .bool (decide ((100 : Int) < t)))] := F.sub _
 refine X.thenN ?_
 cases h4 : decide ((100 : Int) < t) with
 | false =>
  try rw [h4] at F
  have h4p : ¬ ((100 : Int) < t) := of_decide_eq_false h4
  refine Y.condF (F.ev 20 (.bool false)) ?_
  refine Y.skip ?_
  refine X.thenN ?_
  refine Y.seq ?_
  refine Y.lit (by kernel_rfl) ?_
  refine Y.pval F (X.w0 rfl) rfl (X.load rfl (F.ev 3 (.pointer (some ⟨w.heap.size, 0, none⟩))) (X.ldN (Try.agg24 _) (Try.siz24 _) (Y.atz (⟨w.heap.size, 0, none⟩) (Y.AtFrom.cons (hC.at 0 rfl) (Y.AtFrom.cons (hC.at 1 rfl) (Y.AtFrom.cons (hC.at 2 rfl) (Y.AtFrom.nil _ _ _))))))) ?_
  clear F ac
  intro ac F
  refine Y.pval F (X.w0 rfl) rfl (X.move rfl (F.ev 1 (.int .i64 t))) ?_
  clear F ac
  intro ac F
  refine Y.pval F (X.w0 rfl) rfl (X.move rfl (F.ev 2 (.slice la m lc))) ?_
  clear F ac
  intro ac F
  refine Y.pcall F (X.w0 rfl) rfl (X.enter (F := 18) rfl (X.kc (.func (.func 18) #[] #[]) rfl) (X.a3 (F.ev 23 (.agg #[.int .i64 gr, .int .i64 hold, .slice na n nc])) (F.ev 24 (.int .i64 t)) (F.ev 25 (.slice la m lc))) (enters_of Try.func18 (by kernel_rfl) rfl _)) (play_any na la n nc m lc gr hold t nd l w3 hnd hl) ?_
  clear F ac
  rintro e w6 ⟨ra5, rn5, rc5, ea5, en5, ec5, rfl, hr5, he5, g⟩
  refine ⟨_, rfl, ?_⟩
  intro ac F
  replace G := G.trans g
  replace hC := hC.gr g
  replace hnd := hnd.gr g
  replace hl := hl.gr g
  clear g
  refine Y.pval F (X.w0 rfl) rfl (X.move rfl (F.ev 26 (.tuple #[.slice ra5 rn5 rc5, .slice ea5 en5 ec5, .int .i64 (playE gr hold nd t l)]))) ?_
  clear F ac
  intro ac F
  refine Y.pval F (X.w0 rfl) rfl (X.extract rfl (F.ev 22 (.tuple #[.slice ra5 rn5 rc5, .slice ea5 en5 ec5, .int .i64 (playE gr hold nd t l)])) rfl) ?_
  clear F ac
  intro ac F
  refine Y.pval F (X.w0 rfl) rfl (X.extract rfl (F.ev 22 (.tuple #[.slice ra5 rn5 rc5, .slice ea5 en5 ec5, .int .i64 (playE gr hold nd t l)])) rfl) ?_
  clear F ac
  intro ac F
  refine Y.pval F (X.w0 rfl) rfl (X.extract rfl (F.ev 22 (.tuple #[.slice ra5 rn5 rc5, .slice ea5 en5 ec5, .int .i64 (playE gr hold nd t l)])) rfl) ?_
  clear F ac
  intro ac F
  refine Y.pval F (X.w0 rfl) rfl (X.assign rfl (F.ev 27 (.slice ra5 rn5 rc5))) ?_
  clear F ac
  intro ac F
  refine Y.pval F (X.w0 rfl) rfl (X.assign rfl (F.ev 28 (.slice ea5 en5 ec5))) ?_
  clear F ac
  intro ac F
  refine Y.pval F (X.w0 rfl) rfl (X.assign rfl (F.ev 29 (.int .i64 (playE gr hold nd t l)))) ?_
  clear F ac
  intro ac F
  refine Y.nil ?_
  replace F : Fr ac 132 [(0, .agg #[.int .i64 gr, .int .i64 hold, .slice na n nc]), (1, .int .i64 t), (2, .slice la m lc), (3, .pointer (some ⟨w.heap.size, 0, none⟩)), (6, .bool false), (7, .slice ra5 rn5 rc5), (9, .int .i64 (playE gr hold nd t l)), (20, .bool false)] := F.sub _
  refine X.thenN ?_
  refine Y.seq ?_
  refine Y.lit (by kernel_rfl) ?_
  refine Y.pval F (X.w0 rfl) rfl (X.load rfl (F.ev 3 (.pointer (some ⟨w.heap.size, 0, none⟩))) (X.ldN (Try.agg24 _) (Try.siz24 _) (Y.atz (⟨w.heap.size, 0, none⟩) (Y.AtFrom.cons (hC.at 0 rfl) (Y.AtFrom.cons (hC.at 1 rfl) (Y.AtFrom.cons (hC.at 2 rfl) (Y.AtFrom.nil _ _ _))))))) ?_
  clear F ac
  intro ac F
  refine Y.pval F (X.w0 rfl) rfl (X.move rfl (F.ev 1 (.int .i64 t))) ?_
  clear F ac
  intro ac F
  refine Y.pval F (X.w0 rfl) rfl (X.move rfl (F.ev 2 (.slice la m lc))) ?_
  clear F ac
  intro ac F
  refine Y.pcall F (X.w0 rfl) rfl (X.enter (F := 19) rfl (X.kc (.func (.func 19) #[] #[]) rfl) (X.a3 (F.ev 31 (.agg #[.int .i64 gr, .int .i64 hold, .slice na n nc])) (F.ev 32 (.int .i64 t)) (F.ev 33 (.slice la m lc))) (enters_of Try.func19 (by kernel_rfl) rfl _)) (asked_any na la n nc m lc gr hold t nd l w6 hnd hl) ?_
  clear F ac
  rintro e w8 ⟨ka7, kn7, kc7, rfl, hk7, g⟩
  refine ⟨_, rfl, ?_⟩
  intro ac F
  replace G := G.trans g
  replace hC := hC.gr g
  replace hnd := hnd.gr g
  replace hl := hl.gr g
  replace hr5 := hr5.gr g
  replace he5 := he5.gr g
  clear g
  refine Y.pval F (X.w0 rfl) rfl (X.move rfl (F.ev 34 (.tuple #[.slice ka7 kn7 kc7, .int .i64 (playE gr hold nd t l)]))) ?_
  clear F ac
  intro ac F
  refine Y.pval F (X.w0 rfl) rfl (X.extract rfl (F.ev 30 (.tuple #[.slice ka7 kn7 kc7, .int .i64 (playE gr hold nd t l)])) rfl) ?_
  clear F ac
  intro ac F
  refine Y.pval F (X.w0 rfl) rfl (X.extract rfl (F.ev 30 (.tuple #[.slice ka7 kn7 kc7, .int .i64 (playE gr hold nd t l)])) rfl) ?_
  clear F ac
  intro ac F
  refine Y.pval F (X.w0 rfl) rfl (X.assign rfl (F.ev 35 (.slice ka7 kn7 kc7))) ?_
  clear F ac
  intro ac F
  refine Y.pval F (X.w0 rfl) rfl (X.assign rfl (F.ev 36 (.int .i64 (playE gr hold nd t l)))) ?_
  clear F ac
  intro ac F
  refine Y.nil ?_
  replace F : Fr ac 132 [(0, .agg #[.int .i64 gr, .int .i64 hold, .slice na n nc]), (1, .int .i64 t), (2, .slice la m lc), (3, .pointer (some ⟨w.heap.size, 0, none⟩)), (6, .bool false), (7, .slice ra5 rn5 rc5), (9, .int .i64 (playE gr hold nd t l)), (10, .slice ka7 kn7 kc7), (11, .int .i64 (playE gr hold nd t l)), (20, .bool false)] := F.sub _
  refine X.thenN ?_
  refine Y.seq ?_
  refine Y.seq ?_
  refine Y.lit (by kernel_rfl) ?_
  refine Y.pval F (X.w0 rfl) rfl (X.move rfl (F.ev 9 (.int .i64 (playE gr hold nd t l)))) ?_
  clear F ac
  intro ac F
  refine Y.pval F (X.w0 rfl) rfl (X.binop rfl (F.ev 37 (.int .i64 (playE gr hold nd t l))) (X.kc (.int .i64 0) rfl) (X.neqI Try.underlying26 rfl)) ?_
  clear F ac
  intro ac F
  refine Y.pval F (X.w0 rfl) rfl (X.move rfl (F.ev 38 (.bool ((playE gr hold nd t l : Int) != 0)))) ?_
  clear F ac
  intro ac F
  cases h9 : ((playE gr hold nd t l : Int) != 0) with
  | false =>
   try rw [h9] at F
   have h9p : (playE gr hold nd t l : Int) = 0 := by simpa using h9
   have hok := playE_ok h9p
   have hc := hok.c
   have ht0 := hok.t0
   have h16 := hc.n16
   obtain rfl : rn5 = t.toNat := by have h8 := (by have h9 := hr5.len; rw [playRows_len h9p] at h9; exact h9); exact h8.symm
   obtain rfl : n = en5 := by have h9 := he5.len; rw [playEn_len h9p, hlen] at h9; exact h9
   obtain rfl : kn7 = t.toNat := by have h8 := (by have h9 := hk7.len; rw [playAsk_len h9p] at h9; exact h9); exact h8.symm
   have hh1 := hc.h1
   have hh2 := hc.h100
   refine Y.pval F (X.w1 rfl (F.yl (j := 2) (d := 39) (b := false) rfl (by kernel_rfl))) rfl (X.move rfl (F.ev 11 (.int .i64 (playE gr hold nd t l)))) ?_
   clear F ac
   intro ac F
   refine Y.pval F (X.w1 rfl (F.yl (j := 2) (d := 39) (b := false) rfl (by kernel_rfl))) rfl (X.binop rfl (F.ev 40 (.int .i64 (playE gr hold nd t l))) (X.kc (.int .i64 0) rfl) (X.neqI Try.underlying26 h9)) ?_
   clear F ac
   intro ac F
   refine Y.pval F (X.w0 rfl) rfl (X.pickF rfl (F.ev 39 (.bool false)) (F.ev 41 (.bool false))) ?_
   clear F ac
   intro ac F
   refine Y.nil ?_
   replace F : Fr ac 132 [(0, .agg #[.int .i64 gr, .int .i64 hold, .slice na n nc]), (1, .int .i64 t), (2, .slice la m lc), (3, .pointer (some ⟨w.heap.size, 0, none⟩)), (6, .bool false), (7, .slice ra5 t.toNat rc5), (9, .int .i64 (playE gr hold nd t l)), (10, .slice ka7 t.toNat kc7), (11, .int .i64 (playE gr hold nd t l)), (20, .bool false), (42, .bool false)] := F.sub _
   refine X.thenN ?_
   refine Y.condF (F.ev 42 (.bool false)) ?_
   refine Y.skip ?_
   refine X.thenN ?_
   refine Y.seq ?_
   refine Y.seq ?_
   refine Y.lit (by kernel_rfl) ?_
   refine Y.pval F (X.w0 rfl) rfl (X.move rfl (F.ev 7 (.slice ra5 t.toNat rc5))) ?_
   clear F ac
   intro ac F
   refine Y.pval F (X.w0 rfl) rfl (X.len1 Try.underlying34 rfl (F.ev 44 (.slice ra5 t.toNat rc5))) ?_
   clear F ac
   intro ac F
   refine Y.pval F (X.w0 rfl) rfl (X.move rfl (F.ev 1 (.int .i64 t))) ?_
   clear F ac
   intro ac F
   refine Y.pval F (X.w0 rfl) rfl (X.binop rfl (F.ev 45 (.int .i64 t.toNat)) (F.ev 46 (.int .i64 t)) (X.neqI Try.underlying3 rfl)) ?_
   clear F ac
   intro ac F
   refine Y.pval F (X.w0 rfl) rfl (X.move rfl (F.ev 47 (.bool ((t.toNat : Int) != t)))) ?_
   clear F ac
   intro ac F
   have h11 : ((t.toNat : Int) != t) = false := bne_eq_false_iff_eq.2 (by omega)
   try rw [h11] at F
   refine Y.pval F (X.w1 rfl (F.yl (j := 4) (d := 48) (b := false) rfl (by kernel_rfl))) rfl (X.move rfl (F.ev 10 (.slice ka7 t.toNat kc7))) ?_
   clear F ac
   intro ac F
   refine Y.pval F (X.w1 rfl (F.yl (j := 4) (d := 48) (b := false) rfl (by kernel_rfl))) rfl (X.len1 Try.underlying34 rfl (F.ev 49 (.slice ka7 t.toNat kc7))) ?_
   clear F ac
   intro ac F
   refine Y.pval F (X.w1 rfl (F.yl (j := 4) (d := 48) (b := false) rfl (by kernel_rfl))) rfl (X.move rfl (F.ev 1 (.int .i64 t))) ?_
   clear F ac
   intro ac F
   refine Y.pval F (X.w1 rfl (F.yl (j := 4) (d := 48) (b := false) rfl (by kernel_rfl))) rfl (X.binop rfl (F.ev 50 (.int .i64 t.toNat)) (F.ev 51 (.int .i64 t)) (X.neqI Try.underlying3 h11)) ?_
   clear F ac
   intro ac F
   refine Y.pval F (X.w0 rfl) rfl (X.pickF rfl (F.ev 48 (.bool false)) (F.ev 52 (.bool false))) ?_
   clear F ac
   intro ac F
   refine Y.nil ?_
   replace F : Fr ac 132 [(0, .agg #[.int .i64 gr, .int .i64 hold, .slice na n nc]), (1, .int .i64 t), (2, .slice la m lc), (3, .pointer (some ⟨w.heap.size, 0, none⟩)), (6, .bool false), (7, .slice ra5 t.toNat rc5), (9, .int .i64 (playE gr hold nd t l)), (10, .slice ka7 t.toNat kc7), (11, .int .i64 (playE gr hold nd t l)), (20, .bool false), (42, .bool false), (53, .bool false)] := F.sub _
   refine X.thenN ?_
   refine Y.condF (F.ev 53 (.bool false)) ?_
   refine Y.skip ?_
   refine X.thenN ?_
   refine Y.seq ?_
   refine Y.seq ?_
   refine Y.lit (by kernel_rfl) ?_
   refine Y.pval F (X.w0 rfl) rfl (X.assign rfl (X.kc (.int .i64 0) rfl)) ?_
   clear F ac
   intro ac F
   refine Y.nil ?_
   replace F : Fr ac 132 [(0, .agg #[.int .i64 gr, .int .i64 hold, .slice na n nc]), (1, .int .i64 t), (2, .slice la m lc), (3, .pointer (some ⟨w.heap.size, 0, none⟩)), (6, .bool false), (7, .slice ra5 t.toNat rc5), (9, .int .i64 (playE gr hold nd t l)), (10, .slice ka7 t.toNat kc7), (11, .int .i64 (playE gr hold nd t l)), (12, .int .i64 0), (20, .bool false), (42, .bool false), (53, .bool false)] := F.sub _
   refine X.thenN ?_
   refine Y.block ?_
   have hndB := hnd
   have hlB := hl
   have hr5B := hr5
   have he5B := he5
   have hk7B := hk7
   have hCB := hC
   have GB := G
   refine Y.loop (fun me_ ac wr => ∃ (i : Nat), me_ = n - i ∧ Gr w8 wr ∧ i ≤ n ∧ Fr ac 132 [(0, .agg #[.int .i64 gr, .int .i64 hold, .slice na n nc]), (1, .int .i64 t), (2, .slice la m lc), (3, .pointer (some ⟨w.heap.size, 0, none⟩)), (7, .slice ra5 t.toNat rc5), (9, .int .i64 (playE gr hold nd t l)), (10, .slice ka7 t.toNat kc7), (11, .int .i64 (playE gr hold nd t l)), (12, .int .i64 i), (20, .bool false), (42, .bool false), (53, .bool false)]) _ ⟨0, rfl, Gr.refl _, Nat.zero_le _, F.sub _⟩ ?_
   clear F
   intro me_ ac w12 hI
   obtain ⟨i, rfl, gr, hi, F⟩ := hI
   replace G := GB.trans gr
   replace hC := hCB.gr gr
   replace hnd := hndB.gr gr
   replace hl := hlB.gr gr
   replace hr5 := hr5B.gr gr
   replace he5 := he5B.gr gr
   replace hk7 := hk7B.gr gr
   have GB_ := gr
   clear gr
   refine Y.seq ?_
   refine Y.seq ?_
   refine Y.lit (by kernel_rfl) ?_
   refine Y.pval F (X.w0 rfl) rfl (X.move rfl (F.ev 12 (.int .i64 i))) ?_
   clear F ac
   intro ac F
   refine Y.pval F (X.w0 rfl) rfl (X.field rfl (F.ev 3 (.pointer (some ⟨w.heap.size, 0, none⟩))) (X.fld Try.underlying24 rfl (Try.siz22 _) rfl rfl)) ?_
   clear F ac
   intro ac F
   refine Y.pval F (X.w0 rfl) rfl (X.load rfl (F.ev 55 (.pointer (some ⟨w.heap.size, 2, none⟩))) (X.ld1 (Try.agg22 _) (hC.at 2 rfl))) ?_
   clear F ac
   intro ac F
   refine Y.pval F (X.w0 rfl) rfl (X.len1 Try.underlying22 rfl (F.ev 56 (.slice na n nc))) ?_
   clear F ac
   intro ac F
   refine Y.pval F (X.w0 rfl) rfl (X.binop rfl (F.ev 54 (.int .i64 i)) (F.ev 57 (.int .i64 n)) (X.lssI Try.underlying3 rfl)) ?_
   clear F ac
   intro ac F
   refine Y.nil ?_
   replace F : Fr ac 132 [(0, .agg #[.int .i64 gr, .int .i64 hold, .slice na n nc]), (1, .int .i64 t), (2, .slice la m lc), (3, .pointer (some ⟨w.heap.size, 0, none⟩)), (7, .slice ra5 t.toNat rc5), (9, .int .i64 (playE gr hold nd t l)), (10, .slice ka7 t.toNat kc7), (11, .int .i64 (playE gr hold nd t l)), (12, .int .i64 i), (20, .bool false), (42, .bool false), (53, .bool false), (58, .bool (decide ((i : Int) < n)))] := F.sub _
   refine X.thenN ?_
   cases h13 : decide ((i : Int) < n) with
   | false =>
    try rw [h13] at F
    have h13p : ¬ ((i : Int) < n) := of_decide_eq_false h13
    obtain rfl : n = i := by omega
    refine Y.condF (F.ev 58 (.bool false)) ?_
    refine Y.exit ?_
    refine X.thenX ?_
    refine X.thenX ?_
    refine X.blockX ?_
    refine X.thenN ?_
    refine Y.seq ?_
    refine Y.lit (by kernel_rfl) ?_
    refine Y.pcall F (X.w0 rfl) rfl (X.enter (F := 16) rfl (X.kc (.func (.func 16) #[] #[]) rfl) rfl (enters_of Try.func16 (by kernel_rfl) rfl _)) (works_any w12) ?_
    clear F ac
    rintro e w15 ⟨rfl, g⟩
    refine ⟨_, rfl, ?_⟩
    intro ac F
    replace G := G.trans g
    replace hC := hC.gr g
    replace GB_ := GB_.trans g
    replace hnd := hnd.gr g
    replace hl := hl.gr g
    replace hr5 := hr5.gr g
    replace he5 := he5.gr g
    replace hk7 := hk7.gr g
    clear g
    refine Y.pval F (X.w0 rfl) rfl (X.assign rfl (F.ev 131 (.bool true))) ?_
    clear F ac
    intro ac F
    refine Y.nil ?_
    replace F : Fr ac 132 [(0, .agg #[.int .i64 gr, .int .i64 hold, .slice na n nc]), (1, .int .i64 t), (2, .slice la m lc), (3, .pointer (some ⟨w.heap.size, 0, none⟩)), (6, .bool true), (7, .slice ra5 t.toNat rc5), (9, .int .i64 (playE gr hold nd t l)), (10, .slice ka7 t.toNat kc7), (11, .int .i64 (playE gr hold nd t l)), (12, .int .i64 n), (20, .bool false), (42, .bool false), (53, .bool false), (58, .bool false)] := F.sub _
    refine X.thenN ?_
    refine Y.ret ?_
    exact Y.ret0 (v := .bool true) F (Y.rs1 F rfl (by kernel_rfl)) ⟨rfl, G⟩
   | true =>
    try rw [h13] at F
    have h13p : ((i : Int) < n) := of_decide_eq_true h13
    refine Y.condT (F.ev 58 (.bool true)) ?_
    refine Y.skip ?_
    refine X.thenN ?_
    refine Y.seq ?_
    refine Y.block ?_
    refine Y.seq ?_
    refine Y.lit (by kernel_rfl) ?_
    refine Y.pval F (X.w0 rfl) rfl (X.load rfl (F.ev 3 (.pointer (some ⟨w.heap.size, 0, none⟩))) (X.ldN (Try.agg24 _) (Try.siz24 _) (Y.atz (⟨w.heap.size, 0, none⟩) (Y.AtFrom.cons (hC.at 0 rfl) (Y.AtFrom.cons (hC.at 1 rfl) (Y.AtFrom.cons (hC.at 2 rfl) (Y.AtFrom.nil _ _ _))))))) ?_
    clear F ac
    intro ac F
    refine Y.pval F (X.w0 rfl) rfl (X.move rfl (F.ev 12 (.int .i64 i))) ?_
    clear F ac
    intro ac F
    refine Y.pval F (X.w0 rfl) rfl (X.move rfl (F.ev 1 (.int .i64 t))) ?_
    clear F ac
    intro ac F
    refine Y.pcall F (X.w0 rfl) rfl (X.enter (F := 20) rfl (X.kc (.func (.func 20) #[] #[]) rfl) (X.a3 (F.ev 62 (.agg #[.int .i64 gr, .int .i64 hold, .slice na n nc])) (F.ev 63 (.int .i64 i)) (F.ev 64 (.int .i64 t))) (enters_of Try.func20 (by kernel_rfl) rfl _)) (worst_any na n nc gr hold i t nd w12 hnd) ?_
    clear F ac
    rintro e w17 ⟨rfl, g⟩
    refine ⟨_, rfl, ?_⟩
    intro ac F
    replace G := G.trans g
    replace hC := hC.gr g
    replace GB_ := GB_.trans g
    replace hnd := hnd.gr g
    replace hl := hl.gr g
    replace hr5 := hr5.gr g
    replace he5 := he5.gr g
    replace hk7 := hk7.gr g
    clear g
    refine Y.pval F (X.w0 rfl) rfl (X.move rfl (F.ev 65 (.tuple #[.int .i64 (worstV gr hold nd i t), .int .i64 (nodeE gr hold nd i t)]))) ?_
    clear F ac
    intro ac F
    refine Y.pval F (X.w0 rfl) rfl (X.extract rfl (F.ev 61 (.tuple #[.int .i64 (worstV gr hold nd i t), .int .i64 (nodeE gr hold nd i t)])) rfl) ?_
    clear F ac
    intro ac F
    refine Y.pval F (X.w0 rfl) rfl (X.extract rfl (F.ev 61 (.tuple #[.int .i64 (worstV gr hold nd i t), .int .i64 (nodeE gr hold nd i t)])) rfl) ?_
    clear F ac
    intro ac F
    refine Y.pval F (X.w0 rfl) rfl (X.assign rfl (F.ev 66 (.int .i64 (worstV gr hold nd i t)))) ?_
    clear F ac
    intro ac F
    refine Y.pval F (X.w0 rfl) rfl (X.assign rfl (F.ev 67 (.int .i64 (nodeE gr hold nd i t)))) ?_
    clear F ac
    intro ac F
    refine Y.nil ?_
    replace F : Fr ac 132 [(0, .agg #[.int .i64 gr, .int .i64 hold, .slice na n nc]), (1, .int .i64 t), (2, .slice la m lc), (3, .pointer (some ⟨w.heap.size, 0, none⟩)), (7, .slice ra5 t.toNat rc5), (9, .int .i64 (playE gr hold nd t l)), (10, .slice ka7 t.toNat kc7), (11, .int .i64 (playE gr hold nd t l)), (12, .int .i64 i), (13, .int .i64 (worstV gr hold nd i t)), (14, .int .i64 (nodeE gr hold nd i t)), (20, .bool false), (42, .bool false), (53, .bool false), (58, .bool true)] := F.sub _
    refine X.thenN ?_
    refine Y.seq ?_
    refine Y.lit (by kernel_rfl) ?_
    refine Y.pval F (X.w0 rfl) rfl (X.assign rfl (X.kc (.int .i64 0) rfl)) ?_
    clear F ac
    intro ac F
    refine Y.nil ?_
    replace F : Fr ac 132 [(0, .agg #[.int .i64 gr, .int .i64 hold, .slice na n nc]), (1, .int .i64 t), (2, .slice la m lc), (3, .pointer (some ⟨w.heap.size, 0, none⟩)), (7, .slice ra5 t.toNat rc5), (9, .int .i64 (playE gr hold nd t l)), (10, .slice ka7 t.toNat kc7), (11, .int .i64 (playE gr hold nd t l)), (12, .int .i64 i), (13, .int .i64 (worstV gr hold nd i t)), (14, .int .i64 (nodeE gr hold nd i t)), (15, .int .i64 0), (20, .bool false), (42, .bool false), (53, .bool false), (58, .bool true)] := F.sub _
    refine X.thenN ?_
    refine Y.seq ?_
    refine Y.seq ?_
    refine Y.lit (by kernel_rfl) ?_
    refine Y.pval F (X.w0 rfl) rfl (X.assign rfl (X.kc (.int .i64 0) rfl)) ?_
    clear F ac
    intro ac F
    refine Y.nil ?_
    replace F : Fr ac 132 [(0, .agg #[.int .i64 gr, .int .i64 hold, .slice na n nc]), (1, .int .i64 t), (2, .slice la m lc), (3, .pointer (some ⟨w.heap.size, 0, none⟩)), (7, .slice ra5 t.toNat rc5), (9, .int .i64 (playE gr hold nd t l)), (10, .slice ka7 t.toNat kc7), (11, .int .i64 (playE gr hold nd t l)), (12, .int .i64 i), (13, .int .i64 (worstV gr hold nd i t)), (14, .int .i64 (nodeE gr hold nd i t)), (15, .int .i64 0), (16, .int .i64 0), (20, .bool false), (42, .bool false), (53, .bool false), (58, .bool true)] := F.sub _
    refine X.thenN ?_
    refine Y.block ?_
    have hndBB := hnd
    have hlBB := hl
    have hr5BB := hr5
    have he5BB := he5
    have hk7BB := hk7
    have hCBB := hC
    have GBB := G
    refine Y.loop (fun me_ ac wr => ∃ (k : Nat), me_ = t.toNat - k ∧ Gr w17 wr ∧ k ≤ t.toNat ∧ Fr ac 132 [(0, .agg #[.int .i64 gr, .int .i64 hold, .slice na n nc]), (1, .int .i64 t), (2, .slice la m lc), (3, .pointer (some ⟨w.heap.size, 0, none⟩)), (7, .slice ra5 t.toNat rc5), (9, .int .i64 (playE gr hold nd t l)), (10, .slice ka7 t.toNat kc7), (11, .int .i64 (playE gr hold nd t l)), (12, .int .i64 i), (13, .int .i64 (worstV gr hold nd i t)), (14, .int .i64 (nodeE gr hold nd i t)), (15, .int .i64 (restV nd (playAsk gr hold nd t l) (playRows gr hold nd t l) hold i k)), (16, .int .i64 k), (20, .bool false), (42, .bool false), (53, .bool false), (58, .bool true)]) _ ⟨0, rfl, Gr.refl _, Nat.zero_le _, F.sub _⟩ ?_
    clear F
    intro me_ ac w18 hI
    obtain ⟨k, rfl, gr, hk, F⟩ := hI
    replace G := GBB.trans gr
    replace hC := hCBB.gr gr
    replace hnd := hndBB.gr gr
    replace hl := hlBB.gr gr
    replace hr5 := hr5BB.gr gr
    replace he5 := he5BB.gr gr
    replace hk7 := hk7BB.gr gr
    replace GB_ := GB_.trans gr
    have GBB_ := gr
    clear gr
    refine Y.seq ?_
    refine Y.seq ?_
    refine Y.lit (by kernel_rfl) ?_
    refine Y.pval F (X.w0 rfl) rfl (X.move rfl (F.ev 16 (.int .i64 k))) ?_
    clear F ac
    intro ac F
    refine Y.pval F (X.w0 rfl) rfl (X.move rfl (F.ev 1 (.int .i64 t))) ?_
    clear F ac
    intro ac F
    refine Y.pval F (X.w0 rfl) rfl (X.binop rfl (F.ev 68 (.int .i64 k)) (F.ev 69 (.int .i64 t)) (X.lssI Try.underlying3 rfl)) ?_
    clear F ac
    intro ac F
    refine Y.nil ?_
    replace F : Fr ac 132 [(0, .agg #[.int .i64 gr, .int .i64 hold, .slice na n nc]), (1, .int .i64 t), (2, .slice la m lc), (3, .pointer (some ⟨w.heap.size, 0, none⟩)), (7, .slice ra5 t.toNat rc5), (9, .int .i64 (playE gr hold nd t l)), (10, .slice ka7 t.toNat kc7), (11, .int .i64 (playE gr hold nd t l)), (12, .int .i64 i), (13, .int .i64 (worstV gr hold nd i t)), (14, .int .i64 (nodeE gr hold nd i t)), (15, .int .i64 (restV nd (playAsk gr hold nd t l) (playRows gr hold nd t l) hold i k)), (16, .int .i64 k), (20, .bool false), (42, .bool false), (53, .bool false), (58, .bool true), (70, .bool (decide ((k : Int) < t)))] := F.sub _
    refine X.thenN ?_
    cases h19 : decide ((k : Int) < t) with
    | false =>
     try rw [h19] at F
     have h19p : ¬ ((k : Int) < t) := of_decide_eq_false h19
     have hkt : k = t.toNat := by omega
     subst hkt
     refine Y.condF (F.ev 70 (.bool false)) ?_
     refine Y.exit ?_
     refine X.thenX ?_
     refine X.thenX ?_
     refine X.blockX ?_
     refine X.thenN ?_
     refine Y.seq ?_
     refine Y.lit (by kernel_rfl) ?_
     refine Y.pval F (X.w0 rfl) rfl (X.move rfl (F.ev 14 (.int .i64 (nodeE gr hold nd i t)))) ?_
     clear F ac
     intro ac F
     refine Y.pval F (X.w0 rfl) rfl (X.binop rfl (F.ev 124 (.int .i64 (nodeE gr hold nd i t))) (X.kc (.int .i64 0) rfl) (X.neqI Try.underlying26 rfl)) ?_
     clear F ac
     intro ac F
     refine Y.pval F (X.w0 rfl) rfl (X.move rfl (F.ev 125 (.bool ((nodeE gr hold nd i t : Int) != 0)))) ?_
     clear F ac
     intro ac F
     have h21 : ((nodeE gr hold nd i t : Int) != 0) = false := by rw [(rest_worst h9p (i := i) (by omega)).1]; rfl
     try rw [h21] at F
     refine Y.pval F (X.w1 rfl (F.yl (j := 2) (d := 126) (b := false) rfl (by kernel_rfl))) rfl (X.move rfl (F.ev 15 (.int .i64 (restV nd (playAsk gr hold nd t l) (playRows gr hold nd t l) hold i t.toNat)))) ?_
     clear F ac
     intro ac F
     refine Y.pval F (X.w1 rfl (F.yl (j := 2) (d := 126) (b := false) rfl (by kernel_rfl))) rfl (X.move rfl (F.ev 13 (.int .i64 (worstV gr hold nd i t)))) ?_
     clear F ac
     intro ac F
     refine Y.pval F (X.w1 rfl (F.yl (j := 2) (d := 126) (b := false) rfl (by kernel_rfl))) rfl (X.binop rfl (F.ev 127 (.int .i64 (restV nd (playAsk gr hold nd t l) (playRows gr hold nd t l) hold i t.toNat))) (F.ev 128 (.int .i64 (worstV gr hold nd i t))) (X.gtrI Try.underlying3 rfl)) ?_
     clear F ac
     intro ac F
     refine Y.pval F (X.w0 rfl) rfl (X.pickF rfl (F.ev 126 (.bool false)) (F.ev 129 (.bool (decide ((worstV gr hold nd i t : Int) < (restV nd (playAsk gr hold nd t l) (playRows gr hold nd t l) hold i t.toNat)))))) ?_
     clear F ac
     intro ac F
     refine Y.nil ?_
     replace F : Fr ac 132 [(0, .agg #[.int .i64 gr, .int .i64 hold, .slice na n nc]), (1, .int .i64 t), (2, .slice la m lc), (3, .pointer (some ⟨w.heap.size, 0, none⟩)), (7, .slice ra5 t.toNat rc5), (9, .int .i64 (playE gr hold nd t l)), (10, .slice ka7 t.toNat kc7), (11, .int .i64 (playE gr hold nd t l)), (12, .int .i64 i), (13, .int .i64 (worstV gr hold nd i t)), (14, .int .i64 (nodeE gr hold nd i t)), (15, .int .i64 (restV nd (playAsk gr hold nd t l) (playRows gr hold nd t l) hold i t.toNat)), (16, .int .i64 t.toNat), (20, .bool false), (42, .bool false), (53, .bool false), (58, .bool true), (70, .bool false), (130, .bool (decide ((worstV gr hold nd i t : Int) < (restV nd (playAsk gr hold nd t l) (playRows gr hold nd t l) hold i t.toNat))))] := F.sub _
     refine X.thenN ?_
     have h23 : decide ((worstV gr hold nd i t : Int) < (restV nd (playAsk gr hold nd t l) (playRows gr hold nd t l) hold i t.toNat)) = false := decide_eq_false (by have := (rest_worst h9p (i := i) (by omega)).2; omega)
     have h23p : ¬ ((worstV gr hold nd i t : Int) < (restV nd (playAsk gr hold nd t l) (playRows gr hold nd t l) hold i t.toNat)) := of_decide_eq_false h23
     try rw [h23] at F
     refine Y.condF (F.ev 130 (.bool false)) ?_
     refine Y.skip ?_
     refine X.blockN ?_
     refine X.thenN ?_
     refine Y.lit (by kernel_rfl) ?_
     refine Y.pval F (X.w0 rfl) rfl (X.move rfl (F.ev 12 (.int .i64 i))) ?_
     clear F ac
     intro ac F
     refine Y.pval F (X.w0 rfl) rfl (X.binop rfl (F.ev 59 (.int .i64 i)) (X.kc (.int .i64 1) rfl) (X.addI Try.underlying3 rfl (by omega) (by omega))) ?_
     clear F ac
     intro ac F
     refine Y.pval F (X.w0 rfl) rfl (X.assign rfl (F.ev 60 (.int .i64 ((i : Int) + 1)))) ?_
     clear F ac
     intro ac F
     refine Y.nil ?_
     replace F : Fr ac 132 [(0, .agg #[.int .i64 gr, .int .i64 hold, .slice na n nc]), (1, .int .i64 t), (2, .slice la m lc), (3, .pointer (some ⟨w.heap.size, 0, none⟩)), (7, .slice ra5 t.toNat rc5), (9, .int .i64 (playE gr hold nd t l)), (10, .slice ka7 t.toNat kc7), (11, .int .i64 (playE gr hold nd t l)), (12, .int .i64 ((i : Int) + 1)), (13, .int .i64 (worstV gr hold nd i t)), (14, .int .i64 (nodeE gr hold nd i t)), (15, .int .i64 (restV nd (playAsk gr hold nd t l) (playRows gr hold nd t l) hold i t.toNat)), (16, .int .i64 t.toNat), (20, .bool false), (42, .bool false), (53, .bool false), (58, .bool true), (70, .bool false), (130, .bool false)] := F.sub _
     refine X.thenN ?_
     refine ⟨_, ?_, i + 1, rfl, GB_, by omega, F.sub _⟩
     omega
    | true =>
     try rw [h19] at F
     have h19p : ((k : Int) < t) := of_decide_eq_true h19
     have hb1 := restV_bd hc (i := i) (by omega) (playAsk gr hold nd t l) (playRows gr hold nd t l) k
     have hb4 := hc.awk i (by omega)
     have hb5 := hc.asl i (by omega)
     refine Y.condT (F.ev 70 (.bool true)) ?_
     refine Y.skip ?_
     refine X.thenN ?_
     refine Y.seq ?_
     refine Y.block ?_
     refine Y.seq ?_
     refine Y.lit (by kernel_rfl) ?_
     refine Y.pval F (X.w0 rfl) rfl (X.assign rfl (X.kc (.bool false) rfl)) ?_
     clear F ac
     intro ac F
     refine Y.nil ?_
     replace F : Fr ac 132 [(0, .agg #[.int .i64 gr, .int .i64 hold, .slice na n nc]), (1, .int .i64 t), (2, .slice la m lc), (3, .pointer (some ⟨w.heap.size, 0, none⟩)), (7, .slice ra5 t.toNat rc5), (9, .int .i64 (playE gr hold nd t l)), (10, .slice ka7 t.toNat kc7), (11, .int .i64 (playE gr hold nd t l)), (12, .int .i64 i), (13, .int .i64 (worstV gr hold nd i t)), (14, .int .i64 (nodeE gr hold nd i t)), (15, .int .i64 (restV nd (playAsk gr hold nd t l) (playRows gr hold nd t l) hold i k)), (16, .int .i64 k), (17, .bool false), (20, .bool false), (42, .bool false), (53, .bool false), (58, .bool true), (70, .bool true)] := F.sub _
     refine X.thenN ?_
     refine Y.seq ?_
     refine Y.seq ?_
     refine Y.lit (by kernel_rfl) ?_
     refine Y.pval F (X.w0 rfl) rfl (X.move rfl (F.ev 16 (.int .i64 k))) ?_
     clear F ac
     intro ac F
     refine Y.pval F (X.w0 rfl) rfl (X.field rfl (F.ev 3 (.pointer (some ⟨w.heap.size, 0, none⟩))) (X.fld Try.underlying24 rfl (Try.siz3 _) rfl rfl)) ?_
     clear F ac
     intro ac F
     refine Y.pval F (X.w0 rfl) rfl (X.load rfl (F.ev 74 (.pointer (some ⟨w.heap.size, 1, none⟩))) (X.ld1 (Try.agg3 _) (hC.at 1 rfl))) ?_
     clear F ac
     intro ac F
     refine Y.pval F (X.w0 rfl) rfl (X.binop rfl (F.ev 73 (.int .i64 k)) (F.ev 75 (.int .i64 hold)) (X.subI Try.underlying3 rfl (by omega) (by omega))) ?_
     clear F ac
     intro ac F
     refine Y.pval F (X.w0 rfl) rfl (X.binop rfl (F.ev 76 (.int .i64 ((k : Int) - hold))) (X.kc (.int .i64 1) rfl) (X.addI Try.underlying3 rfl (by omega) (by omega))) ?_
     clear F ac
     intro ac F
     refine Y.pval F (X.w0 rfl) rfl (Y.max2 rfl (X.kc (.int .i64 0) rfl) (F.ev 77 (.int .i64 (((k : Int) - hold : Int) + 1)))) ?_
     clear F ac
     intro ac F
     refine Y.pval F (X.w0 rfl) rfl (X.assign rfl (F.ev 78 (.int .i64 (max (0 : Int) (((k : Int) - hold : Int) + 1 : Int))))) ?_
     clear F ac
     intro ac F
     refine Y.nil ?_
     replace F : Fr ac 132 [(0, .agg #[.int .i64 gr, .int .i64 hold, .slice na n nc]), (1, .int .i64 t), (2, .slice la m lc), (3, .pointer (some ⟨w.heap.size, 0, none⟩)), (7, .slice ra5 t.toNat rc5), (9, .int .i64 (playE gr hold nd t l)), (10, .slice ka7 t.toNat kc7), (11, .int .i64 (playE gr hold nd t l)), (12, .int .i64 i), (13, .int .i64 (worstV gr hold nd i t)), (14, .int .i64 (nodeE gr hold nd i t)), (15, .int .i64 (restV nd (playAsk gr hold nd t l) (playRows gr hold nd t l) hold i k)), (16, .int .i64 k), (17, .bool false), (18, .int .i64 (max (0 : Int) (((k : Int) - hold : Int) + 1 : Int))), (20, .bool false), (42, .bool false), (53, .bool false), (58, .bool true), (70, .bool true)] := F.sub _
     refine X.thenN ?_
     refine Y.block ?_
     obtain ⟨lo, hlo⟩ : ∃ lo : Nat, max (0 : Int) ((k : Int) - hold + 1) = lo := ⟨_, (Int.toNat_of_nonneg (by omega)).symm⟩
     rw [show ((max (0 : Int) (((k : Int) - hold : Int) + 1 : Int)) : Int) = lo from hlo] at F
     have hndBBB := hnd
     have hlBBB := hl
     have hr5BBB := hr5
     have he5BBB := he5
     have hk7BBB := hk7
     have hCBBB := hC
     have GBBB := G
     refine Y.loop (fun me_ ac wr => ∃ (j : Nat), ∃ q : Bool, me_ = k + 1 - j ∧ Gr w18 wr ∧ lo ≤ j ∧ j ≤ k + 1 ∧ q = anyB (fun a => decide ((k : Int) - hold < a) && (andV ((playAsk gr hold nd t l)[a]?.getD 0) (cv nd i 0) != 0)) j ∧ Fr ac 132 [(0, .agg #[.int .i64 gr, .int .i64 hold, .slice na n nc]), (1, .int .i64 t), (2, .slice la m lc), (3, .pointer (some ⟨w.heap.size, 0, none⟩)), (7, .slice ra5 t.toNat rc5), (9, .int .i64 (playE gr hold nd t l)), (10, .slice ka7 t.toNat kc7), (11, .int .i64 (playE gr hold nd t l)), (12, .int .i64 i), (13, .int .i64 (worstV gr hold nd i t)), (14, .int .i64 (nodeE gr hold nd i t)), (15, .int .i64 (restV nd (playAsk gr hold nd t l) (playRows gr hold nd t l) hold i k)), (16, .int .i64 k), (17, .bool q), (18, .int .i64 j), (20, .bool false), (42, .bool false), (53, .bool false), (58, .bool true), (70, .bool true)]) _ ⟨lo, false, rfl, Gr.refl _, Nat.le_refl _, by omega, (any_lo hlo).symm, F.sub _⟩ ?_
     clear F
     intro me_ ac w24 hI
     obtain ⟨j, q, rfl, gr, hj0, hj1, hq, F⟩ := hI
     replace G := GBBB.trans gr
     replace hC := hCBBB.gr gr
     replace hnd := hndBBB.gr gr
     replace hl := hlBBB.gr gr
     replace hr5 := hr5BBB.gr gr
     replace he5 := he5BBB.gr gr
     replace hk7 := hk7BBB.gr gr
     replace GB_ := GB_.trans gr
     replace GBB_ := GBB_.trans gr
     have GBBB_ := gr
     clear gr
     refine Y.seq ?_
     refine Y.seq ?_
     refine Y.lit (by kernel_rfl) ?_
     refine Y.pval F (X.w0 rfl) rfl (X.move rfl (F.ev 18 (.int .i64 j))) ?_
     clear F ac
     intro ac F
     refine Y.pval F (X.w0 rfl) rfl (X.move rfl (F.ev 16 (.int .i64 k))) ?_
     clear F ac
     intro ac F
     refine Y.pval F (X.w0 rfl) rfl (X.binop rfl (F.ev 79 (.int .i64 j)) (F.ev 80 (.int .i64 k)) (X.leqI Try.underlying3 rfl)) ?_
     clear F ac
     intro ac F
     refine Y.nil ?_
     replace F : Fr ac 132 [(0, .agg #[.int .i64 gr, .int .i64 hold, .slice na n nc]), (1, .int .i64 t), (2, .slice la m lc), (3, .pointer (some ⟨w.heap.size, 0, none⟩)), (7, .slice ra5 t.toNat rc5), (9, .int .i64 (playE gr hold nd t l)), (10, .slice ka7 t.toNat kc7), (11, .int .i64 (playE gr hold nd t l)), (12, .int .i64 i), (13, .int .i64 (worstV gr hold nd i t)), (14, .int .i64 (nodeE gr hold nd i t)), (15, .int .i64 (restV nd (playAsk gr hold nd t l) (playRows gr hold nd t l) hold i k)), (16, .int .i64 k), (17, .bool q), (18, .int .i64 j), (20, .bool false), (42, .bool false), (53, .bool false), (58, .bool true), (70, .bool true), (81, .bool (decide ((j : Int) ≤ k)))] := F.sub _
     refine X.thenN ?_
     cases h25 : decide ((j : Int) ≤ k) with
     | false =>
      try rw [h25] at F
      have h25p : ¬ ((j : Int) ≤ k) := of_decide_eq_false h25
      obtain rfl : j = k + 1 := by omega
      refine Y.condF (F.ev 81 (.bool false)) ?_
      refine Y.exit ?_
      refine X.thenX ?_
      refine X.thenX ?_
      refine X.blockX ?_
      refine X.thenN ?_
      refine Y.block ?_
      refine Y.seq ?_
      refine Y.lit (by kernel_rfl) ?_
      refine Y.pval F (X.w0 rfl) rfl (X.move rfl (F.ev 17 (.bool q))) ?_
      clear F ac
      intro ac F
      refine Y.pval F (X.w0 rfl) rfl (X.assign rfl (F.ev 108 (.bool q))) ?_
      clear F ac
      intro ac F
      refine Y.nil ?_
      replace F : Fr ac 132 [(0, .agg #[.int .i64 gr, .int .i64 hold, .slice na n nc]), (1, .int .i64 t), (2, .slice la m lc), (3, .pointer (some ⟨w.heap.size, 0, none⟩)), (7, .slice ra5 t.toNat rc5), (9, .int .i64 (playE gr hold nd t l)), (10, .slice ka7 t.toNat kc7), (11, .int .i64 (playE gr hold nd t l)), (12, .int .i64 i), (13, .int .i64 (worstV gr hold nd i t)), (14, .int .i64 (nodeE gr hold nd i t)), (15, .int .i64 (restV nd (playAsk gr hold nd t l) (playRows gr hold nd t l) hold i k)), (16, .int .i64 k), (17, .bool q), (18, .int .i64 (k + 1)), (20, .bool false), (42, .bool false), (53, .bool false), (58, .bool true), (70, .bool true), (81, .bool false), (107, .bool q)] := F.sub _
      refine X.thenN ?_
      cases h26 : q with
      | false =>
       try rw [h26] at F
       refine Y.condF (F.ev 107 (.bool false)) ?_
       refine Y.seq ?_
       refine Y.lit (by kernel_rfl) ?_
       refine Y.pval F (X.w0 rfl) rfl (X.move rfl (F.ev 7 (.slice ra5 t.toNat rc5))) ?_
       clear F ac
       intro ac F
       refine Y.pval F (X.w0 rfl) rfl (X.move rfl (F.ev 16 (.int .i64 k))) ?_
       clear F ac
       intro ac F
       obtain ⟨pd27, pe27, -, pc27⟩ := hr5.at (j := k) (by omega)
       subst pe27
       replace hC : RCells w24 [(⟨w.heap.size, 0, none⟩, .int .i64 gr), (⟨w.heap.size, 1, none⟩, .int .i64 hold), (⟨w.heap.size, 2, none⟩, .slice na n nc), (pd27.add k, .int .i64 ((playRows gr hold nd t l)[k]?.getD 0))] := hC.append ((RCells.cons pc27 (RCells.nil _)))
       clear pc27
       refine Y.pval F (X.w0 rfl) rfl (X.index rfl (F.ev 110 (.slice (some pd27) t.toNat rc5)) (F.ev 111 (.int .i64 k)) (X.idx (k := k) Try.underlying34 (Try.siz3 _) (by omega) (by omega) (by rw [Nat.mul_one]))) ?_
       clear F ac
       intro ac F
       refine Y.pval F (X.w0 rfl) rfl (X.load rfl (F.ev 112 (.pointer (some (pd27.add k)))) (X.ld1 (Try.agg3 _) (hC.at 3 rfl))) ?_
       clear F ac
       intro ac F
       refine Y.pval F (X.w0 rfl) rfl (X.move rfl (F.ev 12 (.int .i64 i))) ?_
       clear F ac
       intro ac F
       refine Y.pcall F (X.w0 rfl) rfl (X.enter (F := 17) rfl (X.kc (.func (.func 17) #[] #[]) rfl) (X.a2 (F.ev 113 (.int .i64 ((playRows gr hold nd t l)[k]?.getD 0))) (F.ev 114 (.int .i64 i))) (enters_of Try.func17 (by kernel_rfl) rfl _)) (bit_any ((playRows gr hold nd t l)[k]?.getD 0) i w24 (by omega)) ?_
       clear F ac
       rintro e w' ⟨rfl, hw_⟩
       obtain rfl : w24 = w' := hw_.symm
       clear hw_
       refine ⟨_, rfl, ?_⟩
       intro ac F
       refine Y.pval F (X.w0 rfl) rfl (X.assign rfl (F.ev 115 (.bool (bitB ((playRows gr hold nd t l)[k]?.getD 0) i)))) ?_
       clear F ac
       intro ac F
       refine Y.nil ?_
       replace F : Fr ac 132 [(0, .agg #[.int .i64 gr, .int .i64 hold, .slice na n nc]), (1, .int .i64 t), (2, .slice la m lc), (3, .pointer (some ⟨w.heap.size, 0, none⟩)), (7, .slice (some pd27) t.toNat rc5), (9, .int .i64 (playE gr hold nd t l)), (10, .slice ka7 t.toNat kc7), (11, .int .i64 (playE gr hold nd t l)), (12, .int .i64 i), (13, .int .i64 (worstV gr hold nd i t)), (14, .int .i64 (nodeE gr hold nd i t)), (15, .int .i64 (restV nd (playAsk gr hold nd t l) (playRows gr hold nd t l) hold i k)), (16, .int .i64 k), (17, .bool false), (18, .int .i64 (k + 1)), (20, .bool false), (42, .bool false), (53, .bool false), (58, .bool true), (70, .bool true), (81, .bool false), (107, .bool false), (109, .bool (bitB ((playRows gr hold nd t l)[k]?.getD 0) i))] := F.sub _
       refine X.thenN ?_
       cases h28 : bitB ((playRows gr hold nd t l)[k]?.getD 0) i with
       | false =>
        try rw [h28] at F
        refine Y.condF (F.ev 109 (.bool false)) ?_
        refine Y.lit (by kernel_rfl) ?_
        refine Y.pval F (X.w0 rfl) rfl (X.move rfl (F.ev 15 (.int .i64 (restV nd (playAsk gr hold nd t l) (playRows gr hold nd t l) hold i k)))) ?_
        clear F ac
        intro ac F
        refine Y.pval F (X.w0 rfl) rfl (X.field rfl (F.ev 3 (.pointer (some ⟨w.heap.size, 0, none⟩))) (X.fld Try.underlying24 rfl (Try.siz22 _) rfl rfl)) ?_
        clear F ac
        intro ac F
        refine Y.pval F (X.w0 rfl) rfl (X.load rfl (F.ev 100 (.pointer (some ⟨w.heap.size, 2, none⟩))) (X.ld1 (Try.agg22 _) (hC.at 2 rfl))) ?_
        clear F ac
        intro ac F
        refine Y.pval F (X.w0 rfl) rfl (X.move rfl (F.ev 12 (.int .i64 i))) ?_
        clear F ac
        intro ac F
        obtain ⟨pd29, pe29, -, -, pc29⟩ := hnd.at (j := i) (by omega)
        subst pe29
        replace hC : RCells w24 [(⟨w.heap.size, 0, none⟩, .int .i64 gr), (⟨w.heap.size, 1, none⟩, .int .i64 hold), (⟨w.heap.size, 2, none⟩, .slice (some pd29) n nc), (pd27.add k, .int .i64 ((playRows gr hold nd t l)[k]?.getD 0)), (pd29.add (i * 5), .int .i64 (cv nd i 0)), (⟨(pd29.add (i * 5)).block, (pd29.add (i * 5)).off + 1, none⟩, .int .i64 (cv nd i 1)), (⟨(pd29.add (i * 5)).block, (pd29.add (i * 5)).off + 2, none⟩, .int .i64 (cv nd i 2)), (⟨(pd29.add (i * 5)).block, (pd29.add (i * 5)).off + 3, none⟩, .int .i64 (cv nd i 3)), (⟨(pd29.add (i * 5)).block, (pd29.add (i * 5)).off + 4, none⟩, .int .i64 (cv nd i 4))] := hC.append ((RCells.cons (pc29 0 (by decide)) (RCells.cons (pc29 1 (by decide)) (RCells.cons (pc29 2 (by decide)) (RCells.cons (pc29 3 (by decide)) (RCells.cons (pc29 4 (by decide)) (RCells.nil _)))))))
        clear pc29
        refine Y.pval F (X.w0 rfl) rfl (X.index rfl (F.ev 101 (.slice (some pd29) n nc)) (F.ev 102 (.int .i64 i)) (X.idx (k := i) Try.underlying22 (Try.siz31 _) (by omega) (by omega) rfl)) ?_
        clear F ac
        intro ac F
        refine Y.pval F (X.w0 rfl) rfl (X.field rfl (F.ev 103 (.pointer (some (pd29.add (i * 5))))) (X.fld Try.underlying31 rfl (Try.siz3 _) rfl rfl)) ?_
        clear F ac
        intro ac F
        refine Y.pval F (X.w0 rfl) rfl (X.load rfl (F.ev 104 (.pointer (some (⟨(pd29.add (i * 5)).block, (pd29.add (i * 5)).off + 2, none⟩)))) (X.ld1 (Try.agg3 _) (hC.at 6 rfl))) ?_
        clear F ac
        intro ac F
        refine Y.pval F (X.w0 rfl) rfl (X.binop rfl (F.ev 99 (.int .i64 (restV nd (playAsk gr hold nd t l) (playRows gr hold nd t l) hold i k))) (F.ev 105 (.int .i64 (cv nd i 2))) (X.addI Try.underlying3 rfl (by omega) (by omega))) ?_
        clear F ac
        intro ac F
        refine Y.pval F (X.w0 rfl) rfl (X.assign rfl (F.ev 106 (.int .i64 ((restV nd (playAsk gr hold nd t l) (playRows gr hold nd t l) hold i k : Int) + (cv nd i 2))))) ?_
        clear F ac
        intro ac F
        refine Y.nil ?_
        replace F : Fr ac 132 [(0, .agg #[.int .i64 gr, .int .i64 hold, .slice (some pd29) n nc]), (1, .int .i64 t), (2, .slice la m lc), (3, .pointer (some ⟨w.heap.size, 0, none⟩)), (7, .slice (some pd27) t.toNat rc5), (9, .int .i64 (playE gr hold nd t l)), (10, .slice ka7 t.toNat kc7), (11, .int .i64 (playE gr hold nd t l)), (12, .int .i64 i), (13, .int .i64 (worstV gr hold nd i t)), (14, .int .i64 (nodeE gr hold nd i t)), (15, .int .i64 ((restV nd (playAsk gr hold nd t l) (playRows gr hold nd t l) hold i k : Int) + (cv nd i 2))), (16, .int .i64 k), (17, .bool false), (18, .int .i64 (k + 1)), (20, .bool false), (42, .bool false), (53, .bool false), (58, .bool true), (70, .bool true), (81, .bool false), (107, .bool false), (109, .bool false)] := F.sub _
        refine X.blockN ?_
        refine X.blockN ?_
        refine X.thenN ?_
        refine Y.lit (by kernel_rfl) ?_
        refine Y.pval F (X.w0 rfl) rfl (X.move rfl (F.ev 16 (.int .i64 k))) ?_
        clear F ac
        intro ac F
        refine Y.pval F (X.w0 rfl) rfl (X.binop rfl (F.ev 71 (.int .i64 k)) (X.kc (.int .i64 1) rfl) (X.addI Try.underlying3 rfl (by omega) (by omega))) ?_
        clear F ac
        intro ac F
        refine Y.pval F (X.w0 rfl) rfl (X.assign rfl (F.ev 72 (.int .i64 ((k : Int) + 1)))) ?_
        clear F ac
        intro ac F
        refine Y.nil ?_
        replace F : Fr ac 132 [(0, .agg #[.int .i64 gr, .int .i64 hold, .slice (some pd29) n nc]), (1, .int .i64 t), (2, .slice la m lc), (3, .pointer (some ⟨w.heap.size, 0, none⟩)), (7, .slice (some pd27) t.toNat rc5), (9, .int .i64 (playE gr hold nd t l)), (10, .slice ka7 t.toNat kc7), (11, .int .i64 (playE gr hold nd t l)), (12, .int .i64 i), (13, .int .i64 (worstV gr hold nd i t)), (14, .int .i64 (nodeE gr hold nd i t)), (15, .int .i64 ((restV nd (playAsk gr hold nd t l) (playRows gr hold nd t l) hold i k : Int) + (cv nd i 2))), (16, .int .i64 ((k : Int) + 1)), (17, .bool false), (18, .int .i64 (k + 1)), (20, .bool false), (42, .bool false), (53, .bool false), (58, .bool true), (70, .bool true), (81, .bool false), (107, .bool false), (109, .bool false)] := F.sub _
        refine X.thenN ?_
        refine ⟨_, ?_, k + 1, rfl, GBB_, by omega, (by rw [rest_unF (hq.symm.trans h26) h28]; exact F.sub _)⟩
        omega
       | true =>
        try rw [h28] at F
        refine Y.condT (F.ev 109 (.bool true)) ?_
        refine Y.lit (by kernel_rfl) ?_
        refine Y.pval F (X.w0 rfl) rfl (X.move rfl (F.ev 15 (.int .i64 (restV nd (playAsk gr hold nd t l) (playRows gr hold nd t l) hold i k)))) ?_
        clear F ac
        intro ac F
        refine Y.pval F (X.w0 rfl) rfl (X.field rfl (F.ev 3 (.pointer (some ⟨w.heap.size, 0, none⟩))) (X.fld Try.underlying24 rfl (Try.siz22 _) rfl rfl)) ?_
        clear F ac
        intro ac F
        refine Y.pval F (X.w0 rfl) rfl (X.load rfl (F.ev 117 (.pointer (some ⟨w.heap.size, 2, none⟩))) (X.ld1 (Try.agg22 _) (hC.at 2 rfl))) ?_
        clear F ac
        intro ac F
        refine Y.pval F (X.w0 rfl) rfl (X.move rfl (F.ev 12 (.int .i64 i))) ?_
        clear F ac
        intro ac F
        obtain ⟨pd30, pe30, -, -, pc30⟩ := hnd.at (j := i) (by omega)
        subst pe30
        replace hC : RCells w24 [(⟨w.heap.size, 0, none⟩, .int .i64 gr), (⟨w.heap.size, 1, none⟩, .int .i64 hold), (⟨w.heap.size, 2, none⟩, .slice (some pd30) n nc), (pd27.add k, .int .i64 ((playRows gr hold nd t l)[k]?.getD 0)), (pd30.add (i * 5), .int .i64 (cv nd i 0)), (⟨(pd30.add (i * 5)).block, (pd30.add (i * 5)).off + 1, none⟩, .int .i64 (cv nd i 1)), (⟨(pd30.add (i * 5)).block, (pd30.add (i * 5)).off + 2, none⟩, .int .i64 (cv nd i 2)), (⟨(pd30.add (i * 5)).block, (pd30.add (i * 5)).off + 3, none⟩, .int .i64 (cv nd i 3)), (⟨(pd30.add (i * 5)).block, (pd30.add (i * 5)).off + 4, none⟩, .int .i64 (cv nd i 4))] := hC.append ((RCells.cons (pc30 0 (by decide)) (RCells.cons (pc30 1 (by decide)) (RCells.cons (pc30 2 (by decide)) (RCells.cons (pc30 3 (by decide)) (RCells.cons (pc30 4 (by decide)) (RCells.nil _)))))))
        clear pc30
        refine Y.pval F (X.w0 rfl) rfl (X.index rfl (F.ev 118 (.slice (some pd30) n nc)) (F.ev 119 (.int .i64 i)) (X.idx (k := i) Try.underlying22 (Try.siz31 _) (by omega) (by omega) rfl)) ?_
        clear F ac
        intro ac F
        refine Y.pval F (X.w0 rfl) rfl (X.field rfl (F.ev 120 (.pointer (some (pd30.add (i * 5))))) (X.fld Try.underlying31 rfl (Try.siz3 _) rfl rfl)) ?_
        clear F ac
        intro ac F
        refine Y.pval F (X.w0 rfl) rfl (X.load rfl (F.ev 121 (.pointer (some (⟨(pd30.add (i * 5)).block, (pd30.add (i * 5)).off + 1, none⟩)))) (X.ld1 (Try.agg3 _) (hC.at 5 rfl))) ?_
        clear F ac
        intro ac F
        refine Y.pval F (X.w0 rfl) rfl (X.binop rfl (F.ev 116 (.int .i64 (restV nd (playAsk gr hold nd t l) (playRows gr hold nd t l) hold i k))) (F.ev 122 (.int .i64 (cv nd i 1))) (X.addI Try.underlying3 rfl (by omega) (by omega))) ?_
        clear F ac
        intro ac F
        refine Y.pval F (X.w0 rfl) rfl (X.assign rfl (F.ev 123 (.int .i64 ((restV nd (playAsk gr hold nd t l) (playRows gr hold nd t l) hold i k : Int) + (cv nd i 1))))) ?_
        clear F ac
        intro ac F
        refine Y.nil ?_
        replace F : Fr ac 132 [(0, .agg #[.int .i64 gr, .int .i64 hold, .slice (some pd30) n nc]), (1, .int .i64 t), (2, .slice la m lc), (3, .pointer (some ⟨w.heap.size, 0, none⟩)), (7, .slice (some pd27) t.toNat rc5), (9, .int .i64 (playE gr hold nd t l)), (10, .slice ka7 t.toNat kc7), (11, .int .i64 (playE gr hold nd t l)), (12, .int .i64 i), (13, .int .i64 (worstV gr hold nd i t)), (14, .int .i64 (nodeE gr hold nd i t)), (15, .int .i64 ((restV nd (playAsk gr hold nd t l) (playRows gr hold nd t l) hold i k : Int) + (cv nd i 1))), (16, .int .i64 k), (17, .bool false), (18, .int .i64 (k + 1)), (20, .bool false), (42, .bool false), (53, .bool false), (58, .bool true), (70, .bool true), (81, .bool false), (107, .bool false), (109, .bool true)] := F.sub _
        refine X.blockN ?_
        refine X.blockN ?_
        refine X.thenN ?_
        refine Y.lit (by kernel_rfl) ?_
        refine Y.pval F (X.w0 rfl) rfl (X.move rfl (F.ev 16 (.int .i64 k))) ?_
        clear F ac
        intro ac F
        refine Y.pval F (X.w0 rfl) rfl (X.binop rfl (F.ev 71 (.int .i64 k)) (X.kc (.int .i64 1) rfl) (X.addI Try.underlying3 rfl (by omega) (by omega))) ?_
        clear F ac
        intro ac F
        refine Y.pval F (X.w0 rfl) rfl (X.assign rfl (F.ev 72 (.int .i64 ((k : Int) + 1)))) ?_
        clear F ac
        intro ac F
        refine Y.nil ?_
        replace F : Fr ac 132 [(0, .agg #[.int .i64 gr, .int .i64 hold, .slice (some pd30) n nc]), (1, .int .i64 t), (2, .slice la m lc), (3, .pointer (some ⟨w.heap.size, 0, none⟩)), (7, .slice (some pd27) t.toNat rc5), (9, .int .i64 (playE gr hold nd t l)), (10, .slice ka7 t.toNat kc7), (11, .int .i64 (playE gr hold nd t l)), (12, .int .i64 i), (13, .int .i64 (worstV gr hold nd i t)), (14, .int .i64 (nodeE gr hold nd i t)), (15, .int .i64 ((restV nd (playAsk gr hold nd t l) (playRows gr hold nd t l) hold i k : Int) + (cv nd i 1))), (16, .int .i64 ((k : Int) + 1)), (17, .bool false), (18, .int .i64 (k + 1)), (20, .bool false), (42, .bool false), (53, .bool false), (58, .bool true), (70, .bool true), (81, .bool false), (107, .bool false), (109, .bool true)] := F.sub _
        refine X.thenN ?_
        refine ⟨_, ?_, k + 1, rfl, GBB_, by omega, (by rw [rest_unT (hq.symm.trans h26) h28]; exact F.sub _)⟩
        omega
      | true =>
       try rw [h26] at F
       refine Y.condT (F.ev 107 (.bool true)) ?_
       refine Y.skip ?_
       refine X.blockN ?_
       refine X.blockN ?_
       refine X.thenN ?_
       refine Y.lit (by kernel_rfl) ?_
       refine Y.pval F (X.w0 rfl) rfl (X.move rfl (F.ev 16 (.int .i64 k))) ?_
       clear F ac
       intro ac F
       refine Y.pval F (X.w0 rfl) rfl (X.binop rfl (F.ev 71 (.int .i64 k)) (X.kc (.int .i64 1) rfl) (X.addI Try.underlying3 rfl (by omega) (by omega))) ?_
       clear F ac
       intro ac F
       refine Y.pval F (X.w0 rfl) rfl (X.assign rfl (F.ev 72 (.int .i64 ((k : Int) + 1)))) ?_
       clear F ac
       intro ac F
       refine Y.nil ?_
       replace F : Fr ac 132 [(0, .agg #[.int .i64 gr, .int .i64 hold, .slice na n nc]), (1, .int .i64 t), (2, .slice la m lc), (3, .pointer (some ⟨w.heap.size, 0, none⟩)), (7, .slice ra5 t.toNat rc5), (9, .int .i64 (playE gr hold nd t l)), (10, .slice ka7 t.toNat kc7), (11, .int .i64 (playE gr hold nd t l)), (12, .int .i64 i), (13, .int .i64 (worstV gr hold nd i t)), (14, .int .i64 (nodeE gr hold nd i t)), (15, .int .i64 (restV nd (playAsk gr hold nd t l) (playRows gr hold nd t l) hold i k)), (16, .int .i64 ((k : Int) + 1)), (17, .bool true), (18, .int .i64 (k + 1)), (20, .bool false), (42, .bool false), (53, .bool false), (58, .bool true), (70, .bool true), (81, .bool false), (107, .bool true)] := F.sub _
       refine X.thenN ?_
       refine ⟨_, ?_, k + 1, rfl, GBB_, by omega, (by rw [rest_called (hq.symm.trans h26)]; exact F.sub _)⟩
       omega
     | true =>
      try rw [h25] at F
      have h25p : ((j : Int) ≤ k) := of_decide_eq_true h25
      refine Y.condT (F.ev 81 (.bool true)) ?_
      refine Y.skip ?_
      refine X.thenN ?_
      refine Y.seq ?_
      refine Y.block ?_
      cases h31 : q with
      | false =>
       try rw [h31] at F
       obtain ⟨pd32, pe32, -, pc32⟩ := hk7.at (j := j) (by omega)
       subst pe32
       replace hC : RCells w24 [(⟨w.heap.size, 0, none⟩, .int .i64 gr), (⟨w.heap.size, 1, none⟩, .int .i64 hold), (⟨w.heap.size, 2, none⟩, .slice na n nc), (pd32.add j, .int .i64 ((playAsk gr hold nd t l)[j]?.getD 0))] := hC.append ((RCells.cons pc32 (RCells.nil _)))
       clear pc32
       obtain ⟨pd33, pe33, -, -, pc33⟩ := hnd.at (j := i) (by omega)
       subst pe33
       replace hC : RCells w24 [(⟨w.heap.size, 0, none⟩, .int .i64 gr), (⟨w.heap.size, 1, none⟩, .int .i64 hold), (⟨w.heap.size, 2, none⟩, .slice (some pd33) n nc), (pd32.add j, .int .i64 ((playAsk gr hold nd t l)[j]?.getD 0)), (pd33.add (i * 5), .int .i64 (cv nd i 0)), (⟨(pd33.add (i * 5)).block, (pd33.add (i * 5)).off + 1, none⟩, .int .i64 (cv nd i 1)), (⟨(pd33.add (i * 5)).block, (pd33.add (i * 5)).off + 2, none⟩, .int .i64 (cv nd i 2)), (⟨(pd33.add (i * 5)).block, (pd33.add (i * 5)).off + 3, none⟩, .int .i64 (cv nd i 3)), (⟨(pd33.add (i * 5)).block, (pd33.add (i * 5)).off + 4, none⟩, .int .i64 (cv nd i 4))] := hC.append ((RCells.cons (pc33 0 (by decide)) (RCells.cons (pc33 1 (by decide)) (RCells.cons (pc33 2 (by decide)) (RCells.cons (pc33 3 (by decide)) (RCells.cons (pc33 4 (by decide)) (RCells.nil _)))))))
       clear pc33
       refine Y.region F [some (.bool false), some (.bool false), some (.slice (some pd32) t.toNat kc7), some (.int .i64 j), some (.pointer (some (pd32.add j))), some (.int .i64 ((playAsk gr hold nd t l)[j]?.getD 0)), some (.pointer (some ⟨w.heap.size, 2, none⟩)), some (.slice (some pd33) n nc), some (.int .i64 i), some (.pointer (some (pd33.add (i * 5)))), some (.pointer (some (pd33.add (i * 5)))), some (.int .i64 (cv nd i 0)), some (.int .i64 (andV ((playAsk gr hold nd t l)[j]?.getD 0 : Int) (cv nd i 0 : Int))), some (.bool ((andV ((playAsk gr hold nd t l)[j]?.getD 0 : Int) (cv nd i 0 : Int) : Int) != 0)), some (.bool ((andV ((playAsk gr hold nd t l)[j]?.getD 0 : Int) (cv nd i 0 : Int) : Int) != 0)), some (.bool ((andV ((playAsk gr hold nd t l)[j]?.getD 0 : Int) (cv nd i 0 : Int) : Int) != 0))] [] rfl ⟨by kernel_rfl, of_decide_eq_true (by kernel_rfl), by kernel_rfl, by kernel_rfl, by kernel_rfl⟩ ⟨?_, ?_, ?_, ?_, ?_, ?_, ?_, ?_, ?_, ?_, ?_, ?_, ?_, ?_, ?_, ?_, trivial⟩ ?_
       ·intro ac done u W Sx hR
        exact X.val (X.w0 rfl) rfl (X.move rfl (Sx.ev 17 (.bool false))) (hR.step (Gr.refl _) rfl)
       ·intro ac done u W Sx hR
        exact X.val (X.w0 rfl) rfl (X.move rfl (Sx.ev 84 (.bool false))) (hR.step (Gr.refl _) rfl)
       ·intro ac done u W Sx hR
        exact X.val (X.w1 rfl (Sx.yl 1 85 false (by kernel_rfl) rfl rfl)) rfl (X.move rfl (Sx.ev 10 (.slice (some pd32) t.toNat kc7))) (hR.step (Gr.refl _) rfl)
       ·intro ac done u W Sx hR
        exact X.val (X.w1 rfl (Sx.yl 1 85 false (by kernel_rfl) rfl rfl)) rfl (X.move rfl (Sx.ev 18 (.int .i64 j))) (hR.step (Gr.refl _) rfl)
       ·intro ac done u W Sx hR
        exact X.val (X.w1 rfl (Sx.yl 1 85 false (by kernel_rfl) rfl rfl)) rfl (X.index rfl (Sx.ev 86 (.slice (some pd32) t.toNat kc7)) (Sx.ev 87 (.int .i64 j)) (X.idx (k := j) Try.underlying34 (Try.siz3 _) (by omega) (by omega) (by rw [Nat.mul_one]))) (hR.step (Gr.refl _) rfl)
       ·intro ac done u W Sx hR
        have g : Gr w24 W := hR.1
        exact X.val (X.w1 rfl (Sx.yl 1 85 false (by kernel_rfl) rfl rfl)) rfl (X.load rfl (Sx.ev 88 (.pointer (some (pd32.add j)))) (X.ld1 (Try.agg3 _) ((hC.gr g).at 3 rfl))) (hR.step (Gr.refl _) rfl)
       ·intro ac done u W Sx hR
        exact X.val (X.w1 rfl (Sx.yl 1 85 false (by kernel_rfl) rfl rfl)) rfl (X.field rfl (Sx.ev 3 (.pointer (some ⟨w.heap.size, 0, none⟩))) (X.fld Try.underlying24 rfl (Try.siz22 _) rfl rfl)) (hR.step (Gr.refl _) rfl)
       ·intro ac done u W Sx hR
        have g : Gr w24 W := hR.1
        exact X.val (X.w1 rfl (Sx.yl 1 85 false (by kernel_rfl) rfl rfl)) rfl (X.load rfl (Sx.ev 90 (.pointer (some ⟨w.heap.size, 2, none⟩))) (X.ld1 (Try.agg22 _) ((hC.gr g).at 2 rfl))) (hR.step (Gr.refl _) rfl)
       ·intro ac done u W Sx hR
        exact X.val (X.w1 rfl (Sx.yl 1 85 false (by kernel_rfl) rfl rfl)) rfl (X.move rfl (Sx.ev 12 (.int .i64 i))) (hR.step (Gr.refl _) rfl)
       ·intro ac done u W Sx hR
        exact X.val (X.w1 rfl (Sx.yl 1 85 false (by kernel_rfl) rfl rfl)) rfl (X.index rfl (Sx.ev 91 (.slice (some pd33) n nc)) (Sx.ev 92 (.int .i64 i)) (X.idx (k := i) Try.underlying22 (Try.siz31 _) (by omega) (by omega) rfl)) (hR.step (Gr.refl _) rfl)
       ·intro ac done u W Sx hR
        exact X.val (X.w1 rfl (Sx.yl 1 85 false (by kernel_rfl) rfl rfl)) rfl (X.field rfl (Sx.ev 93 (.pointer (some (pd33.add (i * 5))))) (X.fld Try.underlying31 rfl (Try.siz3 _) rfl rfl)) (hR.step (Gr.refl _) rfl)
       ·intro ac done u W Sx hR
        have g : Gr w24 W := hR.1
        exact X.val (X.w1 rfl (Sx.yl 1 85 false (by kernel_rfl) rfl rfl)) rfl (X.load rfl (Sx.ev 94 (.pointer (some (pd33.add (i * 5))))) (X.ld1 (Try.agg3 _) ((hC.gr g).at 4 rfl))) (hR.step (Gr.refl _) rfl)
       ·intro ac done u W Sx hR
        exact X.val (X.w1 rfl (Sx.yl 1 85 false (by kernel_rfl) rfl rfl)) rfl (X.binop rfl (Sx.ev 89 (.int .i64 ((playAsk gr hold nd t l)[j]?.getD 0))) (Sx.ev 95 (.int .i64 (cv nd i 0))) (X.andI Try.underlying3 rfl)) (hR.step (Gr.refl _) rfl)
       ·intro ac done u W Sx hR
        exact X.val (X.w1 rfl (Sx.yl 1 85 false (by kernel_rfl) rfl rfl)) rfl (X.binop rfl (Sx.ev 96 (.int .i64 (andV ((playAsk gr hold nd t l)[j]?.getD 0 : Int) (cv nd i 0 : Int)))) (X.kc (.int .i64 0) rfl) (X.neqI Try.underlying3 rfl)) (hR.step (Gr.refl _) rfl)
       ·intro ac done u W Sx hR
        exact X.val (X.w0 rfl) rfl (X.pickF rfl (Sx.ev 85 (.bool false)) (Sx.ev 97 (.bool ((andV ((playAsk gr hold nd t l)[j]?.getD 0 : Int) (cv nd i 0 : Int) : Int) != 0)))) (hR.step (Gr.refl _) rfl)
       ·intro ac done u W Sx hR
        exact X.val (X.w0 rfl) rfl (X.assign rfl (Sx.ev 98 (.bool ((andV ((playAsk gr hold nd t l)[j]?.getD 0 : Int) (cv nd i 0 : Int) : Int) != 0)))) (hR.step (Gr.refl _) rfl)
       intro ac u w34 hs hd hl ho hR
       have g : Gr w24 w34 := hR.1
       replace F : Fr ac 132 [(0, .agg #[.int .i64 gr, .int .i64 hold, .slice (some pd33) n nc]), (1, .int .i64 t), (2, .slice la m lc), (3, .pointer (some ⟨w.heap.size, 0, none⟩)), (7, .slice ra5 t.toNat rc5), (9, .int .i64 (playE gr hold nd t l)), (10, .slice (some pd32) t.toNat kc7), (11, .int .i64 (playE gr hold nd t l)), (12, .int .i64 i), (13, .int .i64 (worstV gr hold nd i t)), (14, .int .i64 (nodeE gr hold nd i t)), (15, .int .i64 (restV nd (playAsk gr hold nd t l) (playRows gr hold nd t l) hold i k)), (16, .int .i64 k), (17, .bool ((andV ((playAsk gr hold nd t l)[j]?.getD 0 : Int) (cv nd i 0 : Int) : Int) != 0)), (18, .int .i64 j), (20, .bool false), (42, .bool false), (53, .bool false), (58, .bool true), (70, .bool true), (81, .bool true)] := X.fr hs hd hl _ (by kernel_rfl)
       clear hs hd hl ho hR
       replace G := G.trans g
       replace hC := hC.gr g
       replace GB_ := GB_.trans g
       replace GBB_ := GBB_.trans g
       replace GBBB_ := GBBB_.trans g
       replace hnd := hnd.gr g
       replace hl := hl.gr g
       replace hr5 := hr5.gr g
       replace he5 := he5.gr g
       replace hk7 := hk7.gr g
       clear g
       refine X.blockN ?_
       refine X.thenN ?_
       refine Y.lit (by kernel_rfl) ?_
       refine Y.pval F (X.w0 rfl) rfl (X.move rfl (F.ev 18 (.int .i64 j))) ?_
       clear F ac
       intro ac F
       refine Y.pval F (X.w0 rfl) rfl (X.binop rfl (F.ev 82 (.int .i64 j)) (X.kc (.int .i64 1) rfl) (X.addI Try.underlying3 rfl (by omega) (by omega))) ?_
       clear F ac
       intro ac F
       refine Y.pval F (X.w0 rfl) rfl (X.assign rfl (F.ev 83 (.int .i64 ((j : Int) + 1)))) ?_
       clear F ac
       intro ac F
       refine Y.nil ?_
       replace F : Fr ac 132 [(0, .agg #[.int .i64 gr, .int .i64 hold, .slice (some pd33) n nc]), (1, .int .i64 t), (2, .slice la m lc), (3, .pointer (some ⟨w.heap.size, 0, none⟩)), (7, .slice ra5 t.toNat rc5), (9, .int .i64 (playE gr hold nd t l)), (10, .slice (some pd32) t.toNat kc7), (11, .int .i64 (playE gr hold nd t l)), (12, .int .i64 i), (13, .int .i64 (worstV gr hold nd i t)), (14, .int .i64 (nodeE gr hold nd i t)), (15, .int .i64 (restV nd (playAsk gr hold nd t l) (playRows gr hold nd t l) hold i k)), (16, .int .i64 k), (17, .bool ((andV ((playAsk gr hold nd t l)[j]?.getD 0 : Int) (cv nd i 0 : Int) : Int) != 0)), (18, .int .i64 ((j : Int) + 1)), (20, .bool false), (42, .bool false), (53, .bool false), (58, .bool true), (70, .bool true), (81, .bool true)] := F.sub _
       refine X.thenN ?_
       refine ⟨_, ?_, j + 1, ((andV ((playAsk gr hold nd t l)[j]?.getD 0 : Int) (cv nd i 0 : Int) : Int) != 0), rfl, GBBB_, by omega, by omega, (show _ = (anyB (fun a => decide ((k : Int) - hold < a) && (andV ((playAsk gr hold nd t l)[a]?.getD 0) (cv nd i 0) != 0)) j || (decide ((k : Int) - hold < j) && (andV ((playAsk gr hold nd t l)[j]?.getD 0) (cv nd i 0) != 0))) from by rw [← hq, h31, show decide ((k : Int) - hold < j) = true from decide_eq_true (by omega)]; rfl), F.sub _⟩
       omega
      | true =>
       try rw [h31] at F
       refine Y.region F [some (.bool true), some (.bool true), none, none, none, none, none, none, none, none, none, none, none, none, some (.bool true), some (.bool true)] [] rfl ⟨by kernel_rfl, of_decide_eq_true (by kernel_rfl), by kernel_rfl, by kernel_rfl, by kernel_rfl⟩ ⟨?_, ?_, ?_, ?_, ?_, ?_, ?_, ?_, ?_, ?_, ?_, ?_, ?_, ?_, ?_, ?_, trivial⟩ ?_
       ·intro ac done u W Sx hR
        exact X.val (X.w0 rfl) rfl (X.move rfl (Sx.ev 17 (.bool true))) (hR.step (Gr.refl _) rfl)
       ·intro ac done u W Sx hR
        exact X.val (X.w0 rfl) rfl (X.move rfl (Sx.ev 84 (.bool true))) (hR.step (Gr.refl _) rfl)
       ·intro ac done u W Sx hR
        exact X.skip (X.w2 rfl (Sx.yl 1 85 true (by kernel_rfl) rfl rfl) rfl) rfl (hR.skip rfl)
       ·intro ac done u W Sx hR
        exact X.skip (X.w2 rfl (Sx.yl 1 85 true (by kernel_rfl) rfl rfl) rfl) rfl (hR.skip rfl)
       ·intro ac done u W Sx hR
        exact X.skip (X.w2 rfl (Sx.yl 1 85 true (by kernel_rfl) rfl rfl) rfl) rfl (hR.skip rfl)
       ·intro ac done u W Sx hR
        exact X.skip (X.w2 rfl (Sx.yl 1 85 true (by kernel_rfl) rfl rfl) rfl) rfl (hR.skip rfl)
       ·intro ac done u W Sx hR
        exact X.skip (X.w2 rfl (Sx.yl 1 85 true (by kernel_rfl) rfl rfl) rfl) rfl (hR.skip rfl)
       ·intro ac done u W Sx hR
        exact X.skip (X.w2 rfl (Sx.yl 1 85 true (by kernel_rfl) rfl rfl) rfl) rfl (hR.skip rfl)
       ·intro ac done u W Sx hR
        exact X.skip (X.w2 rfl (Sx.yl 1 85 true (by kernel_rfl) rfl rfl) rfl) rfl (hR.skip rfl)
       ·intro ac done u W Sx hR
        exact X.skip (X.w2 rfl (Sx.yl 1 85 true (by kernel_rfl) rfl rfl) rfl) rfl (hR.skip rfl)
       ·intro ac done u W Sx hR
        exact X.skip (X.w2 rfl (Sx.yl 1 85 true (by kernel_rfl) rfl rfl) rfl) rfl (hR.skip rfl)
       ·intro ac done u W Sx hR
        exact X.skip (X.w2 rfl (Sx.yl 1 85 true (by kernel_rfl) rfl rfl) rfl) rfl (hR.skip rfl)
       ·intro ac done u W Sx hR
        exact X.skip (X.w2 rfl (Sx.yl 1 85 true (by kernel_rfl) rfl rfl) rfl) rfl (hR.skip rfl)
       ·intro ac done u W Sx hR
        exact X.skip (X.w2 rfl (Sx.yl 1 85 true (by kernel_rfl) rfl rfl) rfl) rfl (hR.skip rfl)
       ·intro ac done u W Sx hR
        exact X.val (X.w0 rfl) rfl (X.pickT rfl (Sx.ev 85 (.bool true)) (X.kc (.bool true) rfl)) (hR.step (Gr.refl _) rfl)
       ·intro ac done u W Sx hR
        exact X.val (X.w0 rfl) rfl (X.assign rfl (Sx.ev 98 (.bool true))) (hR.step (Gr.refl _) rfl)
       intro ac u w35 hs hd hl ho hR
       have g : Gr w24 w35 := hR.1
       replace F : Fr ac 132 [(0, .agg #[.int .i64 gr, .int .i64 hold, .slice na n nc]), (1, .int .i64 t), (2, .slice la m lc), (3, .pointer (some ⟨w.heap.size, 0, none⟩)), (7, .slice ra5 t.toNat rc5), (9, .int .i64 (playE gr hold nd t l)), (10, .slice ka7 t.toNat kc7), (11, .int .i64 (playE gr hold nd t l)), (12, .int .i64 i), (13, .int .i64 (worstV gr hold nd i t)), (14, .int .i64 (nodeE gr hold nd i t)), (15, .int .i64 (restV nd (playAsk gr hold nd t l) (playRows gr hold nd t l) hold i k)), (16, .int .i64 k), (17, .bool true), (18, .int .i64 j), (20, .bool false), (42, .bool false), (53, .bool false), (58, .bool true), (70, .bool true), (81, .bool true)] := X.fr hs hd hl _ (by kernel_rfl)
       clear hs hd hl ho hR
       replace G := G.trans g
       replace hC := hC.gr g
       replace GB_ := GB_.trans g
       replace GBB_ := GBB_.trans g
       replace GBBB_ := GBBB_.trans g
       replace hnd := hnd.gr g
       replace hl := hl.gr g
       replace hr5 := hr5.gr g
       replace he5 := he5.gr g
       replace hk7 := hk7.gr g
       clear g
       refine X.blockN ?_
       refine X.thenN ?_
       refine Y.lit (by kernel_rfl) ?_
       refine Y.pval F (X.w0 rfl) rfl (X.move rfl (F.ev 18 (.int .i64 j))) ?_
       clear F ac
       intro ac F
       refine Y.pval F (X.w0 rfl) rfl (X.binop rfl (F.ev 82 (.int .i64 j)) (X.kc (.int .i64 1) rfl) (X.addI Try.underlying3 rfl (by omega) (by omega))) ?_
       clear F ac
       intro ac F
       refine Y.pval F (X.w0 rfl) rfl (X.assign rfl (F.ev 83 (.int .i64 ((j : Int) + 1)))) ?_
       clear F ac
       intro ac F
       refine Y.nil ?_
       replace F : Fr ac 132 [(0, .agg #[.int .i64 gr, .int .i64 hold, .slice na n nc]), (1, .int .i64 t), (2, .slice la m lc), (3, .pointer (some ⟨w.heap.size, 0, none⟩)), (7, .slice ra5 t.toNat rc5), (9, .int .i64 (playE gr hold nd t l)), (10, .slice ka7 t.toNat kc7), (11, .int .i64 (playE gr hold nd t l)), (12, .int .i64 i), (13, .int .i64 (worstV gr hold nd i t)), (14, .int .i64 (nodeE gr hold nd i t)), (15, .int .i64 (restV nd (playAsk gr hold nd t l) (playRows gr hold nd t l) hold i k)), (16, .int .i64 k), (17, .bool true), (18, .int .i64 ((j : Int) + 1)), (20, .bool false), (42, .bool false), (53, .bool false), (58, .bool true), (70, .bool true), (81, .bool true)] := F.sub _
       refine X.thenN ?_
       refine ⟨_, ?_, j + 1, true, rfl, GBBB_, by omega, by omega, (show true = (anyB (fun a => decide ((k : Int) - hold < a) && (andV ((playAsk gr hold nd t l)[a]?.getD 0) (cv nd i 0) != 0)) j || _) from by rw [← hq, h31]; rfl), F.sub _⟩
       omega
  | true =>
   try rw [h9] at F
   have h9p : ¬ (playE gr hold nd t l : Int) = 0 := by simpa using h9
   refine Y.pskip F (X.w2 rfl (F.yl (j := 2) (d := 39) (b := true) rfl (by kernel_rfl)) rfl) rfl ?_
   clear F ac
   intro ac F
   refine Y.pskip F (X.w2 rfl (F.yl (j := 2) (d := 39) (b := true) rfl (by kernel_rfl)) rfl) rfl ?_
   clear F ac
   intro ac F
   refine Y.pval F (X.w0 rfl) rfl (X.pickT rfl (F.ev 39 (.bool true)) (X.kc (.bool true) rfl)) ?_
   clear F ac
   intro ac F
   refine Y.nil ?_
   replace F : Fr ac 132 [(0, .agg #[.int .i64 gr, .int .i64 hold, .slice na n nc]), (1, .int .i64 t), (2, .slice la m lc), (3, .pointer (some ⟨w.heap.size, 0, none⟩)), (6, .bool false), (7, .slice ra5 rn5 rc5), (9, .int .i64 (playE gr hold nd t l)), (10, .slice ka7 kn7 kc7), (11, .int .i64 (playE gr hold nd t l)), (20, .bool false), (42, .bool true)] := F.sub _
   refine X.thenN ?_
   refine Y.condT (F.ev 42 (.bool true)) ?_
   refine Y.seq ?_
   refine Y.lit (by kernel_rfl) ?_
   refine Y.pcall F (X.w0 rfl) rfl (X.enter (F := 16) rfl (X.kc (.func (.func 16) #[] #[]) rfl) rfl (enters_of Try.func16 (by kernel_rfl) rfl _)) (works_any w8) ?_
   clear F ac
   rintro e w37 ⟨rfl, g⟩
   refine ⟨_, rfl, ?_⟩
   intro ac F
   replace G := G.trans g
   replace hC := hC.gr g
   replace hnd := hnd.gr g
   replace hl := hl.gr g
   replace hr5 := hr5.gr g
   replace he5 := he5.gr g
   replace hk7 := hk7.gr g
   clear g
   refine Y.pval F (X.w0 rfl) rfl (X.assign rfl (F.ev 43 (.bool true))) ?_
   clear F ac
   intro ac F
   refine Y.nil ?_
   replace F : Fr ac 132 [(0, .agg #[.int .i64 gr, .int .i64 hold, .slice na n nc]), (1, .int .i64 t), (2, .slice la m lc), (3, .pointer (some ⟨w.heap.size, 0, none⟩)), (6, .bool true), (7, .slice ra5 rn5 rc5), (9, .int .i64 (playE gr hold nd t l)), (10, .slice ka7 kn7 kc7), (11, .int .i64 (playE gr hold nd t l)), (20, .bool false), (42, .bool true)] := F.sub _
   refine X.thenN ?_
   refine Y.ret ?_
   refine X.thenR ?_
   exact Y.ret0 (v := .bool true) F (Y.rs1 F rfl (by kernel_rfl)) ⟨rfl, G⟩
 | true =>
  try rw [h4] at F
  have h4p : ((100 : Int) < t) := of_decide_eq_true h4
  refine Y.condT (F.ev 20 (.bool true)) ?_
  refine Y.seq ?_
  refine Y.lit (by kernel_rfl) ?_
  refine Y.pcall F (X.w0 rfl) rfl (X.enter (F := 16) rfl (X.kc (.func (.func 16) #[] #[]) rfl) rfl (enters_of Try.func16 (by kernel_rfl) rfl _)) (works_any w3) ?_
  clear F ac
  rintro e w39 ⟨rfl, g⟩
  refine ⟨_, rfl, ?_⟩
  intro ac F
  replace G := G.trans g
  replace hC := hC.gr g
  replace hnd := hnd.gr g
  replace hl := hl.gr g
  clear g
  refine Y.pval F (X.w0 rfl) rfl (X.assign rfl (F.ev 21 (.bool true))) ?_
  clear F ac
  intro ac F
  refine Y.nil ?_
  replace F : Fr ac 132 [(0, .agg #[.int .i64 gr, .int .i64 hold, .slice na n nc]), (1, .int .i64 t), (2, .slice la m lc), (3, .pointer (some ⟨w.heap.size, 0, none⟩)), (6, .bool true), (20, .bool true)] := F.sub _
  refine X.thenN ?_
  refine Y.ret ?_
  refine X.thenR ?_
  exact Y.ret0 (v := .bool true) F (Y.rs1 F rfl (by kernel_rfl)) ⟨rfl, G⟩
end Go.Proofs.Ytoalamakhjbedaa
