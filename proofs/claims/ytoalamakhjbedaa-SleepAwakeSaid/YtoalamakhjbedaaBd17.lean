/- Contract: SleepAwake returns true. -/
import Derived.Test.YtoalamakhjbedaaBd4
import Derived.Test.YtoalamakhjbedaaBd15
import Derived.Test.YtoalamakhjbedaaBd16
namespace Go.Proofs.Ytoalamakhjbedaa
open Go.RowKit

theorem withoutL_no (l : List (List Int)) (k : Int) : ∀ x ∈ withoutL l k, nv x 1 ≠ k := fun x hx => by
  have := (List.mem_filter.1 hx).2
  simpa using this
theorem fail_none {gr hold t : Int} {nd l : List (List Int)} (hE : playE gr hold nd t l = 0) (hl : ∀ x ∈ l, nv x 1 ≠ 4) {a b : Int} (h : FailIs (failP nd (playAsk gr hold nd t l) (playRows gr hold nd t l)) t.toNat nd.length a b) : a = -1 ∧ b = -1 := by
  rcases h with ⟨h1, h2, _⟩ | ⟨k, i, _, _, hk, hi, hp, _⟩
  · exact ⟨h1, h2⟩
  · unfold failP at hp
    simp only [Bool.and_eq_true, bne_iff_ne, beq_iff_eq] at hp
    have h1 := awake_all hE hl hk hi (by rw [andV_comm]; exact hp.1)
    unfold bitB at h1
    rw [hp.2] at h1
    cases h1

set_option maxRecDepth 100000 in
set_option maxHeartbeats 1000000 in
theorem awake_any (na la : Option Addr) (n nc m lc : Nat) (gr hold t : Int) (nd l : List (List Int)) (w : World) (hnd : StAt w 5 na n nd) (hl : StAt w 4 la m l) :
  Calls Try.prog 8 #[.agg #[.int .i64 gr, .int .i64 hold, .slice na n nc], .int .i64 t, .slice la m lc] w fun e w' => e = .returned (.bool true) ∧ Gr w w' := by
 have G := Gr.refl w
 have hlen := hnd.len
 have hll := hl.len
 have hlt := hnd.lt
 have hlt2 := hl.lt
 refine Y.calls 124 Try.func8 rfl rfl ?_
 intro ac F0
 have F : Fr ac 124 [(0, .agg #[.int .i64 gr, .int .i64 hold, .slice na n nc]), (1, .int .i64 t), (2, .slice la m lc)] := F0.sub _
 clear F0
 refine Y.seq ?_
 refine Y.lit (by kernel_rfl) ?_
 refine Y.pval F (X.w0 rfl) rfl (X.box rfl (F.ev 0 (.agg #[.int .i64 gr, .int .i64 hold, .slice na n nc])) X.bx) ?_
 clear F ac
 intro ac F
 have g := Gr.alloc w (.cells #[.int .i64 gr, .int .i64 hold, .slice na n nc] 24)
 have hb := heap_alloc_new w (.cells #[.int .i64 gr, .int .i64 hold, .slice na n nc] 24)
 have hbl : w.heap.size < (w.alloc (.cells #[.int .i64 gr, .int .i64 hold, .slice na n nc] 24)).heap.size := by simp
 have hC2 : RCells (w.alloc (.cells #[.int .i64 gr, .int .i64 hold, .slice na n nc] 24)) [(⟨w.heap.size, 0, none⟩, .int .i64 gr), (⟨w.heap.size, 1, none⟩, .int .i64 hold), (⟨w.heap.size, 2, none⟩, .slice na n nc)] := (RCells.nil w).box (b := w.heap.size) #[.int .i64 gr, .int .i64 hold, .slice na n nc] 24 rfl
 generalize w.alloc (.cells #[.int .i64 gr, .int .i64 hold, .slice na n nc] 24) = w3 at *
 replace G := G.trans g
 have hC := hC2
 clear hC2
 replace hnd := hnd.gr g
 replace hl := hl.gr g
 clear g hb hbl
 refine Y.pval F (X.w0 rfl) rfl (X.assign rfl (X.kc (.bool false) rfl)) ?_
 clear F ac
 intro ac F
 refine Y.nil ?_
 replace F : Fr ac 124 [(0, .agg #[.int .i64 gr, .int .i64 hold, .slice na n nc]), (1, .int .i64 t), (2, .slice la m lc), (3, .pointer (some ⟨w.heap.size, 0, none⟩)), (6, .bool false)] := F.sub _
 refine X.thenN ?_
 refine Y.seq ?_
 refine Y.seq ?_
 refine Y.lit (by kernel_rfl) ?_
 refine Y.pval F (X.w0 rfl) rfl (X.move rfl (F.ev 1 (.int .i64 t))) ?_
 clear F ac
 intro ac F
 refine Y.pval F (X.w0 rfl) rfl (X.binop rfl (F.ev 18 (.int .i64 t)) (X.kc (.int .i64 100) rfl) (X.gtrI Try.underlying3 rfl)) ?_
 clear F ac
 intro ac F
 refine Y.pval F (X.w0 rfl) rfl (X.move rfl (F.ev 19 (.bool (decide ((100 : Int) < t))))) ?_
 clear F ac
 intro ac F
 cases h4 : decide ((100 : Int) < t) with
 | false =>
  try rw [h4] at F
  have h4p : ¬ ((100 : Int) < t) := of_decide_eq_false h4
  refine Y.pval F (X.w1 rfl (F.yl (j := 2) (d := 20) (b := false) rfl (by kernel_rfl))) rfl (X.move rfl (F.ev 2 (.slice la m lc))) ?_
  clear F ac
  intro ac F
  refine Y.pval F (X.w1 rfl (F.yl (j := 2) (d := 20) (b := false) rfl (by kernel_rfl))) rfl (X.len1 Try.underlying25 rfl (F.ev 21 (.slice la m lc))) ?_
  clear F ac
  intro ac F
  refine Y.pval F (X.w1 rfl (F.yl (j := 2) (d := 20) (b := false) rfl (by kernel_rfl))) rfl (X.binop rfl (F.ev 22 (.int .i64 m)) (X.kc (.int .i64 200) rfl) (X.gtrI Try.underlying3 rfl)) ?_
  clear F ac
  intro ac F
  refine Y.pval F (X.w0 rfl) rfl (X.pickF rfl (F.ev 20 (.bool false)) (F.ev 23 (.bool (decide ((200 : Int) < m))))) ?_
  clear F ac
  intro ac F
  refine Y.nil ?_
  replace F : Fr ac 124 [(0, .agg #[.int .i64 gr, .int .i64 hold, .slice na n nc]), (1, .int .i64 t), (2, .slice la m lc), (3, .pointer (some ⟨w.heap.size, 0, none⟩)), (6, .bool false), (24, .bool (decide ((200 : Int) < m)))] := F.sub _
  refine X.thenN ?_
  cases h5 : decide ((200 : Int) < m) with
  | false =>
   try rw [h5] at F
   have h5p : ¬ ((200 : Int) < m) := of_decide_eq_false h5
   refine Y.condF (F.ev 24 (.bool false)) ?_
   refine Y.skip ?_
   refine X.thenN ?_
   refine Y.seq ?_
   refine Y.lit (by kernel_rfl) ?_
   refine Y.pval F (X.w0 rfl) rfl (X.move rfl (F.ev 2 (.slice la m lc))) ?_
   clear F ac
   intro ac F
   refine Y.pcall F (X.w0 rfl) rfl (X.enter (F := 31) rfl (X.kc (.func (.func 31) #[] #[]) rfl) (X.a2 (F.ev 26 (.slice la m lc)) (X.kc (.int .i64 4) rfl)) (enters_of Try.func31 (by kernel_rfl) rfl _)) (without_any la m lc 4 l w3 hl (by omega)) ?_
   clear F ac
   rintro e w7 ⟨la6, lm6, lc6, rfl, hl6, g⟩
   refine ⟨_, rfl, ?_⟩
   intro ac F
   replace G := G.trans g
   replace hC := hC.gr g
   replace hnd := hnd.gr g
   replace hl := hl.gr g
   clear g
   refine Y.pval F (X.w0 rfl) rfl (X.assign rfl (F.ev 27 (.slice la6 lm6 lc6))) ?_
   clear F ac
   intro ac F
   refine Y.nil ?_
   replace F : Fr ac 124 [(0, .agg #[.int .i64 gr, .int .i64 hold, .slice na n nc]), (1, .int .i64 t), (2, .slice la m lc), (3, .pointer (some ⟨w.heap.size, 0, none⟩)), (6, .bool false), (7, .slice la6 lm6 lc6), (24, .bool false)] := F.sub _
   refine X.thenN ?_
   refine Y.seq ?_
   refine Y.lit (by kernel_rfl) ?_
   refine Y.pval F (X.w0 rfl) rfl (X.load rfl (F.ev 3 (.pointer (some ⟨w.heap.size, 0, none⟩))) (X.ldN (Try.agg24 _) (Try.siz24 _) (Y.atz (⟨w.heap.size, 0, none⟩) (Y.AtFrom.cons (hC.at 0 rfl) (Y.AtFrom.cons (hC.at 1 rfl) (Y.AtFrom.cons (hC.at 2 rfl) (Y.AtFrom.nil _ _ _))))))) ?_
   clear F ac
   intro ac F
   refine Y.pval F (X.w0 rfl) rfl (X.move rfl (F.ev 1 (.int .i64 t))) ?_
   clear F ac
   intro ac F
   refine Y.pval F (X.w0 rfl) rfl (X.move rfl (F.ev 7 (.slice la6 lm6 lc6))) ?_
   clear F ac
   intro ac F
   refine Y.pcall F (X.w0 rfl) rfl (X.enter (F := 18) rfl (X.kc (.func (.func 18) #[] #[]) rfl) (X.a3 (F.ev 29 (.agg #[.int .i64 gr, .int .i64 hold, .slice na n nc])) (F.ev 30 (.int .i64 t)) (F.ev 31 (.slice la6 lm6 lc6))) (enters_of Try.func18 (by kernel_rfl) rfl _)) (play_any na la6 n nc lm6 lc6 gr hold t nd (withoutL l 4) w7 hnd hl6) ?_
   clear F ac
   rintro e w9 ⟨ra8, rn8, rc8, ea8, en8, ec8, rfl, hr8, he8, g⟩
   refine ⟨_, rfl, ?_⟩
   intro ac F
   replace G := G.trans g
   replace hC := hC.gr g
   replace hnd := hnd.gr g
   replace hl := hl.gr g
   replace hl6 := hl6.gr g
   clear g
   refine Y.pval F (X.w0 rfl) rfl (X.move rfl (F.ev 32 (.tuple #[.slice ra8 rn8 rc8, .slice ea8 en8 ec8, .int .i64 (playE gr hold nd t (withoutL l 4))]))) ?_
   clear F ac
   intro ac F
   refine Y.pval F (X.w0 rfl) rfl (X.extract rfl (F.ev 28 (.tuple #[.slice ra8 rn8 rc8, .slice ea8 en8 ec8, .int .i64 (playE gr hold nd t (withoutL l 4))])) rfl) ?_
   clear F ac
   intro ac F
   refine Y.pval F (X.w0 rfl) rfl (X.extract rfl (F.ev 28 (.tuple #[.slice ra8 rn8 rc8, .slice ea8 en8 ec8, .int .i64 (playE gr hold nd t (withoutL l 4))])) rfl) ?_
   clear F ac
   intro ac F
   refine Y.pval F (X.w0 rfl) rfl (X.extract rfl (F.ev 28 (.tuple #[.slice ra8 rn8 rc8, .slice ea8 en8 ec8, .int .i64 (playE gr hold nd t (withoutL l 4))])) rfl) ?_
   clear F ac
   intro ac F
   refine Y.pval F (X.w0 rfl) rfl (X.assign rfl (F.ev 33 (.slice ra8 rn8 rc8))) ?_
   clear F ac
   intro ac F
   refine Y.pval F (X.w0 rfl) rfl (X.assign rfl (F.ev 34 (.slice ea8 en8 ec8))) ?_
   clear F ac
   intro ac F
   refine Y.pval F (X.w0 rfl) rfl (X.assign rfl (F.ev 35 (.int .i64 (playE gr hold nd t (withoutL l 4))))) ?_
   clear F ac
   intro ac F
   refine Y.nil ?_
   replace F : Fr ac 124 [(0, .agg #[.int .i64 gr, .int .i64 hold, .slice na n nc]), (1, .int .i64 t), (2, .slice la m lc), (3, .pointer (some ⟨w.heap.size, 0, none⟩)), (6, .bool false), (7, .slice la6 lm6 lc6), (8, .slice ra8 rn8 rc8), (10, .int .i64 (playE gr hold nd t (withoutL l 4))), (24, .bool false)] := F.sub _
   refine X.thenN ?_
   refine Y.seq ?_
   refine Y.lit (by kernel_rfl) ?_
   refine Y.pval F (X.w0 rfl) rfl (X.load rfl (F.ev 3 (.pointer (some ⟨w.heap.size, 0, none⟩))) (X.ldN (Try.agg24 _) (Try.siz24 _) (Y.atz (⟨w.heap.size, 0, none⟩) (Y.AtFrom.cons (hC.at 0 rfl) (Y.AtFrom.cons (hC.at 1 rfl) (Y.AtFrom.cons (hC.at 2 rfl) (Y.AtFrom.nil _ _ _))))))) ?_
   clear F ac
   intro ac F
   refine Y.pval F (X.w0 rfl) rfl (X.move rfl (F.ev 1 (.int .i64 t))) ?_
   clear F ac
   intro ac F
   refine Y.pval F (X.w0 rfl) rfl (X.move rfl (F.ev 7 (.slice la6 lm6 lc6))) ?_
   clear F ac
   intro ac F
   refine Y.pcall F (X.w0 rfl) rfl (X.enter (F := 19) rfl (X.kc (.func (.func 19) #[] #[]) rfl) (X.a3 (F.ev 37 (.agg #[.int .i64 gr, .int .i64 hold, .slice na n nc])) (F.ev 38 (.int .i64 t)) (F.ev 39 (.slice la6 lm6 lc6))) (enters_of Try.func19 (by kernel_rfl) rfl _)) (asked_any na la6 n nc lm6 lc6 gr hold t nd (withoutL l 4) w9 hnd hl6) ?_
   clear F ac
   rintro e w11 ⟨ka10, kn10, kc10, rfl, hk10, g⟩
   refine ⟨_, rfl, ?_⟩
   intro ac F
   replace G := G.trans g
   replace hC := hC.gr g
   replace hnd := hnd.gr g
   replace hl := hl.gr g
   replace hl6 := hl6.gr g
   replace hr8 := hr8.gr g
   replace he8 := he8.gr g
   clear g
   refine Y.pval F (X.w0 rfl) rfl (X.move rfl (F.ev 40 (.tuple #[.slice ka10 kn10 kc10, .int .i64 (playE gr hold nd t (withoutL l 4))]))) ?_
   clear F ac
   intro ac F
   refine Y.pval F (X.w0 rfl) rfl (X.extract rfl (F.ev 36 (.tuple #[.slice ka10 kn10 kc10, .int .i64 (playE gr hold nd t (withoutL l 4))])) rfl) ?_
   clear F ac
   intro ac F
   refine Y.pval F (X.w0 rfl) rfl (X.extract rfl (F.ev 36 (.tuple #[.slice ka10 kn10 kc10, .int .i64 (playE gr hold nd t (withoutL l 4))])) rfl) ?_
   clear F ac
   intro ac F
   refine Y.pval F (X.w0 rfl) rfl (X.assign rfl (F.ev 41 (.slice ka10 kn10 kc10))) ?_
   clear F ac
   intro ac F
   refine Y.pval F (X.w0 rfl) rfl (X.assign rfl (F.ev 42 (.int .i64 (playE gr hold nd t (withoutL l 4))))) ?_
   clear F ac
   intro ac F
   refine Y.nil ?_
   replace F : Fr ac 124 [(0, .agg #[.int .i64 gr, .int .i64 hold, .slice na n nc]), (1, .int .i64 t), (2, .slice la m lc), (3, .pointer (some ⟨w.heap.size, 0, none⟩)), (6, .bool false), (7, .slice la6 lm6 lc6), (8, .slice ra8 rn8 rc8), (10, .int .i64 (playE gr hold nd t (withoutL l 4))), (11, .slice ka10 kn10 kc10), (12, .int .i64 (playE gr hold nd t (withoutL l 4))), (24, .bool false)] := F.sub _
   refine X.thenN ?_
   refine Y.seq ?_
   refine Y.lit (by kernel_rfl) ?_
   refine Y.pval F (X.w0 rfl) rfl (X.load rfl (F.ev 3 (.pointer (some ⟨w.heap.size, 0, none⟩))) (X.ldN (Try.agg24 _) (Try.siz24 _) (Y.atz (⟨w.heap.size, 0, none⟩) (Y.AtFrom.cons (hC.at 0 rfl) (Y.AtFrom.cons (hC.at 1 rfl) (Y.AtFrom.cons (hC.at 2 rfl) (Y.AtFrom.nil _ _ _))))))) ?_
   clear F ac
   intro ac F
   refine Y.pval F (X.w0 rfl) rfl (X.move rfl (F.ev 1 (.int .i64 t))) ?_
   clear F ac
   intro ac F
   refine Y.pval F (X.w0 rfl) rfl (X.move rfl (F.ev 7 (.slice la6 lm6 lc6))) ?_
   clear F ac
   intro ac F
   refine Y.pcall F (X.w0 rfl) rfl (X.enter (F := 29) rfl (X.kc (.func (.func 29) #[] #[]) rfl) (X.a3 (F.ev 44 (.agg #[.int .i64 gr, .int .i64 hold, .slice na n nc])) (F.ev 45 (.int .i64 t)) (F.ev 46 (.slice la6 lm6 lc6))) (enters_of Try.func29 (by kernel_rfl) rfl _)) (fail_any na la6 n nc lm6 lc6 gr hold t nd (withoutL l 4) w11 hnd hl6) ?_
   clear F ac
   rintro e w13 ⟨fa12, fb12, rfl, hfe12, hf12, g⟩
   refine ⟨_, rfl, ?_⟩
   intro ac F
   replace G := G.trans g
   replace hC := hC.gr g
   replace hnd := hnd.gr g
   replace hl := hl.gr g
   replace hl6 := hl6.gr g
   replace hr8 := hr8.gr g
   replace he8 := he8.gr g
   replace hk10 := hk10.gr g
   clear g
   refine Y.pval F (X.w0 rfl) rfl (X.move rfl (F.ev 47 (.tuple #[.int .i64 fa12, .int .i64 fb12, .int .i64 (playE gr hold nd t (withoutL l 4))]))) ?_
   clear F ac
   intro ac F
   refine Y.pval F (X.w0 rfl) rfl (X.extract rfl (F.ev 43 (.tuple #[.int .i64 fa12, .int .i64 fb12, .int .i64 (playE gr hold nd t (withoutL l 4))])) rfl) ?_
   clear F ac
   intro ac F
   refine Y.pval F (X.w0 rfl) rfl (X.extract rfl (F.ev 43 (.tuple #[.int .i64 fa12, .int .i64 fb12, .int .i64 (playE gr hold nd t (withoutL l 4))])) rfl) ?_
   clear F ac
   intro ac F
   refine Y.pval F (X.w0 rfl) rfl (X.extract rfl (F.ev 43 (.tuple #[.int .i64 fa12, .int .i64 fb12, .int .i64 (playE gr hold nd t (withoutL l 4))])) rfl) ?_
   clear F ac
   intro ac F
   refine Y.pval F (X.w0 rfl) rfl (X.assign rfl (F.ev 48 (.int .i64 fa12))) ?_
   clear F ac
   intro ac F
   refine Y.pval F (X.w0 rfl) rfl (X.assign rfl (F.ev 49 (.int .i64 fb12))) ?_
   clear F ac
   intro ac F
   refine Y.pval F (X.w0 rfl) rfl (X.assign rfl (F.ev 50 (.int .i64 (playE gr hold nd t (withoutL l 4))))) ?_
   clear F ac
   intro ac F
   refine Y.nil ?_
   replace F : Fr ac 124 [(0, .agg #[.int .i64 gr, .int .i64 hold, .slice na n nc]), (1, .int .i64 t), (2, .slice la m lc), (3, .pointer (some ⟨w.heap.size, 0, none⟩)), (6, .bool false), (7, .slice la6 lm6 lc6), (8, .slice ra8 rn8 rc8), (10, .int .i64 (playE gr hold nd t (withoutL l 4))), (11, .slice ka10 kn10 kc10), (12, .int .i64 (playE gr hold nd t (withoutL l 4))), (13, .int .i64 fa12), (14, .int .i64 fb12), (15, .int .i64 (playE gr hold nd t (withoutL l 4))), (24, .bool false)] := F.sub _
   refine X.thenN ?_
   refine Y.seq ?_
   refine Y.seq ?_
   refine Y.lit (by kernel_rfl) ?_
   refine Y.pval F (X.w0 rfl) rfl (X.move rfl (F.ev 10 (.int .i64 (playE gr hold nd t (withoutL l 4))))) ?_
   clear F ac
   intro ac F
   refine Y.pval F (X.w0 rfl) rfl (X.binop rfl (F.ev 51 (.int .i64 (playE gr hold nd t (withoutL l 4)))) (X.kc (.int .i64 0) rfl) (X.neqI Try.underlying26 rfl)) ?_
   clear F ac
   intro ac F
   refine Y.pval F (X.w0 rfl) rfl (X.move rfl (F.ev 52 (.bool ((playE gr hold nd t (withoutL l 4) : Int) != 0)))) ?_
   clear F ac
   intro ac F
   cases h14 : ((playE gr hold nd t (withoutL l 4) : Int) != 0) with
   | false =>
    try rw [h14] at F
    have h14p : (playE gr hold nd t (withoutL l 4) : Int) = 0 := by simpa using h14
    have hok := playE_ok h14p
    have hc := hok.c
    have ht0 := hok.t0
    have h16 := hc.n16
    obtain rfl : rn8 = t.toNat := by have h8 := (by have h9 := hr8.len; rw [playRows_len h14p] at h9; exact h9); exact h8.symm
    obtain rfl : n = en8 := by have h9 := he8.len; rw [playEn_len h14p, hlen] at h9; exact h9
    obtain rfl : kn10 = t.toNat := by have h8 := (by have h9 := hk10.len; rw [playAsk_len h14p] at h9; exact h9); exact h8.symm
    obtain ⟨rfl, rfl⟩ : fa12 = -1 ∧ fb12 = -1 := fail_none h14p (withoutL_no l 4) (hlen ▸ hf12 h14p)
    refine Y.pval F (X.w1 rfl (F.yl (j := 2) (d := 53) (b := false) rfl (by kernel_rfl))) rfl (X.move rfl (F.ev 12 (.int .i64 (playE gr hold nd t (withoutL l 4))))) ?_
    clear F ac
    intro ac F
    refine Y.pval F (X.w1 rfl (F.yl (j := 2) (d := 53) (b := false) rfl (by kernel_rfl))) rfl (X.binop rfl (F.ev 54 (.int .i64 (playE gr hold nd t (withoutL l 4)))) (X.kc (.int .i64 0) rfl) (X.neqI Try.underlying26 h14)) ?_
    clear F ac
    intro ac F
    refine Y.pval F (X.w0 rfl) rfl (X.pickF rfl (F.ev 53 (.bool false)) (F.ev 55 (.bool false))) ?_
    clear F ac
    intro ac F
    refine Y.pval F (X.w0 rfl) rfl (X.move rfl (F.ev 56 (.bool false))) ?_
    clear F ac
    intro ac F
    refine Y.pval F (X.w1 rfl (F.yl (j := 6) (d := 57) (b := false) rfl (by kernel_rfl))) rfl (X.move rfl (F.ev 15 (.int .i64 (playE gr hold nd t (withoutL l 4))))) ?_
    clear F ac
    intro ac F
    refine Y.pval F (X.w1 rfl (F.yl (j := 6) (d := 57) (b := false) rfl (by kernel_rfl))) rfl (X.binop rfl (F.ev 58 (.int .i64 (playE gr hold nd t (withoutL l 4)))) (X.kc (.int .i64 0) rfl) (X.neqI Try.underlying26 h14)) ?_
    clear F ac
    intro ac F
    refine Y.pval F (X.w0 rfl) rfl (X.pickF rfl (F.ev 57 (.bool false)) (F.ev 59 (.bool false))) ?_
    clear F ac
    intro ac F
    refine Y.nil ?_
    replace F : Fr ac 124 [(0, .agg #[.int .i64 gr, .int .i64 hold, .slice na n nc]), (1, .int .i64 t), (2, .slice la m lc), (3, .pointer (some ⟨w.heap.size, 0, none⟩)), (6, .bool false), (7, .slice la6 lm6 lc6), (8, .slice ra8 t.toNat rc8), (10, .int .i64 (playE gr hold nd t (withoutL l 4))), (11, .slice ka10 t.toNat kc10), (12, .int .i64 (playE gr hold nd t (withoutL l 4))), (13, .int .i64 (-1)), (14, .int .i64 (-1)), (15, .int .i64 (playE gr hold nd t (withoutL l 4))), (24, .bool false), (60, .bool false)] := F.sub _
    refine X.thenN ?_
    refine Y.condF (F.ev 60 (.bool false)) ?_
    refine Y.skip ?_
    refine X.thenN ?_
    refine Y.seq ?_
    refine Y.seq ?_
    refine Y.lit (by kernel_rfl) ?_
    refine Y.pval F (X.w0 rfl) rfl (X.move rfl (F.ev 13 (.int .i64 (-1)))) ?_
    clear F ac
    intro ac F
    refine Y.pval F (X.w0 rfl) rfl (X.binop rfl (F.ev 72 (.int .i64 (-1))) (X.kc (.int .i64 (-1)) rfl) (X.neqI Try.underlying3 (show (((-1) : Int) != (-1)) = false by simp))) ?_
    clear F ac
    intro ac F
    refine Y.pval F (X.w0 rfl) rfl (X.move rfl (F.ev 73 (.bool false))) ?_
    clear F ac
    intro ac F
    refine Y.pval F (X.w1 rfl (F.yl (j := 2) (d := 74) (b := false) rfl (by kernel_rfl))) rfl (X.move rfl (F.ev 14 (.int .i64 (-1)))) ?_
    clear F ac
    intro ac F
    refine Y.pval F (X.w1 rfl (F.yl (j := 2) (d := 74) (b := false) rfl (by kernel_rfl))) rfl (X.binop rfl (F.ev 75 (.int .i64 (-1))) (X.kc (.int .i64 (-1)) rfl) (X.neqI Try.underlying3 (show (((-1) : Int) != (-1)) = false by simp))) ?_
    clear F ac
    intro ac F
    refine Y.pval F (X.w0 rfl) rfl (X.pickF rfl (F.ev 74 (.bool false)) (F.ev 76 (.bool false))) ?_
    clear F ac
    intro ac F
    refine Y.pval F (X.w0 rfl) rfl (X.move rfl (F.ev 77 (.bool false))) ?_
    clear F ac
    intro ac F
    refine Y.pval F (X.w1 rfl (F.yl (j := 6) (d := 78) (b := false) rfl (by kernel_rfl))) rfl (X.move rfl (F.ev 8 (.slice ra8 t.toNat rc8))) ?_
    clear F ac
    intro ac F
    refine Y.pval F (X.w1 rfl (F.yl (j := 6) (d := 78) (b := false) rfl (by kernel_rfl))) rfl (X.len1 Try.underlying34 rfl (F.ev 79 (.slice ra8 t.toNat rc8))) ?_
    clear F ac
    intro ac F
    refine Y.pval F (X.w1 rfl (F.yl (j := 6) (d := 78) (b := false) rfl (by kernel_rfl))) rfl (X.move rfl (F.ev 1 (.int .i64 t))) ?_
    clear F ac
    intro ac F
    refine Y.pval F (X.w1 rfl (F.yl (j := 6) (d := 78) (b := false) rfl (by kernel_rfl))) rfl (X.binop rfl (F.ev 80 (.int .i64 t.toNat)) (F.ev 81 (.int .i64 t)) (X.neqI Try.underlying3 rfl)) ?_
    clear F ac
    intro ac F
    refine Y.pval F (X.w0 rfl) rfl (X.pickF rfl (F.ev 78 (.bool false)) (F.ev 82 (.bool ((t.toNat : Int) != t)))) ?_
    clear F ac
    intro ac F
    refine Y.pval F (X.w0 rfl) rfl (X.move rfl (F.ev 83 (.bool ((t.toNat : Int) != t)))) ?_
    clear F ac
    intro ac F
    have h16 : ((t.toNat : Int) != t) = false := by simp; omega
    try rw [h16] at F
    refine Y.pval F (X.w1 rfl (F.yl (j := 12) (d := 84) (b := false) rfl (by kernel_rfl))) rfl (X.move rfl (F.ev 11 (.slice ka10 t.toNat kc10))) ?_
    clear F ac
    intro ac F
    refine Y.pval F (X.w1 rfl (F.yl (j := 12) (d := 84) (b := false) rfl (by kernel_rfl))) rfl (X.len1 Try.underlying34 rfl (F.ev 85 (.slice ka10 t.toNat kc10))) ?_
    clear F ac
    intro ac F
    refine Y.pval F (X.w1 rfl (F.yl (j := 12) (d := 84) (b := false) rfl (by kernel_rfl))) rfl (X.move rfl (F.ev 1 (.int .i64 t))) ?_
    clear F ac
    intro ac F
    refine Y.pval F (X.w1 rfl (F.yl (j := 12) (d := 84) (b := false) rfl (by kernel_rfl))) rfl (X.binop rfl (F.ev 86 (.int .i64 t.toNat)) (F.ev 87 (.int .i64 t)) (X.neqI Try.underlying3 h16)) ?_
    clear F ac
    intro ac F
    refine Y.pval F (X.w0 rfl) rfl (X.pickF rfl (F.ev 84 (.bool false)) (F.ev 88 (.bool false))) ?_
    clear F ac
    intro ac F
    refine Y.nil ?_
    replace F : Fr ac 124 [(0, .agg #[.int .i64 gr, .int .i64 hold, .slice na n nc]), (1, .int .i64 t), (2, .slice la m lc), (3, .pointer (some ⟨w.heap.size, 0, none⟩)), (6, .bool false), (7, .slice la6 lm6 lc6), (8, .slice ra8 t.toNat rc8), (10, .int .i64 (playE gr hold nd t (withoutL l 4))), (11, .slice ka10 t.toNat kc10), (12, .int .i64 (playE gr hold nd t (withoutL l 4))), (13, .int .i64 (-1)), (14, .int .i64 (-1)), (15, .int .i64 (playE gr hold nd t (withoutL l 4))), (24, .bool false), (60, .bool false), (89, .bool false)] := F.sub _
    refine X.thenN ?_
    refine Y.condF (F.ev 89 (.bool false)) ?_
    refine Y.skip ?_
    refine X.thenN ?_
    refine Y.seq ?_
    refine Y.seq ?_
    refine Y.lit (by kernel_rfl) ?_
    refine Y.pval F (X.w0 rfl) rfl (X.assign rfl (X.kc (.int .i64 0) rfl)) ?_
    clear F ac
    intro ac F
    refine Y.nil ?_
    replace F : Fr ac 124 [(0, .agg #[.int .i64 gr, .int .i64 hold, .slice na n nc]), (1, .int .i64 t), (2, .slice la m lc), (3, .pointer (some ⟨w.heap.size, 0, none⟩)), (6, .bool false), (7, .slice la6 lm6 lc6), (8, .slice ra8 t.toNat rc8), (10, .int .i64 (playE gr hold nd t (withoutL l 4))), (11, .slice ka10 t.toNat kc10), (12, .int .i64 (playE gr hold nd t (withoutL l 4))), (13, .int .i64 (-1)), (14, .int .i64 (-1)), (15, .int .i64 (playE gr hold nd t (withoutL l 4))), (16, .int .i64 0), (24, .bool false), (60, .bool false), (89, .bool false)] := F.sub _
    refine X.thenN ?_
    refine Y.block ?_
    have hndB := hnd
    have hlB := hl
    have hl6B := hl6
    have hr8B := hr8
    have he8B := he8
    have hk10B := hk10
    have hCB := hC
    have GB := G
    refine Y.loop (fun me_ ac wr => ∃ (k : Nat), me_ = t.toNat - k ∧ Gr w13 wr ∧ k ≤ t.toNat ∧ Fr ac 124 [(0, .agg #[.int .i64 gr, .int .i64 hold, .slice na n nc]), (1, .int .i64 t), (2, .slice la m lc), (3, .pointer (some ⟨w.heap.size, 0, none⟩)), (7, .slice la6 lm6 lc6), (8, .slice ra8 t.toNat rc8), (10, .int .i64 (playE gr hold nd t (withoutL l 4))), (11, .slice ka10 t.toNat kc10), (12, .int .i64 (playE gr hold nd t (withoutL l 4))), (13, .int .i64 (-1)), (14, .int .i64 (-1)), (15, .int .i64 (playE gr hold nd t (withoutL l 4))), (16, .int .i64 k), (24, .bool false), (60, .bool false), (89, .bool false)]) _ ⟨0, rfl, Gr.refl _, Nat.zero_le _, F.sub _⟩ ?_
    clear F
    intro me_ ac w17 hI
    obtain ⟨k, rfl, gr, hk, F⟩ := hI
    replace G := GB.trans gr
    replace hC := hCB.gr gr
    replace hnd := hndB.gr gr
    replace hl := hlB.gr gr
    replace hl6 := hl6B.gr gr
    replace hr8 := hr8B.gr gr
    replace he8 := he8B.gr gr
    replace hk10 := hk10B.gr gr
    have GB_ := gr
    clear gr
    refine Y.seq ?_
    refine Y.seq ?_
    refine Y.lit (by kernel_rfl) ?_
    refine Y.pval F (X.w0 rfl) rfl (X.move rfl (F.ev 16 (.int .i64 k))) ?_
    clear F ac
    intro ac F
    refine Y.pval F (X.w0 rfl) rfl (X.move rfl (F.ev 1 (.int .i64 t))) ?_
    clear F ac
    intro ac F
    refine Y.pval F (X.w0 rfl) rfl (X.binop rfl (F.ev 90 (.int .i64 k)) (F.ev 91 (.int .i64 t)) (X.lssI Try.underlying3 rfl)) ?_
    clear F ac
    intro ac F
    refine Y.nil ?_
    replace F : Fr ac 124 [(0, .agg #[.int .i64 gr, .int .i64 hold, .slice na n nc]), (1, .int .i64 t), (2, .slice la m lc), (3, .pointer (some ⟨w.heap.size, 0, none⟩)), (7, .slice la6 lm6 lc6), (8, .slice ra8 t.toNat rc8), (10, .int .i64 (playE gr hold nd t (withoutL l 4))), (11, .slice ka10 t.toNat kc10), (12, .int .i64 (playE gr hold nd t (withoutL l 4))), (13, .int .i64 (-1)), (14, .int .i64 (-1)), (15, .int .i64 (playE gr hold nd t (withoutL l 4))), (16, .int .i64 k), (24, .bool false), (60, .bool false), (89, .bool false), (92, .bool (decide ((k : Int) < t)))] := F.sub _
    refine X.thenN ?_
    cases h18 : decide ((k : Int) < t) with
    | false =>
     try rw [h18] at F
     have h18p : ¬ ((k : Int) < t) := of_decide_eq_false h18
     refine Y.condF (F.ev 92 (.bool false)) ?_
     refine Y.exit ?_
     refine X.thenX ?_
     refine X.thenX ?_
     refine X.blockX ?_
     refine X.thenN ?_
     refine Y.seq ?_
     refine Y.lit (by kernel_rfl) ?_
     refine Y.pcall F (X.w0 rfl) rfl (X.enter (F := 16) rfl (X.kc (.func (.func 16) #[] #[]) rfl) rfl (enters_of Try.func16 (by kernel_rfl) rfl _)) (works_any w17) ?_
     clear F ac
     rintro e w20 ⟨rfl, g⟩
     refine ⟨_, rfl, ?_⟩
     intro ac F
     replace G := G.trans g
     replace hC := hC.gr g
     replace GB_ := GB_.trans g
     replace hnd := hnd.gr g
     replace hl := hl.gr g
     replace hl6 := hl6.gr g
     replace hr8 := hr8.gr g
     replace he8 := he8.gr g
     replace hk10 := hk10.gr g
     clear g
     refine Y.pval F (X.w0 rfl) rfl (X.assign rfl (F.ev 123 (.bool true))) ?_
     clear F ac
     intro ac F
     refine Y.nil ?_
     replace F : Fr ac 124 [(0, .agg #[.int .i64 gr, .int .i64 hold, .slice na n nc]), (1, .int .i64 t), (2, .slice la m lc), (3, .pointer (some ⟨w.heap.size, 0, none⟩)), (6, .bool true), (7, .slice la6 lm6 lc6), (8, .slice ra8 t.toNat rc8), (10, .int .i64 (playE gr hold nd t (withoutL l 4))), (11, .slice ka10 t.toNat kc10), (12, .int .i64 (playE gr hold nd t (withoutL l 4))), (13, .int .i64 (-1)), (14, .int .i64 (-1)), (15, .int .i64 (playE gr hold nd t (withoutL l 4))), (16, .int .i64 k), (24, .bool false), (60, .bool false), (89, .bool false), (92, .bool false)] := F.sub _
     refine X.thenN ?_
     refine Y.ret ?_
     exact Y.ret0 (v := .bool true) F (Y.rs1 F rfl (by kernel_rfl)) ⟨rfl, G⟩
    | true =>
     try rw [h18] at F
     have h18p : ((k : Int) < t) := of_decide_eq_true h18
     refine Y.condT (F.ev 92 (.bool true)) ?_
     refine Y.skip ?_
     refine X.thenN ?_
     refine Y.seq ?_
     refine Y.block ?_
     refine Y.seq ?_
     refine Y.lit (by kernel_rfl) ?_
     refine Y.pval F (X.w0 rfl) rfl (X.assign rfl (X.kc (.int .i64 0) rfl)) ?_
     clear F ac
     intro ac F
     refine Y.nil ?_
     replace F : Fr ac 124 [(0, .agg #[.int .i64 gr, .int .i64 hold, .slice na n nc]), (1, .int .i64 t), (2, .slice la m lc), (3, .pointer (some ⟨w.heap.size, 0, none⟩)), (7, .slice la6 lm6 lc6), (8, .slice ra8 t.toNat rc8), (10, .int .i64 (playE gr hold nd t (withoutL l 4))), (11, .slice ka10 t.toNat kc10), (12, .int .i64 (playE gr hold nd t (withoutL l 4))), (13, .int .i64 (-1)), (14, .int .i64 (-1)), (15, .int .i64 (playE gr hold nd t (withoutL l 4))), (16, .int .i64 k), (17, .int .i64 0), (24, .bool false), (60, .bool false), (89, .bool false), (92, .bool true)] := F.sub _
     refine X.thenN ?_
     refine Y.block ?_
     have hndBB := hnd
     have hlBB := hl
     have hl6BB := hl6
     have hr8BB := hr8
     have he8BB := he8
     have hk10BB := hk10
     have hCBB := hC
     have GBB := G
     refine Y.loop (fun me_ ac wr => ∃ (i : Nat), me_ = n - i ∧ Gr w17 wr ∧ i ≤ n ∧ Fr ac 124 [(0, .agg #[.int .i64 gr, .int .i64 hold, .slice na n nc]), (1, .int .i64 t), (2, .slice la m lc), (3, .pointer (some ⟨w.heap.size, 0, none⟩)), (7, .slice la6 lm6 lc6), (8, .slice ra8 t.toNat rc8), (10, .int .i64 (playE gr hold nd t (withoutL l 4))), (11, .slice ka10 t.toNat kc10), (12, .int .i64 (playE gr hold nd t (withoutL l 4))), (13, .int .i64 (-1)), (14, .int .i64 (-1)), (15, .int .i64 (playE gr hold nd t (withoutL l 4))), (16, .int .i64 k), (17, .int .i64 i), (24, .bool false), (60, .bool false), (89, .bool false), (92, .bool true)]) _ ⟨0, rfl, Gr.refl _, Nat.zero_le _, F.sub _⟩ ?_
     clear F
     intro me_ ac w21 hI
     obtain ⟨i, rfl, gr, hi, F⟩ := hI
     replace G := GBB.trans gr
     replace hC := hCBB.gr gr
     replace hnd := hndBB.gr gr
     replace hl := hlBB.gr gr
     replace hl6 := hl6BB.gr gr
     replace hr8 := hr8BB.gr gr
     replace he8 := he8BB.gr gr
     replace hk10 := hk10BB.gr gr
     replace GB_ := GB_.trans gr
     have GBB_ := gr
     clear gr
     refine Y.seq ?_
     refine Y.seq ?_
     refine Y.lit (by kernel_rfl) ?_
     refine Y.pval F (X.w0 rfl) rfl (X.move rfl (F.ev 17 (.int .i64 i))) ?_
     clear F ac
     intro ac F
     refine Y.pval F (X.w0 rfl) rfl (X.field rfl (F.ev 3 (.pointer (some ⟨w.heap.size, 0, none⟩))) (X.fld Try.underlying24 rfl (Try.siz22 _) rfl rfl)) ?_
     clear F ac
     intro ac F
     refine Y.pval F (X.w0 rfl) rfl (X.load rfl (F.ev 96 (.pointer (some ⟨w.heap.size, 2, none⟩))) (X.ld1 (Try.agg22 _) (hC.at 2 rfl))) ?_
     clear F ac
     intro ac F
     refine Y.pval F (X.w0 rfl) rfl (X.len1 Try.underlying22 rfl (F.ev 97 (.slice na n nc))) ?_
     clear F ac
     intro ac F
     refine Y.pval F (X.w0 rfl) rfl (X.binop rfl (F.ev 95 (.int .i64 i)) (F.ev 98 (.int .i64 n)) (X.lssI Try.underlying3 rfl)) ?_
     clear F ac
     intro ac F
     refine Y.nil ?_
     replace F : Fr ac 124 [(0, .agg #[.int .i64 gr, .int .i64 hold, .slice na n nc]), (1, .int .i64 t), (2, .slice la m lc), (3, .pointer (some ⟨w.heap.size, 0, none⟩)), (7, .slice la6 lm6 lc6), (8, .slice ra8 t.toNat rc8), (10, .int .i64 (playE gr hold nd t (withoutL l 4))), (11, .slice ka10 t.toNat kc10), (12, .int .i64 (playE gr hold nd t (withoutL l 4))), (13, .int .i64 (-1)), (14, .int .i64 (-1)), (15, .int .i64 (playE gr hold nd t (withoutL l 4))), (16, .int .i64 k), (17, .int .i64 i), (24, .bool false), (60, .bool false), (89, .bool false), (92, .bool true), (99, .bool (decide ((i : Int) < n)))] := F.sub _
     refine X.thenN ?_
     cases h22 : decide ((i : Int) < n) with
     | false =>
      try rw [h22] at F
      have h22p : ¬ ((i : Int) < n) := of_decide_eq_false h22
      obtain rfl : n = i := by omega
      refine Y.condF (F.ev 99 (.bool false)) ?_
      refine Y.exit ?_
      refine X.thenX ?_
      refine X.thenX ?_
      refine X.blockX ?_
      refine X.blockN ?_
      refine X.thenN ?_
      refine Y.lit (by kernel_rfl) ?_
      refine Y.pval F (X.w0 rfl) rfl (X.move rfl (F.ev 16 (.int .i64 k))) ?_
      clear F ac
      intro ac F
      refine Y.pval F (X.w0 rfl) rfl (X.binop rfl (F.ev 93 (.int .i64 k)) (X.kc (.int .i64 1) rfl) (X.addI Try.underlying3 rfl (by omega) (by omega))) ?_
      clear F ac
      intro ac F
      refine Y.pval F (X.w0 rfl) rfl (X.assign rfl (F.ev 94 (.int .i64 ((k : Int) + 1)))) ?_
      clear F ac
      intro ac F
      refine Y.nil ?_
      replace F : Fr ac 124 [(0, .agg #[.int .i64 gr, .int .i64 hold, .slice na n nc]), (1, .int .i64 t), (2, .slice la m lc), (3, .pointer (some ⟨w.heap.size, 0, none⟩)), (7, .slice la6 lm6 lc6), (8, .slice ra8 t.toNat rc8), (10, .int .i64 (playE gr hold nd t (withoutL l 4))), (11, .slice ka10 t.toNat kc10), (12, .int .i64 (playE gr hold nd t (withoutL l 4))), (13, .int .i64 (-1)), (14, .int .i64 (-1)), (15, .int .i64 (playE gr hold nd t (withoutL l 4))), (16, .int .i64 ((k : Int) + 1)), (17, .int .i64 n), (24, .bool false), (60, .bool false), (89, .bool false), (92, .bool true), (99, .bool false)] := F.sub _
      refine X.thenN ?_
      refine ⟨_, ?_, k + 1, rfl, GB_, by omega, F.sub _⟩
      omega
     | true =>
      try rw [h22] at F
      have h22p : ((i : Int) < n) := of_decide_eq_true h22
      refine Y.condT (F.ev 99 (.bool true)) ?_
      refine Y.skip ?_
      refine X.thenN ?_
      refine Y.seq ?_
      refine Y.block ?_
      refine Y.seq ?_
      obtain ⟨pd23, pe23, -, pc23⟩ := hk10.at (j := k) (by omega)
      subst pe23
      replace hC : RCells w21 [(⟨w.heap.size, 0, none⟩, .int .i64 gr), (⟨w.heap.size, 1, none⟩, .int .i64 hold), (⟨w.heap.size, 2, none⟩, .slice na n nc), (pd23.add k, .int .i64 ((playAsk gr hold nd t (withoutL l 4))[k]?.getD 0))] := hC.append ((RCells.cons pc23 (RCells.nil _)))
      clear pc23
      obtain ⟨pd24, pe24, -, -, pc24⟩ := hnd.at (j := i) (by omega)
      subst pe24
      replace hC : RCells w21 [(⟨w.heap.size, 0, none⟩, .int .i64 gr), (⟨w.heap.size, 1, none⟩, .int .i64 hold), (⟨w.heap.size, 2, none⟩, .slice (some pd24) n nc), (pd23.add k, .int .i64 ((playAsk gr hold nd t (withoutL l 4))[k]?.getD 0)), (pd24.add (i * 5), .int .i64 (cv nd i 0)), (⟨(pd24.add (i * 5)).block, (pd24.add (i * 5)).off + 1, none⟩, .int .i64 (cv nd i 1)), (⟨(pd24.add (i * 5)).block, (pd24.add (i * 5)).off + 2, none⟩, .int .i64 (cv nd i 2)), (⟨(pd24.add (i * 5)).block, (pd24.add (i * 5)).off + 3, none⟩, .int .i64 (cv nd i 3)), (⟨(pd24.add (i * 5)).block, (pd24.add (i * 5)).off + 4, none⟩, .int .i64 (cv nd i 4))] := hC.append ((RCells.cons (pc24 0 (by decide)) (RCells.cons (pc24 1 (by decide)) (RCells.cons (pc24 2 (by decide)) (RCells.cons (pc24 3 (by decide)) (RCells.cons (pc24 4 (by decide)) (RCells.nil _)))))))
      clear pc24
      cases h25 : ((andV ((playAsk gr hold nd t (withoutL l 4))[k]?.getD 0 : Int) (cv nd i 0 : Int) : Int) != 0) with
      | false =>
       try rw [h25] at F
       have h25p : (andV ((playAsk gr hold nd t (withoutL l 4))[k]?.getD 0 : Int) (cv nd i 0 : Int) : Int) = 0 := by simpa using h25
       refine Y.region F [some (.slice (some pd23) t.toNat kc10), some (.int .i64 k), some (.pointer (some (pd23.add k))), some (.int .i64 ((playAsk gr hold nd t (withoutL l 4))[k]?.getD 0)), some (.pointer (some ⟨w.heap.size, 2, none⟩)), some (.slice (some pd24) n nc), some (.int .i64 i), some (.pointer (some (pd24.add (i * 5)))), some (.pointer (some (pd24.add (i * 5)))), some (.int .i64 (cv nd i 0)), some (.int .i64 (andV ((playAsk gr hold nd t (withoutL l 4))[k]?.getD 0 : Int) (cv nd i 0 : Int))), some (.bool false), some (.bool false), none, none, none, none, none, none, none, some (.bool false)] [] rfl ⟨by kernel_rfl, of_decide_eq_true (by kernel_rfl), by kernel_rfl, by kernel_rfl, by kernel_rfl⟩ ⟨?_, ?_, ?_, ?_, ?_, ?_, ?_, ?_, ?_, ?_, ?_, ?_, ?_, ?_, ?_, ?_, ?_, ?_, ?_, ?_, ?_, trivial⟩ ?_
       ·intro ac done u W Sx hR
        exact X.val (X.w0 rfl) rfl (X.move rfl (Sx.ev 11 (.slice (some pd23) t.toNat kc10))) (hR.step (Gr.refl _) rfl)
       ·intro ac done u W Sx hR
        exact X.val (X.w0 rfl) rfl (X.move rfl (Sx.ev 16 (.int .i64 k))) (hR.step (Gr.refl _) rfl)
       ·intro ac done u W Sx hR
        exact X.val (X.w0 rfl) rfl (X.index rfl (Sx.ev 102 (.slice (some pd23) t.toNat kc10)) (Sx.ev 103 (.int .i64 k)) (X.idx (k := k) Try.underlying34 (Try.siz3 _) (by omega) (by omega) (by rw [Nat.mul_one]))) (hR.step (Gr.refl _) rfl)
       ·intro ac done u W Sx hR
        have g : Gr w21 W := hR.1
        exact X.val (X.w0 rfl) rfl (X.load rfl (Sx.ev 104 (.pointer (some (pd23.add k)))) (X.ld1 (Try.agg3 _) ((hC.gr g).at 3 rfl))) (hR.step (Gr.refl _) rfl)
       ·intro ac done u W Sx hR
        exact X.val (X.w0 rfl) rfl (X.field rfl (Sx.ev 3 (.pointer (some ⟨w.heap.size, 0, none⟩))) (X.fld Try.underlying24 rfl (Try.siz22 _) rfl rfl)) (hR.step (Gr.refl _) rfl)
       ·intro ac done u W Sx hR
        have g : Gr w21 W := hR.1
        exact X.val (X.w0 rfl) rfl (X.load rfl (Sx.ev 106 (.pointer (some ⟨w.heap.size, 2, none⟩))) (X.ld1 (Try.agg22 _) ((hC.gr g).at 2 rfl))) (hR.step (Gr.refl _) rfl)
       ·intro ac done u W Sx hR
        exact X.val (X.w0 rfl) rfl (X.move rfl (Sx.ev 17 (.int .i64 i))) (hR.step (Gr.refl _) rfl)
       ·intro ac done u W Sx hR
        exact X.val (X.w0 rfl) rfl (X.index rfl (Sx.ev 107 (.slice (some pd24) n nc)) (Sx.ev 108 (.int .i64 i)) (X.idx (k := i) Try.underlying22 (Try.siz31 _) (by omega) (by omega) rfl)) (hR.step (Gr.refl _) rfl)
       ·intro ac done u W Sx hR
        exact X.val (X.w0 rfl) rfl (X.field rfl (Sx.ev 109 (.pointer (some (pd24.add (i * 5))))) (X.fld Try.underlying31 rfl (Try.siz3 _) rfl rfl)) (hR.step (Gr.refl _) rfl)
       ·intro ac done u W Sx hR
        have g : Gr w21 W := hR.1
        exact X.val (X.w0 rfl) rfl (X.load rfl (Sx.ev 110 (.pointer (some (pd24.add (i * 5))))) (X.ld1 (Try.agg3 _) ((hC.gr g).at 4 rfl))) (hR.step (Gr.refl _) rfl)
       ·intro ac done u W Sx hR
        exact X.val (X.w0 rfl) rfl (X.binop rfl (Sx.ev 105 (.int .i64 ((playAsk gr hold nd t (withoutL l 4))[k]?.getD 0))) (Sx.ev 111 (.int .i64 (cv nd i 0))) (X.andI Try.underlying3 rfl)) (hR.step (Gr.refl _) rfl)
       ·intro ac done u W Sx hR
        exact X.val (X.w0 rfl) rfl (X.binop rfl (Sx.ev 112 (.int .i64 (andV ((playAsk gr hold nd t (withoutL l 4))[k]?.getD 0 : Int) (cv nd i 0 : Int)))) (X.kc (.int .i64 0) rfl) (X.neqI Try.underlying3 h25)) (hR.step (Gr.refl _) rfl)
       ·intro ac done u W Sx hR
        exact X.val (X.w0 rfl) rfl (X.move rfl (Sx.ev 113 (.bool false))) (hR.step (Gr.refl _) rfl)
       ·intro ac done u W Sx hR
        exact X.skip (X.w2 rfl (Sx.yl 12 114 false (by kernel_rfl) rfl rfl) rfl) rfl (hR.skip rfl)
       ·intro ac done u W Sx hR
        exact X.skip (X.w2 rfl (Sx.yl 12 114 false (by kernel_rfl) rfl rfl) rfl) rfl (hR.skip rfl)
       ·intro ac done u W Sx hR
        exact X.skip (X.w2 rfl (Sx.yl 12 114 false (by kernel_rfl) rfl rfl) rfl) rfl (hR.skip rfl)
       ·intro ac done u W Sx hR
        exact X.skip (X.w2 rfl (Sx.yl 12 114 false (by kernel_rfl) rfl rfl) rfl) rfl (hR.skip rfl)
       ·intro ac done u W Sx hR
        exact X.skip (X.w2 rfl (Sx.yl 12 114 false (by kernel_rfl) rfl rfl) rfl) rfl (hR.skip rfl)
       ·intro ac done u W Sx hR
        exact X.skip (X.w2 rfl (Sx.yl 12 114 false (by kernel_rfl) rfl rfl) rfl) rfl (hR.skip rfl)
       ·intro ac done u W Sx hR
        exact X.skip (X.w2 rfl (Sx.yl 12 114 false (by kernel_rfl) rfl rfl) rfl) rfl (hR.skip rfl)
       ·intro ac done u W Sx hR
        exact X.val (X.w0 rfl) rfl (X.pickF rfl (Sx.ev 114 (.bool false)) (X.kc (.bool false) rfl)) (hR.step (Gr.refl _) rfl)
       intro ac u w26 hs hd hl ho hR
       have g : Gr w21 w26 := hR.1
       replace F : Fr ac 124 [(0, .agg #[.int .i64 gr, .int .i64 hold, .slice (some pd24) n nc]), (1, .int .i64 t), (2, .slice la m lc), (3, .pointer (some ⟨w.heap.size, 0, none⟩)), (7, .slice la6 lm6 lc6), (8, .slice ra8 t.toNat rc8), (10, .int .i64 (playE gr hold nd t (withoutL l 4))), (11, .slice (some pd23) t.toNat kc10), (12, .int .i64 (playE gr hold nd t (withoutL l 4))), (13, .int .i64 (-1)), (14, .int .i64 (-1)), (15, .int .i64 (playE gr hold nd t (withoutL l 4))), (16, .int .i64 k), (17, .int .i64 i), (24, .bool false), (60, .bool false), (89, .bool false), (92, .bool true), (99, .bool true), (122, .bool false)] := X.fr hs hd hl _ (by kernel_rfl)
       clear hs hd hl ho hR
       replace G := G.trans g
       replace hC := hC.gr g
       replace GB_ := GB_.trans g
       replace GBB_ := GBB_.trans g
       replace hnd := hnd.gr g
       replace hl := hl.gr g
       replace hl6 := hl6.gr g
       replace hr8 := hr8.gr g
       replace he8 := he8.gr g
       replace hk10 := hk10.gr g
       clear g
       refine X.thenN ?_
       refine Y.condF (F.ev 122 (.bool false)) ?_
       refine Y.skip ?_
       refine X.blockN ?_
       refine X.thenN ?_
       refine Y.lit (by kernel_rfl) ?_
       refine Y.pval F (X.w0 rfl) rfl (X.move rfl (F.ev 17 (.int .i64 i))) ?_
       clear F ac
       intro ac F
       refine Y.pval F (X.w0 rfl) rfl (X.binop rfl (F.ev 100 (.int .i64 i)) (X.kc (.int .i64 1) rfl) (X.addI Try.underlying3 rfl (by omega) (by omega))) ?_
       clear F ac
       intro ac F
       refine Y.pval F (X.w0 rfl) rfl (X.assign rfl (F.ev 101 (.int .i64 ((i : Int) + 1)))) ?_
       clear F ac
       intro ac F
       refine Y.nil ?_
       replace F : Fr ac 124 [(0, .agg #[.int .i64 gr, .int .i64 hold, .slice (some pd24) n nc]), (1, .int .i64 t), (2, .slice la m lc), (3, .pointer (some ⟨w.heap.size, 0, none⟩)), (7, .slice la6 lm6 lc6), (8, .slice ra8 t.toNat rc8), (10, .int .i64 (playE gr hold nd t (withoutL l 4))), (11, .slice (some pd23) t.toNat kc10), (12, .int .i64 (playE gr hold nd t (withoutL l 4))), (13, .int .i64 (-1)), (14, .int .i64 (-1)), (15, .int .i64 (playE gr hold nd t (withoutL l 4))), (16, .int .i64 k), (17, .int .i64 ((i : Int) + 1)), (24, .bool false), (60, .bool false), (89, .bool false), (92, .bool true), (99, .bool true), (122, .bool false)] := F.sub _
       refine X.thenN ?_
       refine ⟨_, ?_, i + 1, rfl, GBB_, by omega, F.sub _⟩
       omega
      | true =>
       try rw [h25] at F
       have h25p : ¬ (andV ((playAsk gr hold nd t (withoutL l 4))[k]?.getD 0 : Int) (cv nd i 0 : Int) : Int) = 0 := by simpa using h25
       obtain ⟨pd27, pe27, -, pc27⟩ := hr8.at (j := k) (by omega)
       subst pe27
       replace hC : RCells w21 [(⟨w.heap.size, 0, none⟩, .int .i64 gr), (⟨w.heap.size, 1, none⟩, .int .i64 hold), (⟨w.heap.size, 2, none⟩, .slice (some pd24) n nc), (pd23.add k, .int .i64 ((playAsk gr hold nd t (withoutL l 4))[k]?.getD 0)), (pd24.add (i * 5), .int .i64 (cv nd i 0)), (⟨(pd24.add (i * 5)).block, (pd24.add (i * 5)).off + 1, none⟩, .int .i64 (cv nd i 1)), (⟨(pd24.add (i * 5)).block, (pd24.add (i * 5)).off + 2, none⟩, .int .i64 (cv nd i 2)), (⟨(pd24.add (i * 5)).block, (pd24.add (i * 5)).off + 3, none⟩, .int .i64 (cv nd i 3)), (⟨(pd24.add (i * 5)).block, (pd24.add (i * 5)).off + 4, none⟩, .int .i64 (cv nd i 4)), (pd27.add k, .int .i64 ((playRows gr hold nd t (withoutL l 4))[k]?.getD 0))] := hC.append ((RCells.cons pc27 (RCells.nil _)))
       clear pc27
       refine Y.region F [some (.slice (some pd23) t.toNat kc10), some (.int .i64 k), some (.pointer (some (pd23.add k))), some (.int .i64 ((playAsk gr hold nd t (withoutL l 4))[k]?.getD 0)), some (.pointer (some ⟨w.heap.size, 2, none⟩)), some (.slice (some pd24) n nc), some (.int .i64 i), some (.pointer (some (pd24.add (i * 5)))), some (.pointer (some (pd24.add (i * 5)))), some (.int .i64 (cv nd i 0)), some (.int .i64 (andV ((playAsk gr hold nd t (withoutL l 4))[k]?.getD 0 : Int) (cv nd i 0 : Int))), some (.bool true), some (.bool true), some (.slice (some pd27) t.toNat rc8), some (.int .i64 k), some (.pointer (some (pd27.add k))), some (.int .i64 ((playRows gr hold nd t (withoutL l 4))[k]?.getD 0)), some (.int .i64 i), some (.bool (bitB ((playRows gr hold nd t (withoutL l 4))[k]?.getD 0) i)), some (.bool (!(bitB ((playRows gr hold nd t (withoutL l 4))[k]?.getD 0) i))), some (.bool (!(bitB ((playRows gr hold nd t (withoutL l 4))[k]?.getD 0) i)))] [] rfl ⟨by kernel_rfl, of_decide_eq_true (by kernel_rfl), by kernel_rfl, by kernel_rfl, by kernel_rfl⟩ ⟨?_, ?_, ?_, ?_, ?_, ?_, ?_, ?_, ?_, ?_, ?_, ?_, ?_, ?_, ?_, ?_, ?_, ?_, ?_, ?_, ?_, trivial⟩ ?_
       ·intro ac done u W Sx hR
        exact X.val (X.w0 rfl) rfl (X.move rfl (Sx.ev 11 (.slice (some pd23) t.toNat kc10))) (hR.step (Gr.refl _) rfl)
       ·intro ac done u W Sx hR
        exact X.val (X.w0 rfl) rfl (X.move rfl (Sx.ev 16 (.int .i64 k))) (hR.step (Gr.refl _) rfl)
       ·intro ac done u W Sx hR
        exact X.val (X.w0 rfl) rfl (X.index rfl (Sx.ev 102 (.slice (some pd23) t.toNat kc10)) (Sx.ev 103 (.int .i64 k)) (X.idx (k := k) Try.underlying34 (Try.siz3 _) (by omega) (by omega) (by rw [Nat.mul_one]))) (hR.step (Gr.refl _) rfl)
       ·intro ac done u W Sx hR
        have g : Gr w21 W := hR.1
        exact X.val (X.w0 rfl) rfl (X.load rfl (Sx.ev 104 (.pointer (some (pd23.add k)))) (X.ld1 (Try.agg3 _) ((hC.gr g).at 3 rfl))) (hR.step (Gr.refl _) rfl)
       ·intro ac done u W Sx hR
        exact X.val (X.w0 rfl) rfl (X.field rfl (Sx.ev 3 (.pointer (some ⟨w.heap.size, 0, none⟩))) (X.fld Try.underlying24 rfl (Try.siz22 _) rfl rfl)) (hR.step (Gr.refl _) rfl)
       ·intro ac done u W Sx hR
        have g : Gr w21 W := hR.1
        exact X.val (X.w0 rfl) rfl (X.load rfl (Sx.ev 106 (.pointer (some ⟨w.heap.size, 2, none⟩))) (X.ld1 (Try.agg22 _) ((hC.gr g).at 2 rfl))) (hR.step (Gr.refl _) rfl)
       ·intro ac done u W Sx hR
        exact X.val (X.w0 rfl) rfl (X.move rfl (Sx.ev 17 (.int .i64 i))) (hR.step (Gr.refl _) rfl)
       ·intro ac done u W Sx hR
        exact X.val (X.w0 rfl) rfl (X.index rfl (Sx.ev 107 (.slice (some pd24) n nc)) (Sx.ev 108 (.int .i64 i)) (X.idx (k := i) Try.underlying22 (Try.siz31 _) (by omega) (by omega) rfl)) (hR.step (Gr.refl _) rfl)
       ·intro ac done u W Sx hR
        exact X.val (X.w0 rfl) rfl (X.field rfl (Sx.ev 109 (.pointer (some (pd24.add (i * 5))))) (X.fld Try.underlying31 rfl (Try.siz3 _) rfl rfl)) (hR.step (Gr.refl _) rfl)
       ·intro ac done u W Sx hR
        have g : Gr w21 W := hR.1
        exact X.val (X.w0 rfl) rfl (X.load rfl (Sx.ev 110 (.pointer (some (pd24.add (i * 5))))) (X.ld1 (Try.agg3 _) ((hC.gr g).at 4 rfl))) (hR.step (Gr.refl _) rfl)
       ·intro ac done u W Sx hR
        exact X.val (X.w0 rfl) rfl (X.binop rfl (Sx.ev 105 (.int .i64 ((playAsk gr hold nd t (withoutL l 4))[k]?.getD 0))) (Sx.ev 111 (.int .i64 (cv nd i 0))) (X.andI Try.underlying3 rfl)) (hR.step (Gr.refl _) rfl)
       ·intro ac done u W Sx hR
        exact X.val (X.w0 rfl) rfl (X.binop rfl (Sx.ev 112 (.int .i64 (andV ((playAsk gr hold nd t (withoutL l 4))[k]?.getD 0 : Int) (cv nd i 0 : Int)))) (X.kc (.int .i64 0) rfl) (X.neqI Try.underlying3 h25)) (hR.step (Gr.refl _) rfl)
       ·intro ac done u W Sx hR
        exact X.val (X.w0 rfl) rfl (X.move rfl (Sx.ev 113 (.bool true))) (hR.step (Gr.refl _) rfl)
       ·intro ac done u W Sx hR
        exact X.val (X.w1 rfl (Sx.yl 12 114 true (by kernel_rfl) rfl rfl)) rfl (X.move rfl (Sx.ev 8 (.slice (some pd27) t.toNat rc8))) (hR.step (Gr.refl _) rfl)
       ·intro ac done u W Sx hR
        exact X.val (X.w1 rfl (Sx.yl 12 114 true (by kernel_rfl) rfl rfl)) rfl (X.move rfl (Sx.ev 16 (.int .i64 k))) (hR.step (Gr.refl _) rfl)
       ·intro ac done u W Sx hR
        exact X.val (X.w1 rfl (Sx.yl 12 114 true (by kernel_rfl) rfl rfl)) rfl (X.index rfl (Sx.ev 115 (.slice (some pd27) t.toNat rc8)) (Sx.ev 116 (.int .i64 k)) (X.idx (k := k) Try.underlying34 (Try.siz3 _) (by omega) (by omega) (by rw [Nat.mul_one]))) (hR.step (Gr.refl _) rfl)
       ·intro ac done u W Sx hR
        have g : Gr w21 W := hR.1
        exact X.val (X.w1 rfl (Sx.yl 12 114 true (by kernel_rfl) rfl rfl)) rfl (X.load rfl (Sx.ev 117 (.pointer (some (pd27.add k)))) (X.ld1 (Try.agg3 _) ((hC.gr g).at 9 rfl))) (hR.step (Gr.refl _) rfl)
       ·intro ac done u W Sx hR
        exact X.val (X.w1 rfl (Sx.yl 12 114 true (by kernel_rfl) rfl rfl)) rfl (X.move rfl (Sx.ev 17 (.int .i64 i))) (hR.step (Gr.refl _) rfl)
       ·intro ac done u W Sx hR
        refine X.call (X.w1 rfl (Sx.yl 12 114 true (by kernel_rfl) rfl rfl)) (X.enter (F := 17) rfl (X.kc (.func (.func 17) #[] #[]) rfl) (X.a2 (Sx.ev 118 (.int .i64 ((playRows gr hold nd t (withoutL l 4))[k]?.getD 0))) (Sx.ev 119 (.int .i64 i))) (enters_of Try.func17 (by kernel_rfl) rfl _)) (bit_any ((playRows gr hold nd t (withoutL l 4))[k]?.getD 0) i W (by omega)) ?_
        rintro e W2 ⟨rfl, rfl⟩
        exact ⟨_, rfl, X.kn rfl, hR.step (Gr.refl _) rfl⟩
       ·intro ac done u W Sx hR
        exact X.val (X.w1 rfl (Sx.yl 12 114 true (by kernel_rfl) rfl rfl)) rfl (X.notB rfl (Sx.ev 120 (.bool (bitB ((playRows gr hold nd t (withoutL l 4))[k]?.getD 0) i))) rfl) (hR.step (Gr.refl _) rfl)
       ·intro ac done u W Sx hR
        exact X.val (X.w0 rfl) rfl (X.pickT rfl (Sx.ev 114 (.bool true)) (Sx.ev 121 (.bool (!(bitB ((playRows gr hold nd t (withoutL l 4))[k]?.getD 0) i))))) (hR.step (Gr.refl _) rfl)
       intro ac u w28 hs hd hl ho hR
       have g : Gr w21 w28 := hR.1
       replace F : Fr ac 124 [(0, .agg #[.int .i64 gr, .int .i64 hold, .slice (some pd24) n nc]), (1, .int .i64 t), (2, .slice la m lc), (3, .pointer (some ⟨w.heap.size, 0, none⟩)), (7, .slice la6 lm6 lc6), (8, .slice (some pd27) t.toNat rc8), (10, .int .i64 (playE gr hold nd t (withoutL l 4))), (11, .slice (some pd23) t.toNat kc10), (12, .int .i64 (playE gr hold nd t (withoutL l 4))), (13, .int .i64 (-1)), (14, .int .i64 (-1)), (15, .int .i64 (playE gr hold nd t (withoutL l 4))), (16, .int .i64 k), (17, .int .i64 i), (24, .bool false), (60, .bool false), (89, .bool false), (92, .bool true), (99, .bool true), (122, .bool (!(bitB ((playRows gr hold nd t (withoutL l 4))[k]?.getD 0) i)))] := X.fr hs hd hl _ (by kernel_rfl)
       clear hs hd hl ho hR
       replace G := G.trans g
       replace hC := hC.gr g
       replace GB_ := GB_.trans g
       replace GBB_ := GBB_.trans g
       replace hnd := hnd.gr g
       replace hl := hl.gr g
       replace hl6 := hl6.gr g
       replace hr8 := hr8.gr g
       replace he8 := he8.gr g
       replace hk10 := hk10.gr g
       clear g
       refine X.thenN ?_
       have h30 : bitB ((playRows gr hold nd t (withoutL l 4))[k]?.getD 0) i = true := awake_all h14p (withoutL_no l 4) (by omega) (by omega) (by simpa using h25)
       try rw [h30] at F
       refine Y.condF (F.ev 122 (.bool false)) ?_
       refine Y.skip ?_
       refine X.blockN ?_
       refine X.thenN ?_
       refine Y.lit (by kernel_rfl) ?_
       refine Y.pval F (X.w0 rfl) rfl (X.move rfl (F.ev 17 (.int .i64 i))) ?_
       clear F ac
       intro ac F
       refine Y.pval F (X.w0 rfl) rfl (X.binop rfl (F.ev 100 (.int .i64 i)) (X.kc (.int .i64 1) rfl) (X.addI Try.underlying3 rfl (by omega) (by omega))) ?_
       clear F ac
       intro ac F
       refine Y.pval F (X.w0 rfl) rfl (X.assign rfl (F.ev 101 (.int .i64 ((i : Int) + 1)))) ?_
       clear F ac
       intro ac F
       refine Y.nil ?_
       replace F : Fr ac 124 [(0, .agg #[.int .i64 gr, .int .i64 hold, .slice (some pd24) n nc]), (1, .int .i64 t), (2, .slice la m lc), (3, .pointer (some ⟨w.heap.size, 0, none⟩)), (7, .slice la6 lm6 lc6), (8, .slice (some pd27) t.toNat rc8), (10, .int .i64 (playE gr hold nd t (withoutL l 4))), (11, .slice (some pd23) t.toNat kc10), (12, .int .i64 (playE gr hold nd t (withoutL l 4))), (13, .int .i64 (-1)), (14, .int .i64 (-1)), (15, .int .i64 (playE gr hold nd t (withoutL l 4))), (16, .int .i64 k), (17, .int .i64 ((i : Int) + 1)), (24, .bool false), (60, .bool false), (89, .bool false), (92, .bool true), (99, .bool true), (122, .bool false)] := F.sub _
       refine X.thenN ?_
       refine ⟨_, ?_, i + 1, rfl, GBB_, by omega, F.sub _⟩
       omega
   | true =>
    try rw [h14] at F
    have h14p : ¬ (playE gr hold nd t (withoutL l 4) : Int) = 0 := by simpa using h14
    refine Y.pskip F (X.w2 rfl (F.yl (j := 2) (d := 53) (b := true) rfl (by kernel_rfl)) rfl) rfl ?_
    clear F ac
    intro ac F
    refine Y.pskip F (X.w2 rfl (F.yl (j := 2) (d := 53) (b := true) rfl (by kernel_rfl)) rfl) rfl ?_
    clear F ac
    intro ac F
    refine Y.pval F (X.w0 rfl) rfl (X.pickT rfl (F.ev 53 (.bool true)) (X.kc (.bool true) rfl)) ?_
    clear F ac
    intro ac F
    refine Y.pval F (X.w0 rfl) rfl (X.move rfl (F.ev 56 (.bool true))) ?_
    clear F ac
    intro ac F
    refine Y.pskip F (X.w2 rfl (F.yl (j := 6) (d := 57) (b := true) rfl (by kernel_rfl)) rfl) rfl ?_
    clear F ac
    intro ac F
    refine Y.pskip F (X.w2 rfl (F.yl (j := 6) (d := 57) (b := true) rfl (by kernel_rfl)) rfl) rfl ?_
    clear F ac
    intro ac F
    refine Y.pval F (X.w0 rfl) rfl (X.pickT rfl (F.ev 57 (.bool true)) (X.kc (.bool true) rfl)) ?_
    clear F ac
    intro ac F
    refine Y.nil ?_
    replace F : Fr ac 124 [(0, .agg #[.int .i64 gr, .int .i64 hold, .slice na n nc]), (1, .int .i64 t), (2, .slice la m lc), (3, .pointer (some ⟨w.heap.size, 0, none⟩)), (6, .bool false), (7, .slice la6 lm6 lc6), (8, .slice ra8 rn8 rc8), (10, .int .i64 (playE gr hold nd t (withoutL l 4))), (11, .slice ka10 kn10 kc10), (12, .int .i64 (playE gr hold nd t (withoutL l 4))), (13, .int .i64 fa12), (14, .int .i64 fb12), (15, .int .i64 (playE gr hold nd t (withoutL l 4))), (24, .bool false), (60, .bool true)] := F.sub _
    refine X.thenN ?_
    refine Y.condT (F.ev 60 (.bool true)) ?_
    refine Y.seq ?_
    refine Y.lit (by kernel_rfl) ?_
    refine Y.pval F (X.w0 rfl) rfl (X.move rfl (F.ev 10 (.int .i64 (playE gr hold nd t (withoutL l 4))))) ?_
    clear F ac
    intro ac F
    refine Y.pval F (X.w0 rfl) rfl (X.move rfl (F.ev 12 (.int .i64 (playE gr hold nd t (withoutL l 4))))) ?_
    clear F ac
    intro ac F
    refine Y.pval F (X.w0 rfl) rfl (X.binop rfl (F.ev 61 (.int .i64 (playE gr hold nd t (withoutL l 4)))) (F.ev 62 (.int .i64 (playE gr hold nd t (withoutL l 4)))) (X.eqlI Try.underlying26 (show ((playE gr hold nd t (withoutL l 4) : Int) == (playE gr hold nd t (withoutL l 4))) = true by simp))) ?_
    clear F ac
    intro ac F
    refine Y.pval F (X.w0 rfl) rfl (X.move rfl (F.ev 63 (.bool true))) ?_
    clear F ac
    intro ac F
    refine Y.pval F (X.w1 rfl (F.yl (j := 3) (d := 64) (b := true) rfl (by kernel_rfl))) rfl (X.move rfl (F.ev 12 (.int .i64 (playE gr hold nd t (withoutL l 4))))) ?_
    clear F ac
    intro ac F
    refine Y.pval F (X.w1 rfl (F.yl (j := 3) (d := 64) (b := true) rfl (by kernel_rfl))) rfl (X.move rfl (F.ev 15 (.int .i64 (playE gr hold nd t (withoutL l 4))))) ?_
    clear F ac
    intro ac F
    refine Y.pval F (X.w1 rfl (F.yl (j := 3) (d := 64) (b := true) rfl (by kernel_rfl))) rfl (X.binop rfl (F.ev 65 (.int .i64 (playE gr hold nd t (withoutL l 4)))) (F.ev 66 (.int .i64 (playE gr hold nd t (withoutL l 4)))) (X.eqlI Try.underlying26 (show ((playE gr hold nd t (withoutL l 4) : Int) == (playE gr hold nd t (withoutL l 4))) = true by simp))) ?_
    clear F ac
    intro ac F
    refine Y.pval F (X.w0 rfl) rfl (X.pickT rfl (F.ev 64 (.bool true)) (F.ev 67 (.bool true))) ?_
    clear F ac
    intro ac F
    refine Y.pval F (X.w0 rfl) rfl (X.move rfl (F.ev 68 (.bool true))) ?_
    clear F ac
    intro ac F
    refine Y.pcall F (X.w1 rfl (F.yl (j := 8) (d := 69) (b := true) rfl (by kernel_rfl))) rfl (X.enter (F := 16) rfl (X.kc (.func (.func 16) #[] #[]) rfl) rfl (enters_of Try.func16 (by kernel_rfl) rfl _)) (works_any w13) ?_
    clear F ac
    rintro e w32 ⟨rfl, g⟩
    refine ⟨_, rfl, ?_⟩
    intro ac F
    replace G := G.trans g
    replace hC := hC.gr g
    replace hnd := hnd.gr g
    replace hl := hl.gr g
    replace hl6 := hl6.gr g
    replace hr8 := hr8.gr g
    replace he8 := he8.gr g
    replace hk10 := hk10.gr g
    clear g
    refine Y.pval F (X.w0 rfl) rfl (X.pickT rfl (F.ev 69 (.bool true)) (F.ev 70 (.bool true))) ?_
    clear F ac
    intro ac F
    refine Y.pval F (X.w0 rfl) rfl (X.assign rfl (F.ev 71 (.bool true))) ?_
    clear F ac
    intro ac F
    refine Y.nil ?_
    replace F : Fr ac 124 [(0, .agg #[.int .i64 gr, .int .i64 hold, .slice na n nc]), (1, .int .i64 t), (2, .slice la m lc), (3, .pointer (some ⟨w.heap.size, 0, none⟩)), (6, .bool true), (7, .slice la6 lm6 lc6), (8, .slice ra8 rn8 rc8), (10, .int .i64 (playE gr hold nd t (withoutL l 4))), (11, .slice ka10 kn10 kc10), (12, .int .i64 (playE gr hold nd t (withoutL l 4))), (13, .int .i64 fa12), (14, .int .i64 fb12), (15, .int .i64 (playE gr hold nd t (withoutL l 4))), (24, .bool false), (60, .bool true)] := F.sub _
    refine X.thenN ?_
    refine Y.ret ?_
    refine X.thenR ?_
    exact Y.ret0 (v := .bool true) F (Y.rs1 F rfl (by kernel_rfl)) ⟨rfl, G⟩
  | true =>
   try rw [h5] at F
   have h5p : ((200 : Int) < m) := of_decide_eq_true h5
   refine Y.condT (F.ev 24 (.bool true)) ?_
   refine Y.seq ?_
   refine Y.lit (by kernel_rfl) ?_
   refine Y.pcall F (X.w0 rfl) rfl (X.enter (F := 16) rfl (X.kc (.func (.func 16) #[] #[]) rfl) rfl (enters_of Try.func16 (by kernel_rfl) rfl _)) (works_any w3) ?_
   clear F ac
   rintro e w34 ⟨rfl, g⟩
   refine ⟨_, rfl, ?_⟩
   intro ac F
   replace G := G.trans g
   replace hC := hC.gr g
   replace hnd := hnd.gr g
   replace hl := hl.gr g
   clear g
   refine Y.pval F (X.w0 rfl) rfl (X.assign rfl (F.ev 25 (.bool true))) ?_
   clear F ac
   intro ac F
   refine Y.nil ?_
   replace F : Fr ac 124 [(0, .agg #[.int .i64 gr, .int .i64 hold, .slice na n nc]), (1, .int .i64 t), (2, .slice la m lc), (3, .pointer (some ⟨w.heap.size, 0, none⟩)), (6, .bool true), (24, .bool true)] := F.sub _
   refine X.thenN ?_
   refine Y.ret ?_
   refine X.thenR ?_
   exact Y.ret0 (v := .bool true) F (Y.rs1 F rfl (by kernel_rfl)) ⟨rfl, G⟩
 | true =>
  try rw [h4] at F
  have h4p : ((100 : Int) < t) := of_decide_eq_true h4
  refine Y.pskip F (X.w2 rfl (F.yl (j := 2) (d := 20) (b := true) rfl (by kernel_rfl)) rfl) rfl ?_
  clear F ac
  intro ac F
  refine Y.pskip F (X.w2 rfl (F.yl (j := 2) (d := 20) (b := true) rfl (by kernel_rfl)) rfl) rfl ?_
  clear F ac
  intro ac F
  refine Y.pskip F (X.w2 rfl (F.yl (j := 2) (d := 20) (b := true) rfl (by kernel_rfl)) rfl) rfl ?_
  clear F ac
  intro ac F
  refine Y.pval F (X.w0 rfl) rfl (X.pickT rfl (F.ev 20 (.bool true)) (X.kc (.bool true) rfl)) ?_
  clear F ac
  intro ac F
  refine Y.nil ?_
  replace F : Fr ac 124 [(0, .agg #[.int .i64 gr, .int .i64 hold, .slice na n nc]), (1, .int .i64 t), (2, .slice la m lc), (3, .pointer (some ⟨w.heap.size, 0, none⟩)), (6, .bool false), (24, .bool true)] := F.sub _
  refine X.thenN ?_
  refine Y.condT (F.ev 24 (.bool true)) ?_
  refine Y.seq ?_
  refine Y.lit (by kernel_rfl) ?_
  refine Y.pcall F (X.w0 rfl) rfl (X.enter (F := 16) rfl (X.kc (.func (.func 16) #[] #[]) rfl) rfl (enters_of Try.func16 (by kernel_rfl) rfl _)) (works_any w3) ?_
  clear F ac
  rintro e w36 ⟨rfl, g⟩
  refine ⟨_, rfl, ?_⟩
  intro ac F
  replace G := G.trans g
  replace hC := hC.gr g
  replace hnd := hnd.gr g
  replace hl := hl.gr g
  clear g
  refine Y.pval F (X.w0 rfl) rfl (X.assign rfl (F.ev 25 (.bool true))) ?_
  clear F ac
  intro ac F
  refine Y.nil ?_
  replace F : Fr ac 124 [(0, .agg #[.int .i64 gr, .int .i64 hold, .slice na n nc]), (1, .int .i64 t), (2, .slice la m lc), (3, .pointer (some ⟨w.heap.size, 0, none⟩)), (6, .bool true), (24, .bool true)] := F.sub _
  refine X.thenN ?_
  refine Y.ret ?_
  refine X.thenR ?_
  exact Y.ret0 (v := .bool true) F (Y.rs1 F rfl (by kernel_rfl)) ⟨rfl, G⟩
end Go.Proofs.Ytoalamakhjbedaa
