/- Contract: SleepLosses returns true. -/
import Derived.Test.YtoalamakhjbedaaBd3
import Derived.Test.YtoalamakhjbedaaBd14
namespace Go.Proofs.Ytoalamakhjbedaa
open Go.RowKit

theorem lossB_of {x n A : Nat} {y : List Int} (h1 : nv y 1 = 4) (h2 : nv y 2 = x) (h3 : 0 ≤ nv y 3) (h4 : nv y 3 < n) (h5 : nv y 3 ≠ x) (h6 : 0 ≤ nv y 0) (h7 : nv y 0 ≤ A) : lossB x n A y = true := by
  unfold lossB
  simp [h1, h2, h3, h4, h6, h7]
  omega
theorem cnt_one {L : List (List Int)} {z u : Nat} : ∀ {H : Nat}, cntF (lostAt L z u 1) H = 0
  | 0 => rfl
  | H + 1 => by
    show cntF (lostAt L z u 1) H + oneV (lostAt L z u 1 H) = 0
    rw [cnt_one, lostAt_zero]; rfl
theorem oneV_ne {b : Bool} (h : ¬ oneV b = 0) : b = true := by
  cases b
  · exact absurd rfl h
  · rfl
theorem oneV_eq {b : Bool} (h : oneV b = 0) : b = false := by
  cases b
  · rfl
  · exact absurd h (by decide)
theorem lost_keep {L : List (List Int)} {z u i k : Nat} (h : cv L i 3 = z → cv L i 0 = (u + k : Nat) → lostAt L z u i k = true) : lostAt L z u (i + 1) k = lostAt L z u i k := by
  rw [lostAt_succ]
  cases e : lostAt L z u i k with
  | true => rfl
  | false =>
    have h3 : ¬ (nv (L[i]?.getD []) 3 = z ∧ nv (L[i]?.getD []) 0 = (u + k : Nat)) := fun hc => by rw [h hc.1 hc.2] at e; cases e
    cases e2 : (decide (1 ≤ i) && (nv (L[i]?.getD []) 3 == (z : Int) && nv (L[i]?.getD []) 0 == ((u + k : Nat) : Int))) with
    | false => rfl
    | true =>
      simp only [Bool.and_eq_true, beq_iff_eq] at e2
      exact absurd e2.2 h3
theorem lost_new9 {L : List (List Int)} {z u i k : Nat} (h1 : 1 ≤ i) (h3 : cv L i 3 = z) (h0 : cv L i 0 = (u + k : Nat)) : lostAt L z u (i + 1) k = true := by
  rw [lostAt_succ]
  have e3 : nv (L[i]?.getD []) 3 = z := h3
  have e0 : nv (L[i]?.getD []) 0 = (u + k : Nat) := h0
  simp [e3, e0, h1]
theorem lost_set {L : List (List Int)} {z u i k H : Nat} (h1 : 1 ≤ i) (h3 : cv L i 3 = z) (h0 : (u : Int) ≤ cv L i 0) (hf : oneV (lostAt L z u i (cv L i 0 - u).toNat) = 0) (hk : k < H) :
    (if k = (cv L i 0 - u).toNat then (1 : Int) else oneV (lostAt L z u i k)) = oneV (lostAt L z u (i + 1) k) := by
  by_cases e : k = (cv L i 0 - u).toNat
  · rw [if_pos e, lost_new9 h1 h3 (by omega)]; rfl
  · rw [if_neg e, lost_keep (fun _ h => absurd h (by omega))]
theorem cnt_set {L : List (List Int)} {z u i H : Nat} (h1 : 1 ≤ i) (h3 : cv L i 3 = z) (h0 : (u : Int) ≤ cv L i 0) (hf : oneV (lostAt L z u i (cv L i 0 - u).toNat) = 0) (hH : cv L i 0 - u < H) :
    cntF (lostAt L z u (i + 1)) H = cntF (lostAt L z u i) H + 1 :=
  cntF_one (k := (cv L i 0 - u).toNat) (oneV_eq hf) (lost_new9 h1 h3 (by omega)) H (by omega) (fun e he hne => lost_keep (fun _ h => absurd h (by omega)))
theorem cnt_keep {L : List (List Int)} {z u i H : Nat} (h : ∀ k, k < H → lostAt L z u (i + 1) k = lostAt L z u i k) : cntF (lostAt L z u (i + 1)) H = cntF (lostAt L z u i) H := cntF_congr H h

set_option maxRecDepth 100000 in
set_option maxHeartbeats 1000000 in
theorem losses_any (na la : Option Addr) (n nc m lc : Nat) (gr hold t : Int) (nd l : List (List Int)) (w : World) (hnd : StAt w 5 na n nd) (hl : StAt w 4 la m l) :
  Calls Try.prog 3 #[.agg #[.int .i64 gr, .int .i64 hold, .slice na n nc], .int .i64 t, .slice la m lc] w fun e w' => e = .returned (.bool true) ∧ Gr w w' := by
 have G := Gr.refl w
 have hlen := hnd.len
 have hll := hl.len
 have hlt := hnd.lt
 have hlt2 := hl.lt
 have htm := tmod_bd t (show (0 : Int) < 40 by decide)
 have hl4 : ∀ x ∈ l, x.length = 4 := fun x hx => by obtain ⟨i, hi, rfl⟩ := List.getElem_of_mem hx; have := (hl.at (j := i) (by omega)); obtain ⟨_, _, _, h4, _⟩ := this; rwa [List.getElem?_eq_getElem hi] at h4
 refine Y.calls 227 Try.func3 rfl rfl ?_
 intro ac F0
 have F : Fr ac 227 [(0, .agg #[.int .i64 gr, .int .i64 hold, .slice na n nc]), (1, .int .i64 t), (2, .slice la m lc)] := F0.sub _
 clear F0
 refine Y.seq ?_
 refine Y.lit (by kernel_rfl) ?_
 refine Y.pval F (X.w0 rfl) rfl (X.box rfl (F.ev 0 (.agg #[.int .i64 gr, .int .i64 hold, .slice na n nc])) X.bx) ?_
 clear F ac
 intro ac F
 have g := Gr.alloc w (.cells #[.int .i64 gr, .int .i64 hold, .slice na n nc] 24)
 have hb := heap_alloc_new w (.cells #[.int .i64 gr, .int .i64 hold, .slice na n nc] 24)
 have hbl : w.heap.size < (w.alloc (.cells #[.int .i64 gr, .int .i64 hold, .slice na n nc] 24)).heap.size := by simp
 have hC2 : RCells (w.alloc (.cells #[.int .i64 gr, .int .i64 hold, .slice na n nc] 24)) [(⟨w.heap.size, 0, none⟩, .int .i64 gr), (⟨w.heap.size, 1, none⟩, .int .i64 hold), (⟨w.heap.size, 2, none⟩, .slice na n nc)] := (RCells.nil w).box (b := w.heap.size) #[.int .i64 gr, .int .i64 hold, .slice na n nc] 24 rfl
 generalize w.alloc (.cells #[.int .i64 gr, .int .i64 hold, .slice na n nc] 24) = w3 at *
 replace G := G.trans g
 have hC := hC2
 clear hC2
 replace hnd := hnd.gr g
 replace hl := hl.gr g
 clear g hb hbl
 refine Y.pval F (X.w0 rfl) rfl (X.assign rfl (X.kc (.bool false) rfl)) ?_
 clear F ac
 intro ac F
 refine Y.nil ?_
 replace F : Fr ac 227 [(0, .agg #[.int .i64 gr, .int .i64 hold, .slice na n nc]), (1, .int .i64 t), (2, .slice la m lc), (3, .pointer (some ⟨w.heap.size, 0, none⟩)), (6, .bool false)] := F.sub _
 refine X.thenN ?_
 refine Y.seq ?_
 refine Y.seq ?_
 refine Y.lit (by kernel_rfl) ?_
 refine Y.pval F (X.w0 rfl) rfl (X.load rfl (F.ev 3 (.pointer (some ⟨w.heap.size, 0, none⟩))) (X.ldN (Try.agg24 _) (Try.siz24 _) (Y.atz (⟨w.heap.size, 0, none⟩) (Y.AtFrom.cons (hC.at 0 rfl) (Y.AtFrom.cons (hC.at 1 rfl) (Y.AtFrom.cons (hC.at 2 rfl) (Y.AtFrom.nil _ _ _))))))) ?_
 clear F ac
 intro ac F
 refine Y.pcall F (X.w0 rfl) rfl (X.enter (F := 15) rfl (X.kc (.func (.func 15) #[] #[]) rfl) (X.a1 (F.ev 21 (.agg #[.int .i64 gr, .int .i64 hold, .slice na n nc]))) (enters_of Try.func15 (by kernel_rfl) rfl _)) (check2_any na n nc gr hold nd w3 hnd) ?_
 clear F ac
 rintro e w4 ⟨rfl, g⟩
 refine ⟨_, rfl, ?_⟩
 intro ac F
 replace G := G.trans g
 replace hC := hC.gr g
 replace hnd := hnd.gr g
 replace hl := hl.gr g
 clear g
 refine Y.pval F (X.w0 rfl) rfl (X.binop rfl (F.ev 22 (.int .i64 (cluE gr hold nd))) (X.kc (.int .i64 0) rfl) (X.neqI Try.underlying26 rfl)) ?_
 clear F ac
 intro ac F
 refine Y.pval F (X.w0 rfl) rfl (X.move rfl (F.ev 23 (.bool ((cluE gr hold nd : Int) != 0)))) ?_
 clear F ac
 intro ac F
 cases h5 : ((cluE gr hold nd : Int) != 0) with
 | false =>
  try rw [h5] at F
  have h5p : (cluE gr hold nd : Int) = 0 := by simpa using h5
  have hc := cluE_ok h5p
  have hh1 := hc.h1
  have hg1 := hc.g1
  have hg8 := hc.g8
  have h16 := hc.n16
  refine Y.pval F (X.w1 rfl (F.yl (j := 3) (d := 24) (b := false) rfl (by kernel_rfl))) rfl (X.field rfl (F.ev 3 (.pointer (some ⟨w.heap.size, 0, none⟩))) (X.fld Try.underlying24 rfl (Try.siz22 _) rfl rfl)) ?_
  clear F ac
  intro ac F
  refine Y.pval F (X.w1 rfl (F.yl (j := 3) (d := 24) (b := false) rfl (by kernel_rfl))) rfl (X.load rfl (F.ev 25 (.pointer (some ⟨w.heap.size, 2, none⟩))) (X.ld1 (Try.agg22 _) (hC.at 2 rfl))) ?_
  clear F ac
  intro ac F
  refine Y.pval F (X.w1 rfl (F.yl (j := 3) (d := 24) (b := false) rfl (by kernel_rfl))) rfl (X.len1 Try.underlying22 rfl (F.ev 26 (.slice na n nc))) ?_
  clear F ac
  intro ac F
  refine Y.pval F (X.w1 rfl (F.yl (j := 3) (d := 24) (b := false) rfl (by kernel_rfl))) rfl (X.binop rfl (F.ev 27 (.int .i64 n)) (X.kc (.int .i64 0) rfl) (X.eqlI Try.underlying3 rfl)) ?_
  clear F ac
  intro ac F
  refine Y.pval F (X.w0 rfl) rfl (X.pickF rfl (F.ev 24 (.bool false)) (F.ev 28 (.bool ((n : Int) == 0)))) ?_
  clear F ac
  intro ac F
  refine Y.pval F (X.w0 rfl) rfl (X.move rfl (F.ev 29 (.bool ((n : Int) == 0)))) ?_
  clear F ac
  intro ac F
  cases h6 : ((n : Int) == 0) with
  | false =>
   try rw [h6] at F
   have h6p : ¬ (n : Int) = 0 := by simpa using h6
   refine Y.pval F (X.w1 rfl (F.yl (j := 9) (d := 30) (b := false) rfl (by kernel_rfl))) rfl (X.move rfl (F.ev 2 (.slice la m lc))) ?_
   clear F ac
   intro ac F
   refine Y.pval F (X.w1 rfl (F.yl (j := 9) (d := 30) (b := false) rfl (by kernel_rfl))) rfl (X.len1 Try.underlying25 rfl (F.ev 31 (.slice la m lc))) ?_
   clear F ac
   intro ac F
   refine Y.pval F (X.w1 rfl (F.yl (j := 9) (d := 30) (b := false) rfl (by kernel_rfl))) rfl (X.binop rfl (F.ev 32 (.int .i64 m)) (X.kc (.int .i64 100) rfl) (X.gtrI Try.underlying3 rfl)) ?_
   clear F ac
   intro ac F
   refine Y.pval F (X.w0 rfl) rfl (X.pickF rfl (F.ev 30 (.bool false)) (F.ev 33 (.bool (decide ((100 : Int) < m))))) ?_
   clear F ac
   intro ac F
   refine Y.nil ?_
   replace F : Fr ac 227 [(0, .agg #[.int .i64 gr, .int .i64 hold, .slice na n nc]), (1, .int .i64 t), (2, .slice la m lc), (3, .pointer (some ⟨w.heap.size, 0, none⟩)), (6, .bool false), (34, .bool (decide ((100 : Int) < m)))] := F.sub _
   refine X.thenN ?_
   cases h7 : decide ((100 : Int) < m) with
   | false =>
    try rw [h7] at F
    have h7p : ¬ ((100 : Int) < m) := of_decide_eq_false h7
    refine Y.condF (F.ev 34 (.bool false)) ?_
    refine Y.skip ?_
    refine X.thenN ?_
    refine Y.seq ?_
    refine Y.seq ?_
    refine Y.lit (by kernel_rfl) ?_
    refine Y.pval F (X.w0 rfl) rfl (X.field rfl (F.ev 3 (.pointer (some ⟨w.heap.size, 0, none⟩))) (X.fld Try.underlying24 rfl (Try.siz3 _) rfl rfl)) ?_
    clear F ac
    intro ac F
    refine Y.pval F (X.w0 rfl) rfl (X.load rfl (F.ev 36 (.pointer (some ⟨w.heap.size, 1, none⟩))) (X.ld1 (Try.agg3 _) (hC.at 1 rfl))) ?_
    clear F ac
    intro ac F
    refine Y.pval F (X.w0 rfl) rfl (X.binop rfl (F.ev 37 (.int .i64 hold)) (X.kc (.int .i64 30) rfl) (X.gtrI Try.underlying3 rfl)) ?_
    clear F ac
    intro ac F
    refine Y.nil ?_
    replace F : Fr ac 227 [(0, .agg #[.int .i64 gr, .int .i64 hold, .slice na n nc]), (1, .int .i64 t), (2, .slice la m lc), (3, .pointer (some ⟨w.heap.size, 0, none⟩)), (6, .bool false), (34, .bool false), (38, .bool (decide ((30 : Int) < hold)))] := F.sub _
    refine X.thenN ?_
    cases h8 : decide ((30 : Int) < hold) with
    | false =>
     try rw [h8] at F
     have h8p : ¬ ((30 : Int) < hold) := of_decide_eq_false h8
     refine Y.condF (F.ev 38 (.bool false)) ?_
     refine Y.skip ?_
     refine X.thenN ?_
     refine Y.seq ?_
     refine Y.lit (by kernel_rfl) ?_
     refine Y.pval F (X.w0 rfl) rfl (X.move rfl (F.ev 1 (.int .i64 t))) ?_
     clear F ac
     intro ac F
     refine Y.pval F (X.w0 rfl) rfl (X.binop rfl (F.ev 40 (.int .i64 t)) (X.kc (.int .i64 40) rfl) (X.remT Try.underlying3 rfl (by omega) (by omega))) ?_
     clear F ac
     intro ac F
     refine Y.pval F (X.w0 rfl) rfl (X.binop rfl (F.ev 41 (.int .i64 (Int.tmod t 40))) (X.kc (.int .i64 40) rfl) (X.addI Try.underlying3 rfl (by omega) (by omega))) ?_
     clear F ac
     intro ac F
     refine Y.pval F (X.w0 rfl) rfl (X.binop rfl (F.ev 42 (.int .i64 ((Int.tmod t 40 : Int) + 40))) (X.kc (.int .i64 40) rfl) (X.remI Try.underlying3 rfl (by omega) (by omega))) ?_
     clear F ac
     intro ac F
     refine Y.pval F (X.w0 rfl) rfl (X.assign rfl (F.ev 43 (.int .i64 (((Int.tmod t 40 : Int) + 40 : Int) % 40)))) ?_
     clear F ac
     intro ac F
     refine Y.nil ?_
     replace F : Fr ac 227 [(0, .agg #[.int .i64 gr, .int .i64 hold, .slice na n nc]), (1, .int .i64 (((Int.tmod t 40 : Int) + 40 : Int) % 40)), (2, .slice la m lc), (3, .pointer (some ⟨w.heap.size, 0, none⟩)), (6, .bool false), (34, .bool false), (38, .bool false)] := F.sub _
     refine X.thenN ?_
     refine Y.seq ?_
     obtain ⟨u, hu⟩ : ∃ u : Nat, ((Int.tmod t 40 : Int) + 40) % 40 = u := ⟨_, (Int.toNat_of_nonneg (Int.emod_nonneg _ (by decide))).symm⟩
     have hu40 : u < 40 := by omega
     rw [show (((Int.tmod t 40 : Int) + 40 : Int) % 40 : Int) = u from hu] at F
     refine Y.lit (by kernel_rfl) ?_
     refine Y.pval F (X.w0 rfl) rfl (X.move rfl (F.ev 1 (.int .i64 u))) ?_
     clear F ac
     intro ac F
     refine Y.pval F (X.w0 rfl) rfl (X.field rfl (F.ev 3 (.pointer (some ⟨w.heap.size, 0, none⟩))) (X.fld Try.underlying24 rfl (Try.siz22 _) rfl rfl)) ?_
     clear F ac
     intro ac F
     refine Y.pval F (X.w0 rfl) rfl (X.load rfl (F.ev 45 (.pointer (some ⟨w.heap.size, 2, none⟩))) (X.ld1 (Try.agg22 _) (hC.at 2 rfl))) ?_
     clear F ac
     intro ac F
     refine Y.pval F (X.w0 rfl) rfl (X.len1 Try.underlying22 rfl (F.ev 46 (.slice na n nc))) ?_
     clear F ac
     intro ac F
     refine Y.pval F (X.w0 rfl) rfl (X.binop rfl (F.ev 44 (.int .i64 u)) (F.ev 47 (.int .i64 n)) (X.remI Try.underlying3 rfl (by omega) (by omega))) ?_
     clear F ac
     intro ac F
     refine Y.pval F (X.w0 rfl) rfl (X.assign rfl (F.ev 48 (.int .i64 ((u : Int) % (n : Int))))) ?_
     clear F ac
     intro ac F
     refine Y.nil ?_
     replace F : Fr ac 227 [(0, .agg #[.int .i64 gr, .int .i64 hold, .slice na n nc]), (1, .int .i64 u), (2, .slice la m lc), (3, .pointer (some ⟨w.heap.size, 0, none⟩)), (6, .bool false), (7, .int .i64 ((u : Int) % (n : Int))), (34, .bool false), (38, .bool false)] := F.sub _
     refine X.thenN ?_
     refine Y.seq ?_
     obtain ⟨x, hx⟩ : ∃ x : Nat, (u : Int) % (n : Int) = x := ⟨_, (Int.toNat_of_nonneg (Int.emod_nonneg _ (by omega))).symm⟩
     have hx2 : x < n := by have := Int.emod_lt_of_pos (u : Int) (show (0 : Int) < n by omega); omega
     rw [show ((u : Int) % (n : Int) : Int) = x from hx] at F
     refine Y.lit (by kernel_rfl) ?_
     refine Y.pval F (X.w0 rfl) rfl (X.assign rfl (X.kc (.int .i64 (-1)) rfl)) ?_
     clear F ac
     intro ac F
     refine Y.nil ?_
     replace F : Fr ac 227 [(0, .agg #[.int .i64 gr, .int .i64 hold, .slice na n nc]), (1, .int .i64 u), (2, .slice la m lc), (3, .pointer (some ⟨w.heap.size, 0, none⟩)), (6, .bool false), (7, .int .i64 x), (8, .int .i64 (-1)), (34, .bool false), (38, .bool false)] := F.sub _
     refine X.thenN ?_
     refine Y.seq ?_
     refine Y.seq ?_
     refine Y.lit (by kernel_rfl) ?_
     refine Y.pval F (X.w0 rfl) rfl (X.assign rfl (X.kc (.int .i64 0) rfl)) ?_
     clear F ac
     intro ac F
     refine Y.nil ?_
     replace F : Fr ac 227 [(0, .agg #[.int .i64 gr, .int .i64 hold, .slice na n nc]), (1, .int .i64 u), (2, .slice la m lc), (3, .pointer (some ⟨w.heap.size, 0, none⟩)), (6, .bool false), (7, .int .i64 x), (8, .int .i64 (-1)), (9, .int .i64 0), (34, .bool false), (38, .bool false)] := F.sub _
     refine X.thenN ?_
     refine Y.block ?_
     have hndB := hnd
     have hlB := hl
     have hCB := hC
     have GB := G
     refine Y.loop (fun me_ ac wr => ∃ (j : Nat), ∃ gp : Int, me_ = gr.toNat - j ∧ Gr w4 wr ∧ (j : Int) ≤ gr ∧ (gp = -1 ∨ 0 ≤ gp ∧ gp < gr ∧ bitB (cv nd x 0) gp = true) ∧ Fr ac 227 [(0, .agg #[.int .i64 gr, .int .i64 hold, .slice na n nc]), (1, .int .i64 u), (2, .slice la m lc), (3, .pointer (some ⟨w.heap.size, 0, none⟩)), (6, .bool false), (7, .int .i64 x), (8, .int .i64 gp), (9, .int .i64 j), (34, .bool false), (38, .bool false)]) _ ⟨0, (-1), rfl, Gr.refl _, by omega, .inl rfl, F.sub _⟩ ?_
     clear F
     intro me_ ac w9 hI
     obtain ⟨j, gp, rfl, gr, hi, hgp, F⟩ := hI
     replace G := GB.trans gr
     replace hC := hCB.gr gr
     replace hnd := hndB.gr gr
     replace hl := hlB.gr gr
     have GB_ := gr
     clear gr
     refine Y.seq ?_
     refine Y.seq ?_
     refine Y.lit (by kernel_rfl) ?_
     refine Y.pval F (X.w0 rfl) rfl (X.move rfl (F.ev 9 (.int .i64 j))) ?_
     clear F ac
     intro ac F
     refine Y.pval F (X.w0 rfl) rfl (X.field rfl (F.ev 3 (.pointer (some ⟨w.heap.size, 0, none⟩))) (X.fld Try.underlying24 rfl (Try.siz3 _) rfl rfl)) ?_
     clear F ac
     intro ac F
     refine Y.pval F (X.w0 rfl) rfl (X.load rfl (F.ev 50 (.pointer (some ⟨w.heap.size, 0, none⟩))) (X.ld1 (Try.agg3 _) (hC.at 0 rfl))) ?_
     clear F ac
     intro ac F
     refine Y.pval F (X.w0 rfl) rfl (X.binop rfl (F.ev 49 (.int .i64 j)) (F.ev 51 (.int .i64 gr)) (X.lssI Try.underlying3 rfl)) ?_
     clear F ac
     intro ac F
     refine Y.nil ?_
     replace F : Fr ac 227 [(0, .agg #[.int .i64 gr, .int .i64 hold, .slice na n nc]), (1, .int .i64 u), (2, .slice la m lc), (3, .pointer (some ⟨w.heap.size, 0, none⟩)), (6, .bool false), (7, .int .i64 x), (8, .int .i64 gp), (9, .int .i64 j), (34, .bool false), (38, .bool false), (52, .bool (decide ((j : Int) < gr)))] := F.sub _
     refine X.thenN ?_
     cases h10 : decide ((j : Int) < gr) with
     | false =>
      try rw [h10] at F
      have h10p : ¬ ((j : Int) < gr) := of_decide_eq_false h10
      refine Y.condF (F.ev 52 (.bool false)) ?_
      refine Y.exit ?_
      refine X.thenX ?_
      refine X.thenX ?_
      refine X.blockX ?_
      refine X.thenN ?_
      refine Y.seq ?_
      refine Y.seq ?_
      refine Y.lit (by kernel_rfl) ?_
      refine Y.pval F (X.w0 rfl) rfl (X.move rfl (F.ev 8 (.int .i64 gp))) ?_
      clear F ac
      intro ac F
      refine Y.pval F (X.w0 rfl) rfl (X.binop rfl (F.ev 64 (.int .i64 gp)) (X.kc (.int .i64 0) rfl) (X.lssI Try.underlying3 rfl)) ?_
      clear F ac
      intro ac F
      refine Y.nil ?_
      replace F : Fr ac 227 [(0, .agg #[.int .i64 gr, .int .i64 hold, .slice na n nc]), (1, .int .i64 u), (2, .slice la m lc), (3, .pointer (some ⟨w.heap.size, 0, none⟩)), (6, .bool false), (7, .int .i64 x), (8, .int .i64 gp), (9, .int .i64 j), (34, .bool false), (38, .bool false), (52, .bool false), (65, .bool (decide ((gp : Int) < 0)))] := F.sub _
      refine X.thenN ?_
      cases h11 : decide ((gp : Int) < 0) with
      | false =>
       try rw [h11] at F
       have h11p : ¬ ((gp : Int) < 0) := of_decide_eq_false h11
       refine Y.condF (F.ev 65 (.bool false)) ?_
       refine Y.skip ?_
       refine X.thenN ?_
       refine Y.seq ?_
       obtain ⟨d, rfl⟩ : ∃ d : Nat, gp = d := ⟨gp.toNat, by omega⟩
       have hgp2 := hgp.resolve_left (by omega)
       refine Y.lit (by kernel_rfl) ?_
       refine Y.pval F (X.w0 rfl) rfl (X.move rfl (F.ev 1 (.int .i64 u))) ?_
       clear F ac
       intro ac F
       refine Y.pval F (X.w0 rfl) rfl (X.field rfl (F.ev 3 (.pointer (some ⟨w.heap.size, 0, none⟩))) (X.fld Try.underlying24 rfl (Try.siz3 _) rfl rfl)) ?_
       clear F ac
       intro ac F
       refine Y.pval F (X.w0 rfl) rfl (X.load rfl (F.ev 68 (.pointer (some ⟨w.heap.size, 1, none⟩))) (X.ld1 (Try.agg3 _) (hC.at 1 rfl))) ?_
       clear F ac
       intro ac F
       refine Y.pval F (X.w0 rfl) rfl (X.binop rfl (F.ev 67 (.int .i64 u)) (F.ev 69 (.int .i64 hold)) (X.addI Try.underlying3 rfl (by omega) (by omega))) ?_
       clear F ac
       intro ac F
       refine Y.pval F (X.w0 rfl) rfl (X.binop rfl (F.ev 70 (.int .i64 ((u : Int) + hold))) (X.kc (.int .i64 1) rfl) (X.subI Try.underlying3 rfl (by omega) (by omega))) ?_
       clear F ac
       intro ac F
       refine Y.pval F (X.w0 rfl) rfl (X.assign rfl (F.ev 71 (.int .i64 (((u : Int) + hold : Int) - 1)))) ?_
       clear F ac
       intro ac F
       refine Y.nil ?_
       replace F : Fr ac 227 [(0, .agg #[.int .i64 gr, .int .i64 hold, .slice na n nc]), (1, .int .i64 u), (2, .slice la m lc), (3, .pointer (some ⟨w.heap.size, 0, none⟩)), (6, .bool false), (7, .int .i64 x), (8, .int .i64 d), (9, .int .i64 j), (10, .int .i64 (((u : Int) + hold : Int) - 1)), (34, .bool false), (38, .bool false), (52, .bool false), (65, .bool false)] := F.sub _
       refine X.thenN ?_
       refine Y.seq ?_
       obtain ⟨A, hA⟩ : ∃ A : Nat, (u : Int) + hold - 1 = A := ⟨_, (Int.toNat_of_nonneg (by omega)).symm⟩
       have hA2 : A < 100 := by omega
       rw [show (((u : Int) + hold : Int) - 1 : Int) = A from hA] at F
       refine Y.lit (by kernel_rfl) ?_
       refine Y.pval F (X.w0 rfl) rfl (X.move rfl (F.ev 1 (.int .i64 u))) ?_
       clear F ac
       intro ac F
       refine Y.pval F (X.w0 rfl) rfl (X.move rfl (F.ev 7 (.int .i64 x))) ?_
       clear F ac
       intro ac F
       refine Y.pval F (X.w0 rfl) rfl (X.move rfl (F.ev 8 (.int .i64 d))) ?_
       clear F ac
       intro ac F
       refine Y.pval F (X.w0 rfl) rfl (Y.bd rfl (Y.b4 (F.ev 72 (.int .i64 u)) (X.kc (.int .i64 1) rfl) (F.ev 73 (.int .i64 x)) (F.ev 74 (.int .i64 d))) (Try.bd33 _ _ _ _ _)) ?_
       clear F ac
       intro ac F
       refine Y.pval F (X.w0 rfl) rfl (X.bs rfl (X.b1 (F.ev 75 (.agg #[.int .i64 u, .int .i64 1, .int .i64 x, .int .i64 d]))) (Try.bs25 u 1 x d _)) ?_
       clear F ac
       intro ac F
       have hnd0 := hnd
       have hl0 := hl
       have hC0 := hC
       have G0_ := G
       have hO_ : OwnR (w9.alloc (.cells #[.int .i64 u, .int .i64 1, .int .i64 x, .int .i64 d] 33)) w9.heap.size 33 4 (.slice (some ⟨w9.heap.size, 0, none⟩) 1 1) 1 (nu4 [(u : Int), (1 : Int), (x : Int), (d : Int)]) := ownR_lit (x := [(u : Int), (1 : Int), (x : Int), (d : Int)]) (heap_alloc_new w9 _) (Nat.le_refl _)
       have g := Gr.alloc w9 (.cells #[.int .i64 u, .int .i64 1, .int .i64 x, .int .i64 d] 33)
       have hb := heap_alloc_new w9 (.cells #[.int .i64 u, .int .i64 1, .int .i64 x, .int .i64 d] 33)
       have hbl : w9.heap.size < (w9.alloc (.cells #[.int .i64 u, .int .i64 1, .int .i64 x, .int .i64 d] 33)).heap.size := by simp
       generalize w9.alloc (.cells #[.int .i64 u, .int .i64 1, .int .i64 x, .int .i64 d] 33) = w12 at *
       replace G := G.trans g
       replace hC := hC.gr g
       replace GB_ := GB_.trans g
       replace hnd := hnd.gr g
       replace hl := hl.gr g
       have GW := g
       clear g hb hbl
       have hO := hO_
       clear hO_
       refine Y.pval F (X.w0 rfl) rfl (X.assign rfl (F.ev 76 (.slice (some ⟨w9.heap.size, 0, none⟩) 1 1))) ?_
       clear F ac
       intro ac F
       refine Y.nil ?_
       replace F : Fr ac 227 [(0, .agg #[.int .i64 gr, .int .i64 hold, .slice na n nc]), (1, .int .i64 u), (2, .slice la m lc), (3, .pointer (some ⟨w.heap.size, 0, none⟩)), (6, .bool false), (7, .int .i64 x), (8, .int .i64 d), (9, .int .i64 j), (10, .int .i64 A), (11, .slice (some ⟨w9.heap.size, 0, none⟩) 1 1), (34, .bool false), (38, .bool false), (52, .bool false), (65, .bool false)] := F.sub _
       refine X.thenN ?_
       refine Y.seq ?_
       refine Y.seq ?_
       refine Y.lit (by kernel_rfl) ?_
       refine Y.pval F (X.w0 rfl) rfl (X.assign rfl (X.kc (.int .i64 0) rfl)) ?_
       clear F ac
       intro ac F
       refine Y.nil ?_
       replace F : Fr ac 227 [(0, .agg #[.int .i64 gr, .int .i64 hold, .slice na n nc]), (1, .int .i64 u), (2, .slice la m lc), (3, .pointer (some ⟨w.heap.size, 0, none⟩)), (6, .bool false), (7, .int .i64 x), (8, .int .i64 d), (9, .int .i64 j), (10, .int .i64 A), (11, .slice (some ⟨w9.heap.size, 0, none⟩) 1 1), (12, .int .i64 0), (34, .bool false), (38, .bool false), (52, .bool false), (65, .bool false)] := F.sub _
       refine X.thenN ?_
       refine Y.block ?_
       refine Y.loop (fun me_ ac wr => ∃ (i : Nat), ∃ v : Value, me_ = m - i ∧ Gr w9 wr ∧ i ≤ m ∧ OwnR wr w9.heap.size 33 4 v (lossL u x d n A (l.take i)).length (flat4 (lossL u x d n A (l.take i))) ∧ Fr ac 227 [(0, .agg #[.int .i64 gr, .int .i64 hold, .slice na n nc]), (1, .int .i64 u), (2, .slice la m lc), (3, .pointer (some ⟨w.heap.size, 0, none⟩)), (6, .bool false), (7, .int .i64 x), (8, .int .i64 d), (9, .int .i64 j), (10, .int .i64 A), (11, v), (12, .int .i64 i), (34, .bool false), (38, .bool false), (52, .bool false), (65, .bool false)]) _ ⟨0, _, rfl, GW, Nat.zero_le _, hO, F.sub _⟩ ?_
       clear F GW hnd hl hO
       intro me_ ac w13 hI
       obtain ⟨i, v, rfl, GW, hi, hO, F⟩ := hI
       replace G := G0_.trans GW
       have hnd := hnd0.gr GW
       have hl := hl0.gr GW
       replace hC := hC0.gr GW
       refine Y.seq ?_
       refine Y.seq ?_
       refine Y.lit (by kernel_rfl) ?_
       refine Y.pval F (X.w0 rfl) rfl (X.move rfl (F.ev 12 (.int .i64 i))) ?_
       clear F ac
       intro ac F
       refine Y.pval F (X.w0 rfl) rfl (X.move rfl (F.ev 2 (.slice la m lc))) ?_
       clear F ac
       intro ac F
       refine Y.pval F (X.w0 rfl) rfl (X.len1 Try.underlying25 rfl (F.ev 78 (.slice la m lc))) ?_
       clear F ac
       intro ac F
       refine Y.pval F (X.w0 rfl) rfl (X.binop rfl (F.ev 77 (.int .i64 i)) (F.ev 79 (.int .i64 m)) (X.lssI Try.underlying3 rfl)) ?_
       clear F ac
       intro ac F
       refine Y.nil ?_
       replace F : Fr ac 227 [(0, .agg #[.int .i64 gr, .int .i64 hold, .slice na n nc]), (1, .int .i64 u), (2, .slice la m lc), (3, .pointer (some ⟨w.heap.size, 0, none⟩)), (6, .bool false), (7, .int .i64 x), (8, .int .i64 d), (9, .int .i64 j), (10, .int .i64 A), (11, v), (12, .int .i64 i), (34, .bool false), (38, .bool false), (52, .bool false), (65, .bool false), (80, .bool (decide ((i : Int) < m)))] := F.sub _
       refine X.thenN ?_
       cases h14 : decide ((i : Int) < m) with
       | false =>
        try rw [h14] at F
        have h14p : ¬ ((i : Int) < m) := of_decide_eq_false h14
        obtain rfl : m = i := by omega
        refine Y.condF (F.ev 80 (.bool false)) ?_
        refine Y.exit ?_
        refine X.thenX ?_
        refine X.thenX ?_
        refine X.blockX ?_
        refine X.thenN ?_
        refine Y.seq ?_
        obtain ⟨al, alc, rfl, hal⟩ := hO.nudges rfl (fun y hy => by
         rcases List.mem_cons.1 hy with e | e
         ·rw [e]; rfl
         ·exact hl4 y (List.mem_of_mem_take (List.mem_filter.1 e).1)) (by have := loss_len (u := u) (x := x) (d := d) (n := n) (A := A) (l := l.take m); rw [List.length_take] at this; omega)
        have hlm : l.take m = l := List.take_of_length_le (by omega)
        rw [hlm] at hal F
        obtain ⟨N, hN⟩ : ∃ N, (lossL u x d n A l).length = N := ⟨_, rfl⟩
        have hN1 : 1 ≤ N := by rw [← hN]; show 1 ≤ (l.filter _).length + 1; omega
        rw [hN] at hal F
        have hN2 : N ≤ 101 := by have := loss_len (u := u) (x := x) (d := d) (n := n) (A := A) (l := l); omega
        clear hO GW
        obtain ⟨j2, rfl⟩ : ∃ j2 : Nat, hold = j2 := ⟨hold.toNat, by omega⟩
        have hPE : playE gr j2 nd ((A : Int) + 1) (lossL u x d n A l) = 0 := loss_valid (by assumption) hlen hx2 (by omega) (by omega) hgp2.2.1 hgp2.2.2 (by omega)
        refine Y.lit (by kernel_rfl) ?_
        refine Y.pval F (X.w0 rfl) rfl (X.load rfl (F.ev 3 (.pointer (some ⟨w.heap.size, 0, none⟩))) (X.ldN (Try.agg24 _) (Try.siz24 _) (Y.atz (⟨w.heap.size, 0, none⟩) (Y.AtFrom.cons (hC.at 0 rfl) (Y.AtFrom.cons (hC.at 1 rfl) (Y.AtFrom.cons (hC.at 2 rfl) (Y.AtFrom.nil _ _ _))))))) ?_
        clear F ac
        intro ac F
        refine Y.pval F (X.w0 rfl) rfl (X.move rfl (F.ev 10 (.int .i64 A))) ?_
        clear F ac
        intro ac F
        refine Y.pval F (X.w0 rfl) rfl (X.binop rfl (F.ev 132 (.int .i64 A)) (X.kc (.int .i64 1) rfl) (X.addI Try.underlying3 rfl (by omega) (by omega))) ?_
        clear F ac
        intro ac F
        refine Y.pval F (X.w0 rfl) rfl (X.move rfl (F.ev 11 (.slice al N alc))) ?_
        clear F ac
        intro ac F
        refine Y.pcall F (X.w0 rfl) rfl (X.enter (F := 18) rfl (X.kc (.func (.func 18) #[] #[]) rfl) (X.a3 (F.ev 131 (.agg #[.int .i64 gr, .int .i64 j2, .slice na n nc])) (F.ev 133 (.int .i64 ((A : Int) + 1))) (F.ev 134 (.slice al N alc))) (enters_of Try.func18 (by kernel_rfl) rfl _)) (play_any na al n nc N alc gr j2 ((A : Int) + 1) nd (lossL u x d n A l) w13 hnd hal) ?_
        clear F ac
        rintro e w16 ⟨ra15, rn15, rc15, ea15, en15, ec15, rfl, hr15, he15, g⟩
        refine ⟨_, rfl, ?_⟩
        intro ac F
        replace G := G.trans g
        replace hC := hC.gr g
        replace hnd := hnd.gr g
        replace hl := hl.gr g
        replace hal := hal.gr g
        clear g
        refine Y.pval F (X.w0 rfl) rfl (X.move rfl (F.ev 135 (.tuple #[.slice ra15 rn15 rc15, .slice ea15 en15 ec15, .int .i64 (playE gr j2 nd ((A : Int) + 1) (lossL u x d n A l))]))) ?_
        clear F ac
        intro ac F
        refine Y.pval F (X.w0 rfl) rfl (X.extract rfl (F.ev 130 (.tuple #[.slice ra15 rn15 rc15, .slice ea15 en15 ec15, .int .i64 (playE gr j2 nd ((A : Int) + 1) (lossL u x d n A l))])) rfl) ?_
        clear F ac
        intro ac F
        refine Y.pval F (X.w0 rfl) rfl (X.extract rfl (F.ev 130 (.tuple #[.slice ra15 rn15 rc15, .slice ea15 en15 ec15, .int .i64 (playE gr j2 nd ((A : Int) + 1) (lossL u x d n A l))])) rfl) ?_
        clear F ac
        intro ac F
        refine Y.pval F (X.w0 rfl) rfl (X.extract rfl (F.ev 130 (.tuple #[.slice ra15 rn15 rc15, .slice ea15 en15 ec15, .int .i64 (playE gr j2 nd ((A : Int) + 1) (lossL u x d n A l))])) rfl) ?_
        clear F ac
        intro ac F
        refine Y.pval F (X.w0 rfl) rfl (X.assign rfl (F.ev 136 (.slice ra15 rn15 rc15))) ?_
        clear F ac
        intro ac F
        refine Y.pval F (X.w0 rfl) rfl (X.assign rfl (F.ev 137 (.slice ea15 en15 ec15))) ?_
        clear F ac
        intro ac F
        refine Y.pval F (X.w0 rfl) rfl (X.assign rfl (F.ev 138 (.int .i64 (playE gr j2 nd ((A : Int) + 1) (lossL u x d n A l))))) ?_
        clear F ac
        intro ac F
        refine Y.nil ?_
        replace F : Fr ac 227 [(0, .agg #[.int .i64 gr, .int .i64 j2, .slice na n nc]), (1, .int .i64 u), (2, .slice la m lc), (3, .pointer (some ⟨w.heap.size, 0, none⟩)), (6, .bool false), (7, .int .i64 x), (8, .int .i64 d), (9, .int .i64 j), (10, .int .i64 A), (11, .slice al N alc), (12, .int .i64 m), (14, .slice ra15 rn15 rc15), (16, .int .i64 (playE gr j2 nd ((A : Int) + 1) (lossL u x d n A l))), (34, .bool false), (38, .bool false), (52, .bool false), (65, .bool false), (80, .bool false)] := F.sub _
        refine X.thenN ?_
        refine Y.seq ?_
        refine Y.seq ?_
        refine Y.lit (by kernel_rfl) ?_
        refine Y.pval F (X.w0 rfl) rfl (X.move rfl (F.ev 16 (.int .i64 (playE gr j2 nd ((A : Int) + 1) (lossL u x d n A l))))) ?_
        clear F ac
        intro ac F
        refine Y.pval F (X.w0 rfl) rfl (X.binop rfl (F.ev 139 (.int .i64 (playE gr j2 nd ((A : Int) + 1) (lossL u x d n A l)))) (X.kc (.int .i64 0) rfl) (X.neqI Try.underlying26 rfl)) ?_
        clear F ac
        intro ac F
        refine Y.pval F (X.w0 rfl) rfl (X.move rfl (F.ev 140 (.bool ((playE gr j2 nd ((A : Int) + 1) (lossL u x d n A l) : Int) != 0)))) ?_
        clear F ac
        intro ac F
        have h18 : ((playE gr j2 nd ((A : Int) + 1) (lossL u x d n A l) : Int) != 0) = false := by rw [hPE]; rfl
        try rw [h18] at F
        have hPE2 := hPE
        have hok := playE_ok hPE
        have hc := hok.c
        have ht0 := hok.t0
        have h16 := hc.n16
        obtain rfl : rn15 = ((A : Int) + 1).toNat := by have h8 := (by have h9 := hr15.len; rw [playRows_len hPE] at h9; exact h9); exact h8.symm
        obtain rfl : n = en15 := by have h9 := he15.len; rw [playEn_len hPE, hlen] at h9; exact h9
        refine Y.pval F (X.w1 rfl (F.yl (j := 2) (d := 141) (b := false) rfl (by kernel_rfl))) rfl (X.move rfl (F.ev 14 (.slice ra15 (((A : Int) + 1).toNat) rc15))) ?_
        clear F ac
        intro ac F
        refine Y.pval F (X.w1 rfl (F.yl (j := 2) (d := 141) (b := false) rfl (by kernel_rfl))) rfl (X.len1 Try.underlying34 rfl (F.ev 142 (.slice ra15 (((A : Int) + 1).toNat) rc15))) ?_
        clear F ac
        intro ac F
        refine Y.pval F (X.w1 rfl (F.yl (j := 2) (d := 141) (b := false) rfl (by kernel_rfl))) rfl (X.move rfl (F.ev 10 (.int .i64 A))) ?_
        clear F ac
        intro ac F
        refine Y.pval F (X.w1 rfl (F.yl (j := 2) (d := 141) (b := false) rfl (by kernel_rfl))) rfl (X.binop rfl (F.ev 144 (.int .i64 A)) (X.kc (.int .i64 1) rfl) (X.addI Try.underlying3 rfl (by omega) (by omega))) ?_
        clear F ac
        intro ac F
        refine Y.pval F (X.w1 rfl (F.yl (j := 2) (d := 141) (b := false) rfl (by kernel_rfl))) rfl (X.binop rfl (F.ev 143 (.int .i64 (((A : Int) + 1).toNat))) (F.ev 145 (.int .i64 ((A : Int) + 1))) (X.neqI Try.underlying3 rfl)) ?_
        clear F ac
        intro ac F
        refine Y.pval F (X.w0 rfl) rfl (X.pickF rfl (F.ev 141 (.bool false)) (F.ev 146 (.bool ((((A : Int) + 1).toNat : Int) != ((A : Int) + 1))))) ?_
        clear F ac
        intro ac F
        refine Y.nil ?_
        replace F : Fr ac 227 [(0, .agg #[.int .i64 gr, .int .i64 j2, .slice na n nc]), (1, .int .i64 u), (2, .slice la m lc), (3, .pointer (some ⟨w.heap.size, 0, none⟩)), (6, .bool false), (7, .int .i64 x), (8, .int .i64 d), (9, .int .i64 j), (10, .int .i64 A), (11, .slice al N alc), (12, .int .i64 m), (14, .slice ra15 (((A : Int) + 1).toNat) rc15), (16, .int .i64 (playE gr j2 nd ((A : Int) + 1) (lossL u x d n A l))), (34, .bool false), (38, .bool false), (52, .bool false), (65, .bool false), (80, .bool false), (147, .bool ((((A : Int) + 1).toNat : Int) != ((A : Int) + 1)))] := F.sub _
        refine X.thenN ?_
        have h20 : ((((A : Int) + 1).toNat : Int) != ((A : Int) + 1)) = false := bne_eq_false_iff_eq.2 (by omega)
        try rw [h20] at F
        refine Y.condF (F.ev 147 (.bool false)) ?_
        refine Y.skip ?_
        refine X.thenN ?_
        refine Y.seq ?_
        refine Y.seq ?_
        refine Y.lit (by kernel_rfl) ?_
        refine Y.pval F (X.w0 rfl) rfl (X.assign rfl (X.kc (.int .i64 0) rfl)) ?_
        clear F ac
        intro ac F
        refine Y.nil ?_
        replace F : Fr ac 227 [(0, .agg #[.int .i64 gr, .int .i64 j2, .slice na n nc]), (1, .int .i64 u), (2, .slice la m lc), (3, .pointer (some ⟨w.heap.size, 0, none⟩)), (6, .bool false), (7, .int .i64 x), (8, .int .i64 d), (9, .int .i64 j), (10, .int .i64 A), (11, .slice al N alc), (12, .int .i64 m), (14, .slice ra15 (((A : Int) + 1).toNat) rc15), (16, .int .i64 (playE gr j2 nd ((A : Int) + 1) (lossL u x d n A l))), (17, .int .i64 0), (34, .bool false), (38, .bool false), (52, .bool false), (65, .bool false), (80, .bool false), (147, .bool false)] := F.sub _
        refine X.thenN ?_
        refine Y.block ?_
        have hndBBB := hnd
        have hlBBB := hl
        have halBBB := hal
        have hr15BBB := hr15
        have he15BBB := he15
        have hCBBB := hC
        have GBBB := G
        refine Y.loop (fun me_ ac wr => ∃ (z : Nat), me_ = n - z ∧ Gr w16 wr ∧ z ≤ n ∧ Fr ac 227 [(0, .agg #[.int .i64 gr, .int .i64 j2, .slice na n nc]), (1, .int .i64 u), (2, .slice la m lc), (3, .pointer (some ⟨w.heap.size, 0, none⟩)), (7, .int .i64 x), (8, .int .i64 d), (9, .int .i64 j), (10, .int .i64 A), (11, .slice al N alc), (12, .int .i64 m), (14, .slice ra15 (((A : Int) + 1).toNat) rc15), (16, .int .i64 (playE gr j2 nd ((A : Int) + 1) (lossL u x d n A l))), (17, .int .i64 z), (34, .bool false), (38, .bool false), (52, .bool false), (65, .bool false), (80, .bool false), (147, .bool false)]) _ ⟨0, rfl, Gr.refl _, Nat.zero_le _, F.sub _⟩ ?_
        clear F
        intro me_ ac w21 hI
        obtain ⟨z, rfl, gr, hz, F⟩ := hI
        replace G := GBBB.trans gr
        replace hC := hCBBB.gr gr
        replace hnd := hndBBB.gr gr
        replace hl := hlBBB.gr gr
        replace hal := halBBB.gr gr
        replace hr15 := hr15BBB.gr gr
        replace he15 := he15BBB.gr gr
        have GBBB_ := gr
        clear gr
        refine Y.seq ?_
        refine Y.seq ?_
        refine Y.lit (by kernel_rfl) ?_
        refine Y.pval F (X.w0 rfl) rfl (X.move rfl (F.ev 17 (.int .i64 z))) ?_
        clear F ac
        intro ac F
        refine Y.pval F (X.w0 rfl) rfl (X.field rfl (F.ev 3 (.pointer (some ⟨w.heap.size, 0, none⟩))) (X.fld Try.underlying24 rfl (Try.siz22 _) rfl rfl)) ?_
        clear F ac
        intro ac F
        refine Y.pval F (X.w0 rfl) rfl (X.load rfl (F.ev 149 (.pointer (some ⟨w.heap.size, 2, none⟩))) (X.ld1 (Try.agg22 _) (hC.at 2 rfl))) ?_
        clear F ac
        intro ac F
        refine Y.pval F (X.w0 rfl) rfl (X.len1 Try.underlying22 rfl (F.ev 150 (.slice na n nc))) ?_
        clear F ac
        intro ac F
        refine Y.pval F (X.w0 rfl) rfl (X.binop rfl (F.ev 148 (.int .i64 z)) (F.ev 151 (.int .i64 n)) (X.lssI Try.underlying3 rfl)) ?_
        clear F ac
        intro ac F
        refine Y.nil ?_
        replace F : Fr ac 227 [(0, .agg #[.int .i64 gr, .int .i64 j2, .slice na n nc]), (1, .int .i64 u), (2, .slice la m lc), (3, .pointer (some ⟨w.heap.size, 0, none⟩)), (7, .int .i64 x), (8, .int .i64 d), (9, .int .i64 j), (10, .int .i64 A), (11, .slice al N alc), (12, .int .i64 m), (14, .slice ra15 (((A : Int) + 1).toNat) rc15), (16, .int .i64 (playE gr j2 nd ((A : Int) + 1) (lossL u x d n A l))), (17, .int .i64 z), (34, .bool false), (38, .bool false), (52, .bool false), (65, .bool false), (80, .bool false), (147, .bool false), (152, .bool (decide ((z : Int) < n)))] := F.sub _
        refine X.thenN ?_
        cases h22 : decide ((z : Int) < n) with
        | false =>
         try rw [h22] at F
         have h22p : ¬ ((z : Int) < n) := of_decide_eq_false h22
         refine Y.condF (F.ev 152 (.bool false)) ?_
         refine Y.exit ?_
         refine X.thenX ?_
         refine X.thenX ?_
         refine X.blockX ?_
         refine X.thenN ?_
         refine Y.seq ?_
         refine Y.lit (by kernel_rfl) ?_
         refine Y.pcall F (X.w0 rfl) rfl (X.enter (F := 16) rfl (X.kc (.func (.func 16) #[] #[]) rfl) rfl (enters_of Try.func16 (by kernel_rfl) rfl _)) (works_any w21) ?_
         clear F ac
         rintro e w24 ⟨rfl, g⟩
         refine ⟨_, rfl, ?_⟩
         intro ac F
         replace G := G.trans g
         replace hC := hC.gr g
         replace GBBB_ := GBBB_.trans g
         replace hnd := hnd.gr g
         replace hl := hl.gr g
         replace hal := hal.gr g
         replace hr15 := hr15.gr g
         replace he15 := he15.gr g
         clear g
         refine Y.pval F (X.w0 rfl) rfl (X.assign rfl (F.ev 226 (.bool true))) ?_
         clear F ac
         intro ac F
         refine Y.nil ?_
         replace F : Fr ac 227 [(0, .agg #[.int .i64 gr, .int .i64 j2, .slice na n nc]), (1, .int .i64 u), (2, .slice la m lc), (3, .pointer (some ⟨w.heap.size, 0, none⟩)), (6, .bool true), (7, .int .i64 x), (8, .int .i64 d), (9, .int .i64 j), (10, .int .i64 A), (11, .slice al N alc), (12, .int .i64 m), (14, .slice ra15 (((A : Int) + 1).toNat) rc15), (16, .int .i64 (playE gr j2 nd ((A : Int) + 1) (lossL u x d n A l))), (17, .int .i64 z), (34, .bool false), (38, .bool false), (52, .bool false), (65, .bool false), (80, .bool false), (147, .bool false), (152, .bool false)] := F.sub _
         refine X.thenN ?_
         refine Y.ret ?_
         exact Y.ret0 (v := .bool true) F (Y.rs1 F rfl (by kernel_rfl)) ⟨rfl, G⟩
        | true =>
         try rw [h22] at F
         have h22p : ((z : Int) < n) := of_decide_eq_true h22
         refine Y.condT (F.ev 152 (.bool true)) ?_
         refine Y.skip ?_
         refine X.thenN ?_
         refine Y.seq ?_
         refine Y.block ?_
         refine Y.seq ?_
         refine Y.seq ?_
         refine Y.lit (by kernel_rfl) ?_
         refine Y.pval F (X.w0 rfl) rfl (X.field rfl (F.ev 3 (.pointer (some ⟨w.heap.size, 0, none⟩))) (X.fld Try.underlying24 rfl (Try.siz22 _) rfl rfl)) ?_
         clear F ac
         intro ac F
         refine Y.pval F (X.w0 rfl) rfl (X.load rfl (F.ev 155 (.pointer (some ⟨w.heap.size, 2, none⟩))) (X.ld1 (Try.agg22 _) (hC.at 2 rfl))) ?_
         clear F ac
         intro ac F
         refine Y.pval F (X.w0 rfl) rfl (X.move rfl (F.ev 17 (.int .i64 z))) ?_
         clear F ac
         intro ac F
         obtain ⟨pd25, pe25, -, -, pc25⟩ := hnd.at (j := z) (by omega)
         subst pe25
         replace hC : RCells w21 [(⟨w.heap.size, 0, none⟩, .int .i64 gr), (⟨w.heap.size, 1, none⟩, .int .i64 j2), (⟨w.heap.size, 2, none⟩, .slice (some pd25) n nc), (pd25.add (z * 5), .int .i64 (cv nd z 0)), (⟨(pd25.add (z * 5)).block, (pd25.add (z * 5)).off + 1, none⟩, .int .i64 (cv nd z 1)), (⟨(pd25.add (z * 5)).block, (pd25.add (z * 5)).off + 2, none⟩, .int .i64 (cv nd z 2)), (⟨(pd25.add (z * 5)).block, (pd25.add (z * 5)).off + 3, none⟩, .int .i64 (cv nd z 3)), (⟨(pd25.add (z * 5)).block, (pd25.add (z * 5)).off + 4, none⟩, .int .i64 (cv nd z 4))] := hC.append ((RCells.cons (pc25 0 (by decide)) (RCells.cons (pc25 1 (by decide)) (RCells.cons (pc25 2 (by decide)) (RCells.cons (pc25 3 (by decide)) (RCells.cons (pc25 4 (by decide)) (RCells.nil _)))))))
         clear pc25
         refine Y.pval F (X.w0 rfl) rfl (X.index rfl (F.ev 156 (.slice (some pd25) n nc)) (F.ev 157 (.int .i64 z)) (X.idx (k := z) Try.underlying22 (Try.siz31 _) (by omega) (by omega) rfl)) ?_
         clear F ac
         intro ac F
         refine Y.pval F (X.w0 rfl) rfl (X.field rfl (F.ev 158 (.pointer (some (pd25.add (z * 5))))) (X.fld Try.underlying31 rfl (Try.siz3 _) rfl rfl)) ?_
         clear F ac
         intro ac F
         refine Y.pval F (X.w0 rfl) rfl (X.load rfl (F.ev 159 (.pointer (some (pd25.add (z * 5))))) (X.ld1 (Try.agg3 _) (hC.at 3 rfl))) ?_
         clear F ac
         intro ac F
         refine Y.pval F (X.w0 rfl) rfl (X.move rfl (F.ev 8 (.int .i64 d))) ?_
         clear F ac
         intro ac F
         refine Y.pcall F (X.w0 rfl) rfl (X.enter (F := 17) rfl (X.kc (.func (.func 17) #[] #[]) rfl) (X.a2 (F.ev 160 (.int .i64 (cv nd z 0))) (F.ev 161 (.int .i64 d))) (enters_of Try.func17 (by kernel_rfl) rfl _)) (bit_any (cv nd z 0) d w21 (by omega)) ?_
         clear F ac
         rintro e w' ⟨rfl, hw_⟩
         obtain rfl : w21 = w' := hw_.symm
         clear hw_
         refine ⟨_, rfl, ?_⟩
         intro ac F
         refine Y.pval F (X.w0 rfl) rfl (X.notB rfl (F.ev 162 (.bool (bitB (cv nd z 0) d))) rfl) ?_
         clear F ac
         intro ac F
         refine Y.nil ?_
         replace F : Fr ac 227 [(0, .agg #[.int .i64 gr, .int .i64 j2, .slice (some pd25) n nc]), (1, .int .i64 u), (2, .slice la m lc), (3, .pointer (some ⟨w.heap.size, 0, none⟩)), (7, .int .i64 x), (8, .int .i64 d), (9, .int .i64 j), (10, .int .i64 A), (11, .slice al N alc), (12, .int .i64 m), (14, .slice ra15 (((A : Int) + 1).toNat) rc15), (16, .int .i64 (playE gr j2 nd ((A : Int) + 1) (lossL u x d n A l))), (17, .int .i64 z), (34, .bool false), (38, .bool false), (52, .bool false), (65, .bool false), (80, .bool false), (147, .bool false), (152, .bool true), (163, .bool (!(bitB (cv nd z 0) d)))] := F.sub _
         refine X.thenN ?_
         cases h26 : bitB (cv nd z 0) d with
         | false =>
          try rw [h26] at F
          refine Y.condT (F.ev 163 (.bool true)) ?_
          refine Y.exit ?_
          refine X.thenX ?_
          refine X.blockX ?_
          refine X.thenN ?_
          refine Y.lit (by kernel_rfl) ?_
          refine Y.pval F (X.w0 rfl) rfl (X.move rfl (F.ev 17 (.int .i64 z))) ?_
          clear F ac
          intro ac F
          refine Y.pval F (X.w0 rfl) rfl (X.binop rfl (F.ev 153 (.int .i64 z)) (X.kc (.int .i64 1) rfl) (X.addI Try.underlying3 rfl (by omega) (by omega))) ?_
          clear F ac
          intro ac F
          refine Y.pval F (X.w0 rfl) rfl (X.assign rfl (F.ev 154 (.int .i64 ((z : Int) + 1)))) ?_
          clear F ac
          intro ac F
          refine Y.nil ?_
          replace F : Fr ac 227 [(0, .agg #[.int .i64 gr, .int .i64 j2, .slice (some pd25) n nc]), (1, .int .i64 u), (2, .slice la m lc), (3, .pointer (some ⟨w.heap.size, 0, none⟩)), (7, .int .i64 x), (8, .int .i64 d), (9, .int .i64 j), (10, .int .i64 A), (11, .slice al N alc), (12, .int .i64 m), (14, .slice ra15 (((A : Int) + 1).toNat) rc15), (16, .int .i64 (playE gr j2 nd ((A : Int) + 1) (lossL u x d n A l))), (17, .int .i64 ((z : Int) + 1)), (34, .bool false), (38, .bool false), (52, .bool false), (65, .bool false), (80, .bool false), (147, .bool false), (152, .bool true), (163, .bool true)] := F.sub _
          refine X.thenN ?_
          refine ⟨_, ?_, z + 1, rfl, GBBB_, by omega, F.sub _⟩
          omega
         | true =>
          try rw [h26] at F
          refine Y.condF (F.ev 163 (.bool false)) ?_
          refine Y.skip ?_
          refine X.thenN ?_
          refine Y.seq ?_
          refine Y.lit (by kernel_rfl) ?_
          refine Y.pval F (X.w0 rfl) rfl (X.field rfl (F.ev 3 (.pointer (some ⟨w.heap.size, 0, none⟩))) (X.fld Try.underlying24 rfl (Try.siz3 _) rfl rfl)) ?_
          clear F ac
          intro ac F
          refine Y.pval F (X.w0 rfl) rfl (X.load rfl (F.ev 164 (.pointer (some ⟨w.heap.size, 1, none⟩))) (X.ld1 (Try.agg3 _) (hC.at 1 rfl))) ?_
          clear F ac
          intro ac F
          have hnd_m := hnd
          have hl_m := hl
          have hal_m := hal
          have hr15_m := hr15
          have he15_m := he15
          have hC_m := hC
          have G_m := G
          have GBBB__m := GBBB_
          refine Y.pval F (X.w0 rfl) rfl (Y.mk rfl (F.ev 165 (.int .i64 j2)) (F.ev 165 (.int .i64 j2)) (Try.mk34b j2 _ (by omega))) ?_
          clear F ac
          intro ac F
          have Gm := Gr.alloc w21 (.cells (List.replicate j2 (.int .i64 0)).toArray 3)
          have hEV := zeros_own w21 j2
          generalize w21.alloc (.cells (List.replicate j2 (.int .i64 0)).toArray 3) = w27 at *
          replace G := G_m.trans Gm
          replace GBBB_ := GBBB__m.trans Gm
          replace hnd := hnd_m.gr Gm
          replace hl := hl_m.gr Gm
          replace hal := hal_m.gr Gm
          replace hr15 := hr15_m.gr Gm
          replace he15 := he15_m.gr Gm
          replace hC := hC_m.gr Gm
          refine Y.pval F (X.w0 rfl) rfl (X.assign rfl (F.ev 166 (.slice (some ⟨w21.heap.size, 0, none⟩) j2 j2))) ?_
          clear F ac
          intro ac F
          refine Y.nil ?_
          replace F : Fr ac 227 [(0, .agg #[.int .i64 gr, .int .i64 j2, .slice (some pd25) n nc]), (1, .int .i64 u), (2, .slice la m lc), (3, .pointer (some ⟨w.heap.size, 0, none⟩)), (7, .int .i64 x), (8, .int .i64 d), (9, .int .i64 j), (10, .int .i64 A), (11, .slice al N alc), (12, .int .i64 m), (14, .slice ra15 (((A : Int) + 1).toNat) rc15), (16, .int .i64 (playE gr j2 nd ((A : Int) + 1) (lossL u x d n A l))), (17, .int .i64 z), (18, .slice (some ⟨w21.heap.size, 0, none⟩) j2 j2), (34, .bool false), (38, .bool false), (52, .bool false), (65, .bool false), (80, .bool false), (147, .bool false), (152, .bool true), (163, .bool false)] := F.sub _
          refine X.thenN ?_
          refine Y.seq ?_
          refine Y.lit (by kernel_rfl) ?_
          refine Y.pval F (X.w0 rfl) rfl (X.assign rfl (X.kc (.int .i64 0) rfl)) ?_
          clear F ac
          intro ac F
          refine Y.nil ?_
          replace F : Fr ac 227 [(0, .agg #[.int .i64 gr, .int .i64 j2, .slice (some pd25) n nc]), (1, .int .i64 u), (2, .slice la m lc), (3, .pointer (some ⟨w.heap.size, 0, none⟩)), (7, .int .i64 x), (8, .int .i64 d), (9, .int .i64 j), (10, .int .i64 A), (11, .slice al N alc), (12, .int .i64 m), (14, .slice ra15 (((A : Int) + 1).toNat) rc15), (16, .int .i64 (playE gr j2 nd ((A : Int) + 1) (lossL u x d n A l))), (17, .int .i64 z), (18, .slice (some ⟨w21.heap.size, 0, none⟩) j2 j2), (19, .int .i64 0), (34, .bool false), (38, .bool false), (52, .bool false), (65, .bool false), (80, .bool false), (147, .bool false), (152, .bool true), (163, .bool false)] := F.sub _
          refine X.thenN ?_
          refine Y.seq ?_
          refine Y.seq ?_
          refine Y.lit (by kernel_rfl) ?_
          refine Y.pval F (X.w0 rfl) rfl (X.assign rfl (X.kc (.int .i64 1) rfl)) ?_
          clear F ac
          intro ac F
          refine Y.nil ?_
          replace F : Fr ac 227 [(0, .agg #[.int .i64 gr, .int .i64 j2, .slice (some pd25) n nc]), (1, .int .i64 u), (2, .slice la m lc), (3, .pointer (some ⟨w.heap.size, 0, none⟩)), (7, .int .i64 x), (8, .int .i64 d), (9, .int .i64 j), (10, .int .i64 A), (11, .slice al N alc), (12, .int .i64 m), (14, .slice ra15 (((A : Int) + 1).toNat) rc15), (16, .int .i64 (playE gr j2 nd ((A : Int) + 1) (lossL u x d n A l))), (17, .int .i64 z), (18, .slice (some ⟨w21.heap.size, 0, none⟩) j2 j2), (19, .int .i64 0), (20, .int .i64 1), (34, .bool false), (38, .bool false), (52, .bool false), (65, .bool false), (80, .bool false), (147, .bool false), (152, .bool true), (163, .bool false)] := F.sub _
          refine X.thenN ?_
          refine Y.block ?_
          refine Y.loop (fun me_ ac wr => ∃ (i : Nat), me_ = N - i ∧ Gr w21 wr ∧ 1 ≤ i ∧ i ≤ N ∧ OwnP wr w21.heap.size j2 (EV (fun e => oneV (lostAt (lossL u x d n A l) z u i e))) ∧ Fr ac 227 [(0, .agg #[.int .i64 gr, .int .i64 j2, .slice (some pd25) n nc]), (1, .int .i64 u), (2, .slice la m lc), (3, .pointer (some ⟨w.heap.size, 0, none⟩)), (7, .int .i64 x), (8, .int .i64 d), (9, .int .i64 j), (10, .int .i64 A), (11, .slice al N alc), (12, .int .i64 m), (14, .slice ra15 (((A : Int) + 1).toNat) rc15), (16, .int .i64 (playE gr j2 nd ((A : Int) + 1) (lossL u x d n A l))), (17, .int .i64 z), (18, .slice (some ⟨w21.heap.size, 0, none⟩) j2 j2), (19, .int .i64 (cntF (lostAt (lossL u x d n A l) z u i) j2)), (20, .int .i64 i), (34, .bool false), (38, .bool false), (52, .bool false), (65, .bool false), (80, .bool false), (147, .bool false), (152, .bool true), (163, .bool false)]) _ ⟨1, rfl, Gm, Nat.le_refl _, hN1, (hEV.congr (fun k _ => rfl)), (by rw [cnt_one]; exact F.sub _)⟩ ?_
          clear F hEV Gm
          intro me_ ac w28 hI
          obtain ⟨i, rfl, Gm, hi1, hi, hEV, F⟩ := hI
          replace G := G_m.trans Gm
          replace GBBB_ := GBBB__m.trans Gm
          replace hnd := hnd_m.gr Gm
          replace hl := hl_m.gr Gm
          replace hal := hal_m.gr Gm
          replace hr15 := hr15_m.gr Gm
          replace he15 := he15_m.gr Gm
          replace hC := hC_m.gr Gm
          refine Y.seq ?_
          refine Y.seq ?_
          refine Y.lit (by kernel_rfl) ?_
          refine Y.pval F (X.w0 rfl) rfl (X.move rfl (F.ev 20 (.int .i64 i))) ?_
          clear F ac
          intro ac F
          refine Y.pval F (X.w0 rfl) rfl (X.move rfl (F.ev 11 (.slice al N alc))) ?_
          clear F ac
          intro ac F
          refine Y.pval F (X.w0 rfl) rfl (X.len1 Try.underlying25 rfl (F.ev 168 (.slice al N alc))) ?_
          clear F ac
          intro ac F
          refine Y.pval F (X.w0 rfl) rfl (X.binop rfl (F.ev 167 (.int .i64 i)) (F.ev 169 (.int .i64 N)) (X.lssI Try.underlying3 rfl)) ?_
          clear F ac
          intro ac F
          refine Y.nil ?_
          replace F : Fr ac 227 [(0, .agg #[.int .i64 gr, .int .i64 j2, .slice (some pd25) n nc]), (1, .int .i64 u), (2, .slice la m lc), (3, .pointer (some ⟨w.heap.size, 0, none⟩)), (7, .int .i64 x), (8, .int .i64 d), (9, .int .i64 j), (10, .int .i64 A), (11, .slice al N alc), (12, .int .i64 m), (14, .slice ra15 (((A : Int) + 1).toNat) rc15), (16, .int .i64 (playE gr j2 nd ((A : Int) + 1) (lossL u x d n A l))), (17, .int .i64 z), (18, .slice (some ⟨w21.heap.size, 0, none⟩) j2 j2), (19, .int .i64 (cntF (lostAt (lossL u x d n A l) z u i) j2)), (20, .int .i64 i), (34, .bool false), (38, .bool false), (52, .bool false), (65, .bool false), (80, .bool false), (147, .bool false), (152, .bool true), (163, .bool false), (170, .bool (decide ((i : Int) < N)))] := F.sub _
          refine X.thenN ?_
          cases h29 : decide ((i : Int) < N) with
          | false =>
           try rw [h29] at F
           have h29p : ¬ ((i : Int) < N) := of_decide_eq_false h29
           obtain rfl : N = i := by omega
           refine Y.condF (F.ev 170 (.bool false)) ?_
           refine Y.exit ?_
           refine X.thenX ?_
           refine X.thenX ?_
           refine X.blockX ?_
           refine X.thenN ?_
           refine Y.seq ?_
           refine Y.lit (by kernel_rfl) ?_
           refine Y.pval F (X.w0 rfl) rfl (X.move rfl (F.ev 19 (.int .i64 (cntF (lostAt (lossL u x d n A l) z u N) j2)))) ?_
           clear F ac
           intro ac F
           refine Y.pval F (X.w0 rfl) rfl (X.field rfl (F.ev 3 (.pointer (some ⟨w.heap.size, 0, none⟩))) (X.fld Try.underlying24 rfl (Try.siz3 _) rfl rfl)) ?_
           clear F ac
           intro ac F
           refine Y.pval F (X.w0 rfl) rfl (X.load rfl (F.ev 214 (.pointer (some ⟨w.heap.size, 1, none⟩))) (X.ld1 (Try.agg3 _) (hC.at 1 rfl))) ?_
           clear F ac
           intro ac F
           refine Y.pval F (X.w0 rfl) rfl (X.binop rfl (F.ev 213 (.int .i64 (cntF (lostAt (lossL u x d n A l) z u N) j2))) (F.ev 215 (.int .i64 j2)) (X.lssI Try.underlying3 rfl)) ?_
           clear F ac
           intro ac F
           refine Y.pval F (X.w0 rfl) rfl (X.move rfl (F.ev 216 (.bool (decide ((cntF (lostAt (lossL u x d n A l) z u N) j2 : Int) < j2))))) ?_
           clear F ac
           intro ac F
           cases h30 : decide ((cntF (lostAt (lossL u x d n A l) z u N) j2 : Int) < j2) with
           | false =>
            try rw [h30] at F
            have h30p : ¬ ((cntF (lostAt (lossL u x d n A l) z u N) j2 : Int) < j2) := of_decide_eq_false h30
            refine Y.pskip F (X.w2 rfl (F.yl (j := 4) (d := 217) (b := false) rfl (by kernel_rfl)) rfl) rfl ?_
            clear F ac
            intro ac F
            refine Y.pskip F (X.w2 rfl (F.yl (j := 4) (d := 217) (b := false) rfl (by kernel_rfl)) rfl) rfl ?_
            clear F ac
            intro ac F
            refine Y.pskip F (X.w2 rfl (F.yl (j := 4) (d := 217) (b := false) rfl (by kernel_rfl)) rfl) rfl ?_
            clear F ac
            intro ac F
            refine Y.pskip F (X.w2 rfl (F.yl (j := 4) (d := 217) (b := false) rfl (by kernel_rfl)) rfl) rfl ?_
            clear F ac
            intro ac F
            refine Y.pskip F (X.w2 rfl (F.yl (j := 4) (d := 217) (b := false) rfl (by kernel_rfl)) rfl) rfl ?_
            clear F ac
            intro ac F
            refine Y.pskip F (X.w2 rfl (F.yl (j := 4) (d := 217) (b := false) rfl (by kernel_rfl)) rfl) rfl ?_
            clear F ac
            intro ac F
            refine Y.pskip F (X.w2 rfl (F.yl (j := 4) (d := 217) (b := false) rfl (by kernel_rfl)) rfl) rfl ?_
            clear F ac
            intro ac F
            refine Y.pval F (X.w0 rfl) rfl (X.pickF rfl (F.ev 217 (.bool false)) (X.kc (.bool false) rfl)) ?_
            clear F ac
            intro ac F
            refine Y.nil ?_
            replace F : Fr ac 227 [(0, .agg #[.int .i64 gr, .int .i64 j2, .slice (some pd25) n nc]), (1, .int .i64 u), (2, .slice la m lc), (3, .pointer (some ⟨w.heap.size, 0, none⟩)), (7, .int .i64 x), (8, .int .i64 d), (9, .int .i64 j), (10, .int .i64 A), (11, .slice al N alc), (12, .int .i64 m), (14, .slice ra15 (((A : Int) + 1).toNat) rc15), (16, .int .i64 (playE gr j2 nd ((A : Int) + 1) (lossL u x d n A l))), (17, .int .i64 z), (18, .slice (some ⟨w21.heap.size, 0, none⟩) j2 j2), (19, .int .i64 (cntF (lostAt (lossL u x d n A l) z u N) j2)), (20, .int .i64 N), (34, .bool false), (38, .bool false), (52, .bool false), (65, .bool false), (80, .bool false), (147, .bool false), (152, .bool true), (163, .bool false), (170, .bool false), (225, .bool false)] := F.sub _
            refine X.thenN ?_
            refine Y.condF (F.ev 225 (.bool false)) ?_
            refine Y.skip ?_
            refine X.blockN ?_
            refine X.thenN ?_
            refine Y.lit (by kernel_rfl) ?_
            refine Y.pval F (X.w0 rfl) rfl (X.move rfl (F.ev 17 (.int .i64 z))) ?_
            clear F ac
            intro ac F
            refine Y.pval F (X.w0 rfl) rfl (X.binop rfl (F.ev 153 (.int .i64 z)) (X.kc (.int .i64 1) rfl) (X.addI Try.underlying3 rfl (by omega) (by omega))) ?_
            clear F ac
            intro ac F
            refine Y.pval F (X.w0 rfl) rfl (X.assign rfl (F.ev 154 (.int .i64 ((z : Int) + 1)))) ?_
            clear F ac
            intro ac F
            refine Y.nil ?_
            replace F : Fr ac 227 [(0, .agg #[.int .i64 gr, .int .i64 j2, .slice (some pd25) n nc]), (1, .int .i64 u), (2, .slice la m lc), (3, .pointer (some ⟨w.heap.size, 0, none⟩)), (7, .int .i64 x), (8, .int .i64 d), (9, .int .i64 j), (10, .int .i64 A), (11, .slice al N alc), (12, .int .i64 m), (14, .slice ra15 (((A : Int) + 1).toNat) rc15), (16, .int .i64 (playE gr j2 nd ((A : Int) + 1) (lossL u x d n A l))), (17, .int .i64 ((z : Int) + 1)), (18, .slice (some ⟨w21.heap.size, 0, none⟩) j2 j2), (19, .int .i64 (cntF (lostAt (lossL u x d n A l) z u N) j2)), (20, .int .i64 N), (34, .bool false), (38, .bool false), (52, .bool false), (65, .bool false), (80, .bool false), (147, .bool false), (152, .bool true), (163, .bool false), (170, .bool false), (225, .bool false)] := F.sub _
            refine X.thenN ?_
            refine ⟨_, ?_, z + 1, rfl, GBBB_, by omega, F.sub _⟩
            omega
           | true =>
            try rw [h30] at F
            have h30p : ((cntF (lostAt (lossL u x d n A l) z u N) j2 : Int) < j2) := of_decide_eq_true h30
            refine Y.pval F (X.w1 rfl (F.yl (j := 4) (d := 217) (b := true) rfl (by kernel_rfl))) rfl (X.move rfl (F.ev 14 (.slice ra15 (((A : Int) + 1).toNat) rc15))) ?_
            clear F ac
            intro ac F
            refine Y.pval F (X.w1 rfl (F.yl (j := 4) (d := 217) (b := true) rfl (by kernel_rfl))) rfl (X.move rfl (F.ev 10 (.int .i64 A))) ?_
            clear F ac
            intro ac F
            obtain ⟨pd31, pe31, -, pc31⟩ := hr15.at (j := A) (by omega)
            subst pe31
            replace hC : RCells w28 [(⟨w.heap.size, 0, none⟩, .int .i64 gr), (⟨w.heap.size, 1, none⟩, .int .i64 j2), (⟨w.heap.size, 2, none⟩, .slice (some pd25) n nc), (pd25.add (z * 5), .int .i64 (cv nd z 0)), (⟨(pd25.add (z * 5)).block, (pd25.add (z * 5)).off + 1, none⟩, .int .i64 (cv nd z 1)), (⟨(pd25.add (z * 5)).block, (pd25.add (z * 5)).off + 2, none⟩, .int .i64 (cv nd z 2)), (⟨(pd25.add (z * 5)).block, (pd25.add (z * 5)).off + 3, none⟩, .int .i64 (cv nd z 3)), (⟨(pd25.add (z * 5)).block, (pd25.add (z * 5)).off + 4, none⟩, .int .i64 (cv nd z 4)), (pd31.add A, .int .i64 ((playRows gr j2 nd ((A : Int) + 1) (lossL u x d n A l))[A]?.getD 0))] := hC.append ((RCells.cons pc31 (RCells.nil _)))
            clear pc31
            refine Y.pval F (X.w1 rfl (F.yl (j := 4) (d := 217) (b := true) rfl (by kernel_rfl))) rfl (X.index rfl (F.ev 218 (.slice (some pd31) (((A : Int) + 1).toNat) rc15)) (F.ev 219 (.int .i64 A)) (X.idx (k := A) Try.underlying34 (Try.siz3 _) (by omega) (by omega) (by rw [Nat.mul_one]))) ?_
            clear F ac
            intro ac F
            refine Y.pval F (X.w1 rfl (F.yl (j := 4) (d := 217) (b := true) rfl (by kernel_rfl))) rfl (X.load rfl (F.ev 220 (.pointer (some (pd31.add A)))) (X.ld1 (Try.agg3 _) (hC.at 8 rfl))) ?_
            clear F ac
            intro ac F
            refine Y.pval F (X.w1 rfl (F.yl (j := 4) (d := 217) (b := true) rfl (by kernel_rfl))) rfl (X.move rfl (F.ev 17 (.int .i64 z))) ?_
            clear F ac
            intro ac F
            refine Y.pcall F (X.w1 rfl (F.yl (j := 4) (d := 217) (b := true) rfl (by kernel_rfl))) rfl (X.enter (F := 17) rfl (X.kc (.func (.func 17) #[] #[]) rfl) (X.a2 (F.ev 221 (.int .i64 ((playRows gr j2 nd ((A : Int) + 1) (lossL u x d n A l))[A]?.getD 0))) (F.ev 222 (.int .i64 z))) (enters_of Try.func17 (by kernel_rfl) rfl _)) (bit_any ((playRows gr j2 nd ((A : Int) + 1) (lossL u x d n A l))[A]?.getD 0) z w28 (by omega)) ?_
            clear F ac
            rintro e w' ⟨rfl, hw_⟩
            obtain rfl : w28 = w' := hw_.symm
            clear hw_
            refine ⟨_, rfl, ?_⟩
            intro ac F
            refine Y.pval F (X.w1 rfl (F.yl (j := 4) (d := 217) (b := true) rfl (by kernel_rfl))) rfl (X.notB rfl (F.ev 223 (.bool (bitB ((playRows gr j2 nd ((A : Int) + 1) (lossL u x d n A l))[A]?.getD 0) z))) rfl) ?_
            clear F ac
            intro ac F
            refine Y.pval F (X.w0 rfl) rfl (X.pickT rfl (F.ev 217 (.bool true)) (F.ev 224 (.bool (!(bitB ((playRows gr j2 nd ((A : Int) + 1) (lossL u x d n A l))[A]?.getD 0) z))))) ?_
            clear F ac
            intro ac F
            refine Y.nil ?_
            replace F : Fr ac 227 [(0, .agg #[.int .i64 gr, .int .i64 j2, .slice (some pd25) n nc]), (1, .int .i64 u), (2, .slice la m lc), (3, .pointer (some ⟨w.heap.size, 0, none⟩)), (7, .int .i64 x), (8, .int .i64 d), (9, .int .i64 j), (10, .int .i64 A), (11, .slice al N alc), (12, .int .i64 m), (14, .slice (some pd31) (((A : Int) + 1).toNat) rc15), (16, .int .i64 (playE gr j2 nd ((A : Int) + 1) (lossL u x d n A l))), (17, .int .i64 z), (18, .slice (some ⟨w21.heap.size, 0, none⟩) j2 j2), (19, .int .i64 (cntF (lostAt (lossL u x d n A l) z u N) j2)), (20, .int .i64 N), (34, .bool false), (38, .bool false), (52, .bool false), (65, .bool false), (80, .bool false), (147, .bool false), (152, .bool true), (163, .bool false), (170, .bool false), (225, .bool (!(bitB ((playRows gr j2 nd ((A : Int) + 1) (lossL u x d n A l))[A]?.getD 0) z)))] := F.sub _
            refine X.thenN ?_
            have h33 : bitB ((playRows gr j2 nd ((A : Int) + 1) (lossL u x d n A l))[A]?.getD 0) z = true := losses_all hPE hA (by omega) (by omega) hN rfl h26 (by omega)
            try rw [h33] at F
            refine Y.condF (F.ev 225 (.bool false)) ?_
            refine Y.skip ?_
            refine X.blockN ?_
            refine X.thenN ?_
            refine Y.lit (by kernel_rfl) ?_
            refine Y.pval F (X.w0 rfl) rfl (X.move rfl (F.ev 17 (.int .i64 z))) ?_
            clear F ac
            intro ac F
            refine Y.pval F (X.w0 rfl) rfl (X.binop rfl (F.ev 153 (.int .i64 z)) (X.kc (.int .i64 1) rfl) (X.addI Try.underlying3 rfl (by omega) (by omega))) ?_
            clear F ac
            intro ac F
            refine Y.pval F (X.w0 rfl) rfl (X.assign rfl (F.ev 154 (.int .i64 ((z : Int) + 1)))) ?_
            clear F ac
            intro ac F
            refine Y.nil ?_
            replace F : Fr ac 227 [(0, .agg #[.int .i64 gr, .int .i64 j2, .slice (some pd25) n nc]), (1, .int .i64 u), (2, .slice la m lc), (3, .pointer (some ⟨w.heap.size, 0, none⟩)), (7, .int .i64 x), (8, .int .i64 d), (9, .int .i64 j), (10, .int .i64 A), (11, .slice al N alc), (12, .int .i64 m), (14, .slice (some pd31) (((A : Int) + 1).toNat) rc15), (16, .int .i64 (playE gr j2 nd ((A : Int) + 1) (lossL u x d n A l))), (17, .int .i64 ((z : Int) + 1)), (18, .slice (some ⟨w21.heap.size, 0, none⟩) j2 j2), (19, .int .i64 (cntF (lostAt (lossL u x d n A l) z u N) j2)), (20, .int .i64 N), (34, .bool false), (38, .bool false), (52, .bool false), (65, .bool false), (80, .bool false), (147, .bool false), (152, .bool true), (163, .bool false), (170, .bool false), (225, .bool false)] := F.sub _
            refine X.thenN ?_
            refine ⟨_, ?_, z + 1, rfl, GBBB_, by omega, F.sub _⟩
            omega
          | true =>
           try rw [h29] at F
           have h29p : ((i : Int) < N) := of_decide_eq_true h29
           have hlk := loss_at (u := u) (d := d) (l := l) (x := x) (n := n) (A := A) hi1 (by omega : i < _)
           have hl0 : 0 ≤ cv (lossL u x d n A l) i 0 := hlk.t0
           have hl1 : cv (lossL u x d n A l) i 0 ≤ A := hlk.t1
           have hcb := cntF_bd (lostAt (lossL u x d n A l) z u i) j2
           refine Y.condT (F.ev 170 (.bool true)) ?_
           refine Y.skip ?_
           refine X.thenN ?_
           refine Y.seq ?_
           refine Y.block ?_
           refine Y.seq ?_
           refine Y.lit (by kernel_rfl) ?_
           refine Y.pval F (X.w0 rfl) rfl (X.move rfl (F.ev 11 (.slice al N alc))) ?_
           clear F ac
           intro ac F
           refine Y.pval F (X.w0 rfl) rfl (X.move rfl (F.ev 20 (.int .i64 i))) ?_
           clear F ac
           intro ac F
           obtain ⟨pd34, pe34, -, -, pc34⟩ := hal.at (j := i) (by omega)
           subst pe34
           replace hC : RCells w28 [(⟨w.heap.size, 0, none⟩, .int .i64 gr), (⟨w.heap.size, 1, none⟩, .int .i64 j2), (⟨w.heap.size, 2, none⟩, .slice (some pd25) n nc), (pd25.add (z * 5), .int .i64 (cv nd z 0)), (⟨(pd25.add (z * 5)).block, (pd25.add (z * 5)).off + 1, none⟩, .int .i64 (cv nd z 1)), (⟨(pd25.add (z * 5)).block, (pd25.add (z * 5)).off + 2, none⟩, .int .i64 (cv nd z 2)), (⟨(pd25.add (z * 5)).block, (pd25.add (z * 5)).off + 3, none⟩, .int .i64 (cv nd z 3)), (⟨(pd25.add (z * 5)).block, (pd25.add (z * 5)).off + 4, none⟩, .int .i64 (cv nd z 4)), (pd34.add (i * 4), .int .i64 (cv (lossL u x d n A l) i 0)), (⟨(pd34.add (i * 4)).block, (pd34.add (i * 4)).off + 1, none⟩, .int .i64 (cv (lossL u x d n A l) i 1)), (⟨(pd34.add (i * 4)).block, (pd34.add (i * 4)).off + 2, none⟩, .int .i64 (cv (lossL u x d n A l) i 2)), (⟨(pd34.add (i * 4)).block, (pd34.add (i * 4)).off + 3, none⟩, .int .i64 (cv (lossL u x d n A l) i 3))] := hC.append ((RCells.cons (pc34 0 (by decide)) (RCells.cons (pc34 1 (by decide)) (RCells.cons (pc34 2 (by decide)) (RCells.cons (pc34 3 (by decide)) (RCells.nil _))))))
           clear pc34
           refine Y.pval F (X.w0 rfl) rfl (X.index rfl (F.ev 173 (.slice (some pd34) N alc)) (F.ev 174 (.int .i64 i)) (X.idx (k := i) Try.underlying25 (Try.siz33 _) (by omega) (by omega) rfl)) ?_
           clear F ac
           intro ac F
           refine Y.pval F (X.w0 rfl) rfl (X.field rfl (F.ev 175 (.pointer (some (pd34.add (i * 4))))) (X.fld Try.underlying33 rfl (Try.siz3 _) rfl rfl)) ?_
           clear F ac
           intro ac F
           refine Y.pval F (X.w0 rfl) rfl (X.load rfl (F.ev 176 (.pointer (some (⟨(pd34.add (i * 4)).block, (pd34.add (i * 4)).off + 3, none⟩)))) (X.ld1 (Try.agg3 _) (hC.at 11 rfl))) ?_
           clear F ac
           intro ac F
           refine Y.pval F (X.w0 rfl) rfl (X.move rfl (F.ev 17 (.int .i64 z))) ?_
           clear F ac
           intro ac F
           refine Y.pval F (X.w0 rfl) rfl (X.binop rfl (F.ev 177 (.int .i64 (cv (lossL u x d n A l) i 3))) (F.ev 178 (.int .i64 z)) (X.eqlI Try.underlying3 rfl)) ?_
           clear F ac
           intro ac F
           refine Y.pval F (X.w0 rfl) rfl (X.move rfl (F.ev 179 (.bool ((cv (lossL u x d n A l) i 3 : Int) == z)))) ?_
           clear F ac
           intro ac F
           cases h35 : ((cv (lossL u x d n A l) i 3 : Int) == z) with
           | false =>
            try rw [h35] at F
            have h35p : ¬ (cv (lossL u x d n A l) i 3 : Int) = z := by simpa using h35
            refine Y.pskip F (X.w2 rfl (F.yl (j := 7) (d := 180) (b := false) rfl (by kernel_rfl)) rfl) rfl ?_
            clear F ac
            intro ac F
            refine Y.pskip F (X.w2 rfl (F.yl (j := 7) (d := 180) (b := false) rfl (by kernel_rfl)) rfl) rfl ?_
            clear F ac
            intro ac F
            refine Y.pskip F (X.w2 rfl (F.yl (j := 7) (d := 180) (b := false) rfl (by kernel_rfl)) rfl) rfl ?_
            clear F ac
            intro ac F
            refine Y.pskip F (X.w2 rfl (F.yl (j := 7) (d := 180) (b := false) rfl (by kernel_rfl)) rfl) rfl ?_
            clear F ac
            intro ac F
            refine Y.pskip F (X.w2 rfl (F.yl (j := 7) (d := 180) (b := false) rfl (by kernel_rfl)) rfl) rfl ?_
            clear F ac
            intro ac F
            refine Y.pskip F (X.w2 rfl (F.yl (j := 7) (d := 180) (b := false) rfl (by kernel_rfl)) rfl) rfl ?_
            clear F ac
            intro ac F
            refine Y.pskip F (X.w2 rfl (F.yl (j := 7) (d := 180) (b := false) rfl (by kernel_rfl)) rfl) rfl ?_
            clear F ac
            intro ac F
            refine Y.pval F (X.w0 rfl) rfl (X.pickF rfl (F.ev 180 (.bool false)) (X.kc (.bool false) rfl)) ?_
            clear F ac
            intro ac F
            refine Y.pval F (X.w0 rfl) rfl (X.move rfl (F.ev 188 (.bool false))) ?_
            clear F ac
            intro ac F
            refine Y.pskip F (X.w2 rfl (F.yl (j := 16) (d := 189) (b := false) rfl (by kernel_rfl)) rfl) rfl ?_
            clear F ac
            intro ac F
            refine Y.pskip F (X.w2 rfl (F.yl (j := 16) (d := 189) (b := false) rfl (by kernel_rfl)) rfl) rfl ?_
            clear F ac
            intro ac F
            refine Y.pskip F (X.w2 rfl (F.yl (j := 16) (d := 189) (b := false) rfl (by kernel_rfl)) rfl) rfl ?_
            clear F ac
            intro ac F
            refine Y.pskip F (X.w2 rfl (F.yl (j := 16) (d := 189) (b := false) rfl (by kernel_rfl)) rfl) rfl ?_
            clear F ac
            intro ac F
            refine Y.pskip F (X.w2 rfl (F.yl (j := 16) (d := 189) (b := false) rfl (by kernel_rfl)) rfl) rfl ?_
            clear F ac
            intro ac F
            refine Y.pskip F (X.w2 rfl (F.yl (j := 16) (d := 189) (b := false) rfl (by kernel_rfl)) rfl) rfl ?_
            clear F ac
            intro ac F
            refine Y.pskip F (X.w2 rfl (F.yl (j := 16) (d := 189) (b := false) rfl (by kernel_rfl)) rfl) rfl ?_
            clear F ac
            intro ac F
            refine Y.pskip F (X.w2 rfl (F.yl (j := 16) (d := 189) (b := false) rfl (by kernel_rfl)) rfl) rfl ?_
            clear F ac
            intro ac F
            refine Y.pskip F (X.w2 rfl (F.yl (j := 16) (d := 189) (b := false) rfl (by kernel_rfl)) rfl) rfl ?_
            clear F ac
            intro ac F
            refine Y.pskip F (X.w2 rfl (F.yl (j := 16) (d := 189) (b := false) rfl (by kernel_rfl)) rfl) rfl ?_
            clear F ac
            intro ac F
            refine Y.pskip F (X.w2 rfl (F.yl (j := 16) (d := 189) (b := false) rfl (by kernel_rfl)) rfl) rfl ?_
            clear F ac
            intro ac F
            refine Y.pval F (X.w0 rfl) rfl (X.pickF rfl (F.ev 189 (.bool false)) (X.kc (.bool false) rfl)) ?_
            clear F ac
            intro ac F
            refine Y.nil ?_
            replace F : Fr ac 227 [(0, .agg #[.int .i64 gr, .int .i64 j2, .slice (some pd25) n nc]), (1, .int .i64 u), (2, .slice la m lc), (3, .pointer (some ⟨w.heap.size, 0, none⟩)), (7, .int .i64 x), (8, .int .i64 d), (9, .int .i64 j), (10, .int .i64 A), (11, .slice (some pd34) N alc), (12, .int .i64 m), (14, .slice ra15 (((A : Int) + 1).toNat) rc15), (16, .int .i64 (playE gr j2 nd ((A : Int) + 1) (lossL u x d n A l))), (17, .int .i64 z), (18, .slice (some ⟨w21.heap.size, 0, none⟩) j2 j2), (19, .int .i64 (cntF (lostAt (lossL u x d n A l) z u i) j2)), (20, .int .i64 i), (34, .bool false), (38, .bool false), (52, .bool false), (65, .bool false), (80, .bool false), (147, .bool false), (152, .bool true), (163, .bool false), (170, .bool true), (201, .bool false)] := F.sub _
            refine X.thenN ?_
            refine Y.condF (F.ev 201 (.bool false)) ?_
            refine Y.skip ?_
            refine X.blockN ?_
            refine X.thenN ?_
            refine Y.lit (by kernel_rfl) ?_
            refine Y.pval F (X.w0 rfl) rfl (X.move rfl (F.ev 20 (.int .i64 i))) ?_
            clear F ac
            intro ac F
            refine Y.pval F (X.w0 rfl) rfl (X.binop rfl (F.ev 171 (.int .i64 i)) (X.kc (.int .i64 1) rfl) (X.addI Try.underlying3 rfl (by omega) (by omega))) ?_
            clear F ac
            intro ac F
            refine Y.pval F (X.w0 rfl) rfl (X.assign rfl (F.ev 172 (.int .i64 ((i : Int) + 1)))) ?_
            clear F ac
            intro ac F
            refine Y.nil ?_
            replace F : Fr ac 227 [(0, .agg #[.int .i64 gr, .int .i64 j2, .slice (some pd25) n nc]), (1, .int .i64 u), (2, .slice la m lc), (3, .pointer (some ⟨w.heap.size, 0, none⟩)), (7, .int .i64 x), (8, .int .i64 d), (9, .int .i64 j), (10, .int .i64 A), (11, .slice (some pd34) N alc), (12, .int .i64 m), (14, .slice ra15 (((A : Int) + 1).toNat) rc15), (16, .int .i64 (playE gr j2 nd ((A : Int) + 1) (lossL u x d n A l))), (17, .int .i64 z), (18, .slice (some ⟨w21.heap.size, 0, none⟩) j2 j2), (19, .int .i64 (cntF (lostAt (lossL u x d n A l) z u i) j2)), (20, .int .i64 ((i : Int) + 1)), (34, .bool false), (38, .bool false), (52, .bool false), (65, .bool false), (80, .bool false), (147, .bool false), (152, .bool true), (163, .bool false), (170, .bool true), (201, .bool false)] := F.sub _
            refine X.thenN ?_
            refine ⟨_, ?_, i + 1, rfl, Gm, by omega, by omega, (hEV.congr (fun k hk => by show Value.int .i64 (oneV (lostAt (lossL u x d n A l) z u i k)) = Value.int .i64 (oneV (lostAt (lossL u x d n A l) z u (i + 1) k)); rw [lost_keep (z := z) (i := i) (k := k) (fun h1 h2 => by omega)])), (by rw [cnt_keep (z := z) (i := i) (u := u) (fun k hk => lost_keep (z := z) (i := i) (k := k) (fun h1 h2 => by omega))]; exact F.sub _)⟩
            omega
           | true =>
            try rw [h35] at F
            have h35p : (cv (lossL u x d n A l) i 3 : Int) = z := by simpa using h35
            refine Y.pval F (X.w1 rfl (F.yl (j := 7) (d := 180) (b := true) rfl (by kernel_rfl))) rfl (X.move rfl (F.ev 11 (.slice (some pd34) N alc))) ?_
            clear F ac
            intro ac F
            refine Y.pval F (X.w1 rfl (F.yl (j := 7) (d := 180) (b := true) rfl (by kernel_rfl))) rfl (X.move rfl (F.ev 20 (.int .i64 i))) ?_
            clear F ac
            intro ac F
            refine Y.pval F (X.w1 rfl (F.yl (j := 7) (d := 180) (b := true) rfl (by kernel_rfl))) rfl (X.index rfl (F.ev 181 (.slice (some pd34) N alc)) (F.ev 182 (.int .i64 i)) (X.idx (k := i) Try.underlying25 (Try.siz33 _) (by omega) (by omega) rfl)) ?_
            clear F ac
            intro ac F
            refine Y.pval F (X.w1 rfl (F.yl (j := 7) (d := 180) (b := true) rfl (by kernel_rfl))) rfl (X.field rfl (F.ev 183 (.pointer (some (pd34.add (i * 4))))) (X.fld Try.underlying33 rfl (Try.siz3 _) rfl rfl)) ?_
            clear F ac
            intro ac F
            refine Y.pval F (X.w1 rfl (F.yl (j := 7) (d := 180) (b := true) rfl (by kernel_rfl))) rfl (X.load rfl (F.ev 184 (.pointer (some (pd34.add (i * 4))))) (X.ld1 (Try.agg3 _) (hC.at 8 rfl))) ?_
            clear F ac
            intro ac F
            refine Y.pval F (X.w1 rfl (F.yl (j := 7) (d := 180) (b := true) rfl (by kernel_rfl))) rfl (X.move rfl (F.ev 1 (.int .i64 u))) ?_
            clear F ac
            intro ac F
            refine Y.pval F (X.w1 rfl (F.yl (j := 7) (d := 180) (b := true) rfl (by kernel_rfl))) rfl (X.binop rfl (F.ev 185 (.int .i64 (cv (lossL u x d n A l) i 0))) (F.ev 186 (.int .i64 u)) (X.geqI Try.underlying3 rfl)) ?_
            clear F ac
            intro ac F
            refine Y.pval F (X.w0 rfl) rfl (X.pickT rfl (F.ev 180 (.bool true)) (F.ev 187 (.bool (decide ((u : Int) ≤ (cv (lossL u x d n A l) i 0)))))) ?_
            clear F ac
            intro ac F
            refine Y.pval F (X.w0 rfl) rfl (X.move rfl (F.ev 188 (.bool (decide ((u : Int) ≤ (cv (lossL u x d n A l) i 0)))))) ?_
            clear F ac
            intro ac F
            cases h36 : decide ((u : Int) ≤ (cv (lossL u x d n A l) i 0)) with
            | false =>
             try rw [h36] at F
             have h36p : ¬ ((u : Int) ≤ (cv (lossL u x d n A l) i 0)) := of_decide_eq_false h36
             refine Y.pskip F (X.w2 rfl (F.yl (j := 16) (d := 189) (b := false) rfl (by kernel_rfl)) rfl) rfl ?_
             clear F ac
             intro ac F
             refine Y.pskip F (X.w2 rfl (F.yl (j := 16) (d := 189) (b := false) rfl (by kernel_rfl)) rfl) rfl ?_
             clear F ac
             intro ac F
             refine Y.pskip F (X.w2 rfl (F.yl (j := 16) (d := 189) (b := false) rfl (by kernel_rfl)) rfl) rfl ?_
             clear F ac
             intro ac F
             refine Y.pskip F (X.w2 rfl (F.yl (j := 16) (d := 189) (b := false) rfl (by kernel_rfl)) rfl) rfl ?_
             clear F ac
             intro ac F
             refine Y.pskip F (X.w2 rfl (F.yl (j := 16) (d := 189) (b := false) rfl (by kernel_rfl)) rfl) rfl ?_
             clear F ac
             intro ac F
             refine Y.pskip F (X.w2 rfl (F.yl (j := 16) (d := 189) (b := false) rfl (by kernel_rfl)) rfl) rfl ?_
             clear F ac
             intro ac F
             refine Y.pskip F (X.w2 rfl (F.yl (j := 16) (d := 189) (b := false) rfl (by kernel_rfl)) rfl) rfl ?_
             clear F ac
             intro ac F
             refine Y.pskip F (X.w2 rfl (F.yl (j := 16) (d := 189) (b := false) rfl (by kernel_rfl)) rfl) rfl ?_
             clear F ac
             intro ac F
             refine Y.pskip F (X.w2 rfl (F.yl (j := 16) (d := 189) (b := false) rfl (by kernel_rfl)) rfl) rfl ?_
             clear F ac
             intro ac F
             refine Y.pskip F (X.w2 rfl (F.yl (j := 16) (d := 189) (b := false) rfl (by kernel_rfl)) rfl) rfl ?_
             clear F ac
             intro ac F
             refine Y.pskip F (X.w2 rfl (F.yl (j := 16) (d := 189) (b := false) rfl (by kernel_rfl)) rfl) rfl ?_
             clear F ac
             intro ac F
             refine Y.pval F (X.w0 rfl) rfl (X.pickF rfl (F.ev 189 (.bool false)) (X.kc (.bool false) rfl)) ?_
             clear F ac
             intro ac F
             refine Y.nil ?_
             replace F : Fr ac 227 [(0, .agg #[.int .i64 gr, .int .i64 j2, .slice (some pd25) n nc]), (1, .int .i64 u), (2, .slice la m lc), (3, .pointer (some ⟨w.heap.size, 0, none⟩)), (7, .int .i64 x), (8, .int .i64 d), (9, .int .i64 j), (10, .int .i64 A), (11, .slice (some pd34) N alc), (12, .int .i64 m), (14, .slice ra15 (((A : Int) + 1).toNat) rc15), (16, .int .i64 (playE gr j2 nd ((A : Int) + 1) (lossL u x d n A l))), (17, .int .i64 z), (18, .slice (some ⟨w21.heap.size, 0, none⟩) j2 j2), (19, .int .i64 (cntF (lostAt (lossL u x d n A l) z u i) j2)), (20, .int .i64 i), (34, .bool false), (38, .bool false), (52, .bool false), (65, .bool false), (80, .bool false), (147, .bool false), (152, .bool true), (163, .bool false), (170, .bool true), (201, .bool false)] := F.sub _
             refine X.thenN ?_
             refine Y.condF (F.ev 201 (.bool false)) ?_
             refine Y.skip ?_
             refine X.blockN ?_
             refine X.thenN ?_
             refine Y.lit (by kernel_rfl) ?_
             refine Y.pval F (X.w0 rfl) rfl (X.move rfl (F.ev 20 (.int .i64 i))) ?_
             clear F ac
             intro ac F
             refine Y.pval F (X.w0 rfl) rfl (X.binop rfl (F.ev 171 (.int .i64 i)) (X.kc (.int .i64 1) rfl) (X.addI Try.underlying3 rfl (by omega) (by omega))) ?_
             clear F ac
             intro ac F
             refine Y.pval F (X.w0 rfl) rfl (X.assign rfl (F.ev 172 (.int .i64 ((i : Int) + 1)))) ?_
             clear F ac
             intro ac F
             refine Y.nil ?_
             replace F : Fr ac 227 [(0, .agg #[.int .i64 gr, .int .i64 j2, .slice (some pd25) n nc]), (1, .int .i64 u), (2, .slice la m lc), (3, .pointer (some ⟨w.heap.size, 0, none⟩)), (7, .int .i64 x), (8, .int .i64 d), (9, .int .i64 j), (10, .int .i64 A), (11, .slice (some pd34) N alc), (12, .int .i64 m), (14, .slice ra15 (((A : Int) + 1).toNat) rc15), (16, .int .i64 (playE gr j2 nd ((A : Int) + 1) (lossL u x d n A l))), (17, .int .i64 z), (18, .slice (some ⟨w21.heap.size, 0, none⟩) j2 j2), (19, .int .i64 (cntF (lostAt (lossL u x d n A l) z u i) j2)), (20, .int .i64 ((i : Int) + 1)), (34, .bool false), (38, .bool false), (52, .bool false), (65, .bool false), (80, .bool false), (147, .bool false), (152, .bool true), (163, .bool false), (170, .bool true), (201, .bool false)] := F.sub _
             refine X.thenN ?_
             refine ⟨_, ?_, i + 1, rfl, Gm, by omega, by omega, (hEV.congr (fun k hk => by show Value.int .i64 (oneV (lostAt (lossL u x d n A l) z u i k)) = Value.int .i64 (oneV (lostAt (lossL u x d n A l) z u (i + 1) k)); rw [lost_keep (z := z) (i := i) (k := k) (fun h1 h2 => by omega)])), (by rw [cnt_keep (z := z) (i := i) (u := u) (fun k hk => lost_keep (z := z) (i := i) (k := k) (fun h1 h2 => by omega))]; exact F.sub _)⟩
             omega
            | true =>
             try rw [h36] at F
             have h36p : ((u : Int) ≤ (cv (lossL u x d n A l) i 0)) := of_decide_eq_true h36
             refine Y.pval F (X.w1 rfl (F.yl (j := 16) (d := 189) (b := true) rfl (by kernel_rfl))) rfl (X.move rfl (F.ev 18 (.slice (some ⟨w21.heap.size, 0, none⟩) j2 j2))) ?_
             clear F ac
             intro ac F
             refine Y.pval F (X.w1 rfl (F.yl (j := 16) (d := 189) (b := true) rfl (by kernel_rfl))) rfl (X.move rfl (F.ev 11 (.slice (some pd34) N alc))) ?_
             clear F ac
             intro ac F
             refine Y.pval F (X.w1 rfl (F.yl (j := 16) (d := 189) (b := true) rfl (by kernel_rfl))) rfl (X.move rfl (F.ev 20 (.int .i64 i))) ?_
             clear F ac
             intro ac F
             refine Y.pval F (X.w1 rfl (F.yl (j := 16) (d := 189) (b := true) rfl (by kernel_rfl))) rfl (X.index rfl (F.ev 191 (.slice (some pd34) N alc)) (F.ev 192 (.int .i64 i)) (X.idx (k := i) Try.underlying25 (Try.siz33 _) (by omega) (by omega) rfl)) ?_
             clear F ac
             intro ac F
             refine Y.pval F (X.w1 rfl (F.yl (j := 16) (d := 189) (b := true) rfl (by kernel_rfl))) rfl (X.field rfl (F.ev 193 (.pointer (some (pd34.add (i * 4))))) (X.fld Try.underlying33 rfl (Try.siz3 _) rfl rfl)) ?_
             clear F ac
             intro ac F
             refine Y.pval F (X.w1 rfl (F.yl (j := 16) (d := 189) (b := true) rfl (by kernel_rfl))) rfl (X.load rfl (F.ev 194 (.pointer (some (pd34.add (i * 4))))) (X.ld1 (Try.agg3 _) (hC.at 8 rfl))) ?_
             clear F ac
             intro ac F
             refine Y.pval F (X.w1 rfl (F.yl (j := 16) (d := 189) (b := true) rfl (by kernel_rfl))) rfl (X.move rfl (F.ev 1 (.int .i64 u))) ?_
             clear F ac
             intro ac F
             refine Y.pval F (X.w1 rfl (F.yl (j := 16) (d := 189) (b := true) rfl (by kernel_rfl))) rfl (X.binop rfl (F.ev 195 (.int .i64 (cv (lossL u x d n A l) i 0))) (F.ev 196 (.int .i64 u)) (X.subI Try.underlying3 rfl (by omega) (by omega))) ?_
             clear F ac
             intro ac F
             refine Y.pval F (X.w1 rfl (F.yl (j := 16) (d := 189) (b := true) rfl (by kernel_rfl))) rfl (X.index rfl (F.ev 190 (.slice (some ⟨w21.heap.size, 0, none⟩) j2 j2)) (F.ev 197 (.int .i64 ((cv (lossL u x d n A l) i 0 : Int) - u))) (X.idx (k := ((cv (lossL u x d n A l) i 0 : Int) - u).toNat) Try.underlying34 (Try.siz3 _) (by omega) (by omega) (addr_own _ _))) ?_
             clear F ac
             intro ac F
             replace hC : RCells w28 [(⟨w.heap.size, 0, none⟩, .int .i64 gr), (⟨w.heap.size, 1, none⟩, .int .i64 j2), (⟨w.heap.size, 2, none⟩, .slice (some pd25) n nc), (pd25.add (z * 5), .int .i64 (cv nd z 0)), (⟨(pd25.add (z * 5)).block, (pd25.add (z * 5)).off + 1, none⟩, .int .i64 (cv nd z 1)), (⟨(pd25.add (z * 5)).block, (pd25.add (z * 5)).off + 2, none⟩, .int .i64 (cv nd z 2)), (⟨(pd25.add (z * 5)).block, (pd25.add (z * 5)).off + 3, none⟩, .int .i64 (cv nd z 3)), (⟨(pd25.add (z * 5)).block, (pd25.add (z * 5)).off + 4, none⟩, .int .i64 (cv nd z 4)), (pd34.add (i * 4), .int .i64 (cv (lossL u x d n A l) i 0)), (⟨(pd34.add (i * 4)).block, (pd34.add (i * 4)).off + 1, none⟩, .int .i64 (cv (lossL u x d n A l) i 1)), (⟨(pd34.add (i * 4)).block, (pd34.add (i * 4)).off + 2, none⟩, .int .i64 (cv (lossL u x d n A l) i 2)), (⟨(pd34.add (i * 4)).block, (pd34.add (i * 4)).off + 3, none⟩, .int .i64 (cv (lossL u x d n A l) i 3)), (⟨w21.heap.size, (((cv (lossL u x d n A l) i 0 : Int) - u).toNat), none⟩, .int .i64 ((fun e => oneV (lostAt (lossL u x d n A l) z u i e)) (((cv (lossL u x d n A l) i 0 : Int) - u).toNat)))] := hC.append ((RCells.cons (hEV.cell (k := (((cv (lossL u x d n A l) i 0 : Int) - u).toNat)) (by omega)) (RCells.nil _)))
             refine Y.pval F (X.w1 rfl (F.yl (j := 16) (d := 189) (b := true) rfl (by kernel_rfl))) rfl (X.load rfl (F.ev 198 (.pointer (some ⟨w21.heap.size, (((cv (lossL u x d n A l) i 0 : Int) - u).toNat), none⟩))) (X.ld1 (Try.agg3 _) (hC.at 12 rfl))) ?_
             clear F ac
             intro ac F
             refine Y.pval F (X.w1 rfl (F.yl (j := 16) (d := 189) (b := true) rfl (by kernel_rfl))) rfl (X.binop rfl (F.ev 199 (.int .i64 ((fun e => oneV (lostAt (lossL u x d n A l) z u i e)) (((cv (lossL u x d n A l) i 0 : Int) - u).toNat)))) (X.kc (.int .i64 0) rfl) (X.eqlI Try.underlying3 rfl)) ?_
             clear F ac
             intro ac F
             refine Y.pval F (X.w0 rfl) rfl (X.pickT rfl (F.ev 189 (.bool true)) (F.ev 200 (.bool (((fun e => oneV (lostAt (lossL u x d n A l) z u i e)) (((cv (lossL u x d n A l) i 0 : Int) - u).toNat) : Int) == 0)))) ?_
             clear F ac
             intro ac F
             refine Y.nil ?_
             replace F : Fr ac 227 [(0, .agg #[.int .i64 gr, .int .i64 j2, .slice (some pd25) n nc]), (1, .int .i64 u), (2, .slice la m lc), (3, .pointer (some ⟨w.heap.size, 0, none⟩)), (7, .int .i64 x), (8, .int .i64 d), (9, .int .i64 j), (10, .int .i64 A), (11, .slice (some pd34) N alc), (12, .int .i64 m), (14, .slice ra15 (((A : Int) + 1).toNat) rc15), (16, .int .i64 (playE gr j2 nd ((A : Int) + 1) (lossL u x d n A l))), (17, .int .i64 z), (18, .slice (some ⟨w21.heap.size, 0, none⟩) j2 j2), (19, .int .i64 (cntF (lostAt (lossL u x d n A l) z u i) j2)), (20, .int .i64 i), (34, .bool false), (38, .bool false), (52, .bool false), (65, .bool false), (80, .bool false), (147, .bool false), (152, .bool true), (163, .bool false), (170, .bool true), (201, .bool (((fun e => oneV (lostAt (lossL u x d n A l) z u i e)) (((cv (lossL u x d n A l) i 0 : Int) - u).toNat) : Int) == 0))] := F.sub _
             refine X.thenN ?_
             cases h37 : (((fun e => oneV (lostAt (lossL u x d n A l) z u i e)) (((cv (lossL u x d n A l) i 0 : Int) - u).toNat) : Int) == 0) with
             | false =>
              try rw [h37] at F
              have h37p : ¬ ((fun e => oneV (lostAt (lossL u x d n A l) z u i e)) (((cv (lossL u x d n A l) i 0 : Int) - u).toNat) : Int) = 0 := by simpa using h37
              refine Y.condF (F.ev 201 (.bool false)) ?_
              refine Y.skip ?_
              refine X.blockN ?_
              refine X.thenN ?_
              refine Y.lit (by kernel_rfl) ?_
              refine Y.pval F (X.w0 rfl) rfl (X.move rfl (F.ev 20 (.int .i64 i))) ?_
              clear F ac
              intro ac F
              refine Y.pval F (X.w0 rfl) rfl (X.binop rfl (F.ev 171 (.int .i64 i)) (X.kc (.int .i64 1) rfl) (X.addI Try.underlying3 rfl (by omega) (by omega))) ?_
              clear F ac
              intro ac F
              refine Y.pval F (X.w0 rfl) rfl (X.assign rfl (F.ev 172 (.int .i64 ((i : Int) + 1)))) ?_
              clear F ac
              intro ac F
              refine Y.nil ?_
              replace F : Fr ac 227 [(0, .agg #[.int .i64 gr, .int .i64 j2, .slice (some pd25) n nc]), (1, .int .i64 u), (2, .slice la m lc), (3, .pointer (some ⟨w.heap.size, 0, none⟩)), (7, .int .i64 x), (8, .int .i64 d), (9, .int .i64 j), (10, .int .i64 A), (11, .slice (some pd34) N alc), (12, .int .i64 m), (14, .slice ra15 (((A : Int) + 1).toNat) rc15), (16, .int .i64 (playE gr j2 nd ((A : Int) + 1) (lossL u x d n A l))), (17, .int .i64 z), (18, .slice (some ⟨w21.heap.size, 0, none⟩) j2 j2), (19, .int .i64 (cntF (lostAt (lossL u x d n A l) z u i) j2)), (20, .int .i64 ((i : Int) + 1)), (34, .bool false), (38, .bool false), (52, .bool false), (65, .bool false), (80, .bool false), (147, .bool false), (152, .bool true), (163, .bool false), (170, .bool true), (201, .bool false)] := F.sub _
              refine X.thenN ?_
              refine ⟨_, ?_, i + 1, rfl, Gm, by omega, by omega, (hEV.congr (fun k hk => by show Value.int .i64 (oneV (lostAt (lossL u x d n A l) z u i k)) = Value.int .i64 (oneV (lostAt (lossL u x d n A l) z u (i + 1) k)); rw [lost_keep (z := z) (i := i) (k := k) (fun h1 h2 => by rw [show k = (cv (lossL u x d n A l) i 0 - u).toNat from by omega]; exact oneV_ne h37p)])), (by rw [cnt_keep (z := z) (i := i) (u := u) (fun k hk => lost_keep (z := z) (i := i) (k := k) (fun h1 h2 => by rw [show k = (cv (lossL u x d n A l) i 0 - u).toNat from by omega]; exact oneV_ne h37p))]; exact F.sub _)⟩
              omega
             | true =>
              try rw [h37] at F
              have h37p : ((fun e => oneV (lostAt (lossL u x d n A l) z u i e)) (((cv (lossL u x d n A l) i 0 : Int) - u).toNat) : Int) = 0 := by simpa using h37
              refine Y.condT (F.ev 201 (.bool true)) ?_
              refine Y.seq ?_
              refine Y.lit (by kernel_rfl) ?_
              refine Y.pval F (X.w0 rfl) rfl (X.move rfl (F.ev 18 (.slice (some ⟨w21.heap.size, 0, none⟩) j2 j2))) ?_
              clear F ac
              intro ac F
              refine Y.pval F (X.w0 rfl) rfl (X.move rfl (F.ev 11 (.slice (some pd34) N alc))) ?_
              clear F ac
              intro ac F
              refine Y.pval F (X.w0 rfl) rfl (X.move rfl (F.ev 20 (.int .i64 i))) ?_
              clear F ac
              intro ac F
              refine Y.pval F (X.w0 rfl) rfl (X.index rfl (F.ev 203 (.slice (some pd34) N alc)) (F.ev 204 (.int .i64 i)) (X.idx (k := i) Try.underlying25 (Try.siz33 _) (by omega) (by omega) rfl)) ?_
              clear F ac
              intro ac F
              refine Y.pval F (X.w0 rfl) rfl (X.field rfl (F.ev 205 (.pointer (some (pd34.add (i * 4))))) (X.fld Try.underlying33 rfl (Try.siz3 _) rfl rfl)) ?_
              clear F ac
              intro ac F
              refine Y.pval F (X.w0 rfl) rfl (X.load rfl (F.ev 206 (.pointer (some (pd34.add (i * 4))))) (X.ld1 (Try.agg3 _) (hC.at 8 rfl))) ?_
              clear F ac
              intro ac F
              refine Y.pval F (X.w0 rfl) rfl (X.move rfl (F.ev 1 (.int .i64 u))) ?_
              clear F ac
              intro ac F
              refine Y.pval F (X.w0 rfl) rfl (X.binop rfl (F.ev 207 (.int .i64 (cv (lossL u x d n A l) i 0))) (F.ev 208 (.int .i64 u)) (X.subI Try.underlying3 rfl (by omega) (by omega))) ?_
              clear F ac
              intro ac F
              refine Y.pval F (X.w0 rfl) rfl (X.index rfl (F.ev 202 (.slice (some ⟨w21.heap.size, 0, none⟩) j2 j2)) (F.ev 209 (.int .i64 ((cv (lossL u x d n A l) i 0 : Int) - u))) (X.idx (k := ((cv (lossL u x d n A l) i 0 : Int) - u).toNat) Try.underlying34 (Try.siz3 _) (by omega) (by omega) (addr_own _ _))) ?_
              clear F ac
              intro ac F
              refine Y.punit F (X.w0 rfl) rfl (X.store rfl (F.ev 210 (.pointer (some ⟨w21.heap.size, (((cv (lossL u x d n A l) i 0 : Int) - u).toNat), none⟩))) (X.kc (.int .i64 1) rfl) (hEV.st1 (Try.siz3 _) rfl rfl (by omega))) ?_
              clear F ac
              intro ac F
              have hon := Y.set_only w28 w21.heap.size ((((cv (lossL u x d n A l) i 0 : Int) - u).toNat)) (.int .i64 1)
              replace hEV := hEV.set (k := (((cv (lossL u x d n A l) i 0 : Int) - u).toNat)) (.int .i64 1)
              rw [EV_up] at hEV
              generalize w28.setCell ⟨w21.heap.size, (((cv (lossL u x d n A l) i 0 : Int) - u).toNat), none⟩ (.int .i64 1) = w38 at *
              replace Gm := Y.Only.up Gm hon (Nat.le_refl _)
              clear hon
              replace G := G_m.trans Gm
              replace GBBB_ := GBBB__m.trans Gm
              replace hnd := hnd_m.gr Gm
              replace hl := hl_m.gr Gm
              have hal := hal_m.gr Gm
              replace hr15 := hr15_m.gr Gm
              replace he15 := he15_m.gr Gm
              replace hC := hC_m.gr Gm
              refine Y.nil ?_
              replace F : Fr ac 227 [(0, .agg #[.int .i64 gr, .int .i64 j2, .slice (some pd25) n nc]), (1, .int .i64 u), (2, .slice la m lc), (3, .pointer (some ⟨w.heap.size, 0, none⟩)), (7, .int .i64 x), (8, .int .i64 d), (9, .int .i64 j), (10, .int .i64 A), (11, .slice (some pd34) N alc), (12, .int .i64 m), (14, .slice ra15 (((A : Int) + 1).toNat) rc15), (16, .int .i64 (playE gr j2 nd ((A : Int) + 1) (lossL u x d n A l))), (17, .int .i64 z), (18, .slice (some ⟨w21.heap.size, 0, none⟩) j2 j2), (19, .int .i64 (cntF (lostAt (lossL u x d n A l) z u i) j2)), (20, .int .i64 i), (34, .bool false), (38, .bool false), (52, .bool false), (65, .bool false), (80, .bool false), (147, .bool false), (152, .bool true), (163, .bool false), (170, .bool true), (201, .bool true)] := F.sub _
              refine X.thenN ?_
              refine Y.lit (by kernel_rfl) ?_
              refine Y.pval F (X.w0 rfl) rfl (X.move rfl (F.ev 19 (.int .i64 (cntF (lostAt (lossL u x d n A l) z u i) j2)))) ?_
              clear F ac
              intro ac F
              refine Y.pval F (X.w0 rfl) rfl (X.binop rfl (F.ev 211 (.int .i64 (cntF (lostAt (lossL u x d n A l) z u i) j2))) (X.kc (.int .i64 1) rfl) (X.addI Try.underlying3 rfl (by omega) (by omega))) ?_
              clear F ac
              intro ac F
              refine Y.pval F (X.w0 rfl) rfl (X.assign rfl (F.ev 212 (.int .i64 ((cntF (lostAt (lossL u x d n A l) z u i) j2 : Int) + 1)))) ?_
              clear F ac
              intro ac F
              refine Y.nil ?_
              replace F : Fr ac 227 [(0, .agg #[.int .i64 gr, .int .i64 j2, .slice (some pd25) n nc]), (1, .int .i64 u), (2, .slice la m lc), (3, .pointer (some ⟨w.heap.size, 0, none⟩)), (7, .int .i64 x), (8, .int .i64 d), (9, .int .i64 j), (10, .int .i64 A), (11, .slice (some pd34) N alc), (12, .int .i64 m), (14, .slice ra15 (((A : Int) + 1).toNat) rc15), (16, .int .i64 (playE gr j2 nd ((A : Int) + 1) (lossL u x d n A l))), (17, .int .i64 z), (18, .slice (some ⟨w21.heap.size, 0, none⟩) j2 j2), (19, .int .i64 ((cntF (lostAt (lossL u x d n A l) z u i) j2 : Int) + 1)), (20, .int .i64 i), (34, .bool false), (38, .bool false), (52, .bool false), (65, .bool false), (80, .bool false), (147, .bool false), (152, .bool true), (163, .bool false), (170, .bool true), (201, .bool true)] := F.sub _
              refine X.blockN ?_
              refine X.thenN ?_
              refine Y.lit (by kernel_rfl) ?_
              refine Y.pval F (X.w0 rfl) rfl (X.move rfl (F.ev 20 (.int .i64 i))) ?_
              clear F ac
              intro ac F
              refine Y.pval F (X.w0 rfl) rfl (X.binop rfl (F.ev 171 (.int .i64 i)) (X.kc (.int .i64 1) rfl) (X.addI Try.underlying3 rfl (by omega) (by omega))) ?_
              clear F ac
              intro ac F
              refine Y.pval F (X.w0 rfl) rfl (X.assign rfl (F.ev 172 (.int .i64 ((i : Int) + 1)))) ?_
              clear F ac
              intro ac F
              refine Y.nil ?_
              replace F : Fr ac 227 [(0, .agg #[.int .i64 gr, .int .i64 j2, .slice (some pd25) n nc]), (1, .int .i64 u), (2, .slice la m lc), (3, .pointer (some ⟨w.heap.size, 0, none⟩)), (7, .int .i64 x), (8, .int .i64 d), (9, .int .i64 j), (10, .int .i64 A), (11, .slice (some pd34) N alc), (12, .int .i64 m), (14, .slice ra15 (((A : Int) + 1).toNat) rc15), (16, .int .i64 (playE gr j2 nd ((A : Int) + 1) (lossL u x d n A l))), (17, .int .i64 z), (18, .slice (some ⟨w21.heap.size, 0, none⟩) j2 j2), (19, .int .i64 ((cntF (lostAt (lossL u x d n A l) z u i) j2 : Int) + 1)), (20, .int .i64 ((i : Int) + 1)), (34, .bool false), (38, .bool false), (52, .bool false), (65, .bool false), (80, .bool false), (147, .bool false), (152, .bool true), (163, .bool false), (170, .bool true), (201, .bool true)] := F.sub _
              refine X.thenN ?_
              refine ⟨_, ?_, i + 1, rfl, Gm, by omega, by omega, (hEV.congr (fun k hk => by show Value.int .i64 (if k = (cv (lossL u x d n A l) i 0 - u).toNat then 1 else oneV (lostAt (lossL u x d n A l) z u i k)) = Value.int .i64 (oneV (lostAt (lossL u x d n A l) z u (i + 1) k)); rw [lost_set (z := z) (i := i) (k := k) (by omega) (by omega) (by omega) h37p hk])), (by rw [cnt_set (z := z) (i := i) (u := u) (by omega) (by omega) (by omega) h37p (by omega)]; exact F.sub _)⟩
              omega
       | true =>
        try rw [h14] at F
        have h14p : ((i : Int) < m) := of_decide_eq_true h14
        have e0 : ∀ r, nv (l[i]?.getD []) r = cv l i r := fun r => rfl
        have e00 := e0 0
        have e01 := e0 1
        have e02 := e0 2
        have e03 := e0 3
        refine Y.condT (F.ev 80 (.bool true)) ?_
        refine Y.skip ?_
        refine X.thenN ?_
        refine Y.seq ?_
        refine Y.block ?_
        refine Y.seq ?_
        refine Y.lit (by kernel_rfl) ?_
        refine Y.pval F (X.w0 rfl) rfl (X.move rfl (F.ev 2 (.slice la m lc))) ?_
        clear F ac
        intro ac F
        refine Y.pval F (X.w0 rfl) rfl (X.move rfl (F.ev 12 (.int .i64 i))) ?_
        clear F ac
        intro ac F
        obtain ⟨pd39, pe39, -, -, pc39⟩ := hl.at (j := i) (by omega)
        subst pe39
        replace hC : RCells w13 [(⟨w.heap.size, 0, none⟩, .int .i64 gr), (⟨w.heap.size, 1, none⟩, .int .i64 hold), (⟨w.heap.size, 2, none⟩, .slice na n nc), (pd39.add (i * 4), .int .i64 (cv l i 0)), (⟨(pd39.add (i * 4)).block, (pd39.add (i * 4)).off + 1, none⟩, .int .i64 (cv l i 1)), (⟨(pd39.add (i * 4)).block, (pd39.add (i * 4)).off + 2, none⟩, .int .i64 (cv l i 2)), (⟨(pd39.add (i * 4)).block, (pd39.add (i * 4)).off + 3, none⟩, .int .i64 (cv l i 3))] := hC.append ((RCells.cons (pc39 0 (by decide)) (RCells.cons (pc39 1 (by decide)) (RCells.cons (pc39 2 (by decide)) (RCells.cons (pc39 3 (by decide)) (RCells.nil _))))))
        clear pc39
        refine Y.pval F (X.w0 rfl) rfl (X.index rfl (F.ev 83 (.slice (some pd39) m lc)) (F.ev 84 (.int .i64 i)) (X.idx (k := i) Try.underlying25 (Try.siz33 _) (by omega) (by omega) rfl)) ?_
        clear F ac
        intro ac F
        refine Y.pval F (X.w0 rfl) rfl (X.load rfl (F.ev 85 (.pointer (some (pd39.add (i * 4))))) (X.ldN (Try.agg33 _) (Try.siz33 _) (Y.atz (pd39.add (i * 4)) (Y.AtFrom.cons (hC.at 3 rfl) (Y.AtFrom.cons (hC.at 4 rfl) (Y.AtFrom.cons (hC.at 5 rfl) (Y.AtFrom.cons (hC.at 6 rfl) (Y.AtFrom.nil _ _ _)))))))) ?_
        clear F ac
        intro ac F
        refine Y.pval F (X.w0 rfl) rfl (Y.al rfl (Try.new33 _)) ?_
        clear F ac
        intro ac F
        refine Y.punit F (X.w0 rfl) rfl (X.store rfl (F.ev 13 (.pointer (some ⟨w13.heap.size, 0, none⟩))) (F.ev 86 (.agg #[.int .i64 (cv l i 0), .int .i64 (cv l i 1), .int .i64 (cv l i 2), .int .i64 (cv l i 3)])) (Y.stNew [.int .i64 (cv l i 0), .int .i64 (cv l i 1), .int .i64 (cv l i 2), .int .i64 (cv l i 3)] [.int .i64 0, .int .i64 0, .int .i64 0, .int .i64 0] (Try.siz33 _) rfl rfl)) ?_
        clear F ac
        intro ac F
        have g := Gr.alloc w13 (.cells #[.int .i64 (cv l i 0), .int .i64 (cv l i 1), .int .i64 (cv l i 2), .int .i64 (cv l i 3)] 33)
        have hb := heap_alloc_new w13 (.cells #[.int .i64 (cv l i 0), .int .i64 (cv l i 1), .int .i64 (cv l i 2), .int .i64 (cv l i 3)] 33)
        have hbl : w13.heap.size < (w13.alloc (.cells #[.int .i64 (cv l i 0), .int .i64 (cv l i 1), .int .i64 (cv l i 2), .int .i64 (cv l i 3)] 33)).heap.size := by simp
        have hC2 : RCells (w13.alloc (.cells #[.int .i64 (cv l i 0), .int .i64 (cv l i 1), .int .i64 (cv l i 2), .int .i64 (cv l i 3)] 33)) [(⟨w.heap.size, 0, none⟩, .int .i64 gr), (⟨w.heap.size, 1, none⟩, .int .i64 hold), (⟨w.heap.size, 2, none⟩, .slice na n nc), (pd39.add (i * 4), .int .i64 (cv l i 0)), (⟨(pd39.add (i * 4)).block, (pd39.add (i * 4)).off + 1, none⟩, .int .i64 (cv l i 1)), (⟨(pd39.add (i * 4)).block, (pd39.add (i * 4)).off + 2, none⟩, .int .i64 (cv l i 2)), (⟨(pd39.add (i * 4)).block, (pd39.add (i * 4)).off + 3, none⟩, .int .i64 (cv l i 3)), (⟨w13.heap.size, 0, none⟩, .int .i64 (cv l i 0)), (⟨w13.heap.size, 1, none⟩, .int .i64 (cv l i 1)), (⟨w13.heap.size, 2, none⟩, .int .i64 (cv l i 2)), (⟨w13.heap.size, 3, none⟩, .int .i64 (cv l i 3))] := hC.box (b := w13.heap.size) #[.int .i64 (cv l i 0), .int .i64 (cv l i 1), .int .i64 (cv l i 2), .int .i64 (cv l i 3)] 33 rfl
        generalize w13.alloc (.cells #[.int .i64 (cv l i 0), .int .i64 (cv l i 1), .int .i64 (cv l i 2), .int .i64 (cv l i 3)] 33) = w40 at *
        replace G := G.trans g
        replace hC := hC2
        clear hC2
        replace GW := GW.trans g
        replace hnd := hnd.gr g
        replace hl := hl.gr g
        replace hO := hO.gr g
        clear g hb hbl
        refine Y.nil ?_
        replace F : Fr ac 227 [(0, .agg #[.int .i64 gr, .int .i64 hold, .slice na n nc]), (1, .int .i64 u), (2, .slice (some pd39) m lc), (3, .pointer (some ⟨w.heap.size, 0, none⟩)), (6, .bool false), (7, .int .i64 x), (8, .int .i64 d), (9, .int .i64 j), (10, .int .i64 A), (11, v), (12, .int .i64 i), (13, .pointer (some ⟨w13.heap.size, 0, none⟩)), (34, .bool false), (38, .bool false), (52, .bool false), (65, .bool false), (80, .bool true)] := F.sub _
        refine X.thenN ?_
        refine Y.seq ?_
        refine Y.lit (by kernel_rfl) ?_
        refine Y.pval F (X.w0 rfl) rfl (X.field rfl (F.ev 13 (.pointer (some ⟨w13.heap.size, 0, none⟩))) (X.fld Try.underlying33 rfl (Try.siz3 _) rfl rfl)) ?_
        clear F ac
        intro ac F
        refine Y.pval F (X.w0 rfl) rfl (X.load rfl (F.ev 87 (.pointer (some ⟨w13.heap.size, 1, none⟩))) (X.ld1 (Try.agg3 _) (hC.at 8 rfl))) ?_
        clear F ac
        intro ac F
        refine Y.pval F (X.w0 rfl) rfl (X.binop rfl (F.ev 88 (.int .i64 (cv l i 1))) (X.kc (.int .i64 4) rfl) (X.eqlI Try.underlying3 rfl)) ?_
        clear F ac
        intro ac F
        refine Y.pval F (X.w0 rfl) rfl (X.move rfl (F.ev 89 (.bool ((cv l i 1 : Int) == 4)))) ?_
        clear F ac
        intro ac F
        cases h41 : ((cv l i 1 : Int) == 4) with
        | false =>
         try rw [h41] at F
         have h41p : ¬ (cv l i 1 : Int) = 4 := by simpa using h41
         refine Y.pskip F (X.w2 rfl (F.yl (j := 3) (d := 90) (b := false) rfl (by kernel_rfl)) rfl) rfl ?_
         clear F ac
         intro ac F
         refine Y.pskip F (X.w2 rfl (F.yl (j := 3) (d := 90) (b := false) rfl (by kernel_rfl)) rfl) rfl ?_
         clear F ac
         intro ac F
         refine Y.pskip F (X.w2 rfl (F.yl (j := 3) (d := 90) (b := false) rfl (by kernel_rfl)) rfl) rfl ?_
         clear F ac
         intro ac F
         refine Y.pskip F (X.w2 rfl (F.yl (j := 3) (d := 90) (b := false) rfl (by kernel_rfl)) rfl) rfl ?_
         clear F ac
         intro ac F
         refine Y.pval F (X.w0 rfl) rfl (X.pickF rfl (F.ev 90 (.bool false)) (X.kc (.bool false) rfl)) ?_
         clear F ac
         intro ac F
         refine Y.pval F (X.w0 rfl) rfl (X.move rfl (F.ev 95 (.bool false))) ?_
         clear F ac
         intro ac F
         refine Y.pskip F (X.w2 rfl (F.yl (j := 9) (d := 96) (b := false) rfl (by kernel_rfl)) rfl) rfl ?_
         clear F ac
         intro ac F
         refine Y.pskip F (X.w2 rfl (F.yl (j := 9) (d := 96) (b := false) rfl (by kernel_rfl)) rfl) rfl ?_
         clear F ac
         intro ac F
         refine Y.pskip F (X.w2 rfl (F.yl (j := 9) (d := 96) (b := false) rfl (by kernel_rfl)) rfl) rfl ?_
         clear F ac
         intro ac F
         refine Y.pval F (X.w0 rfl) rfl (X.pickF rfl (F.ev 96 (.bool false)) (X.kc (.bool false) rfl)) ?_
         clear F ac
         intro ac F
         refine Y.pval F (X.w0 rfl) rfl (X.move rfl (F.ev 100 (.bool false))) ?_
         clear F ac
         intro ac F
         refine Y.pskip F (X.w2 rfl (F.yl (j := 14) (d := 101) (b := false) rfl (by kernel_rfl)) rfl) rfl ?_
         clear F ac
         intro ac F
         refine Y.pskip F (X.w2 rfl (F.yl (j := 14) (d := 101) (b := false) rfl (by kernel_rfl)) rfl) rfl ?_
         clear F ac
         intro ac F
         refine Y.pskip F (X.w2 rfl (F.yl (j := 14) (d := 101) (b := false) rfl (by kernel_rfl)) rfl) rfl ?_
         clear F ac
         intro ac F
         refine Y.pskip F (X.w2 rfl (F.yl (j := 14) (d := 101) (b := false) rfl (by kernel_rfl)) rfl) rfl ?_
         clear F ac
         intro ac F
         refine Y.pskip F (X.w2 rfl (F.yl (j := 14) (d := 101) (b := false) rfl (by kernel_rfl)) rfl) rfl ?_
         clear F ac
         intro ac F
         refine Y.pskip F (X.w2 rfl (F.yl (j := 14) (d := 101) (b := false) rfl (by kernel_rfl)) rfl) rfl ?_
         clear F ac
         intro ac F
         refine Y.pval F (X.w0 rfl) rfl (X.pickF rfl (F.ev 101 (.bool false)) (X.kc (.bool false) rfl)) ?_
         clear F ac
         intro ac F
         refine Y.pval F (X.w0 rfl) rfl (X.move rfl (F.ev 108 (.bool false))) ?_
         clear F ac
         intro ac F
         refine Y.pskip F (X.w2 rfl (F.yl (j := 22) (d := 109) (b := false) rfl (by kernel_rfl)) rfl) rfl ?_
         clear F ac
         intro ac F
         refine Y.pskip F (X.w2 rfl (F.yl (j := 22) (d := 109) (b := false) rfl (by kernel_rfl)) rfl) rfl ?_
         clear F ac
         intro ac F
         refine Y.pskip F (X.w2 rfl (F.yl (j := 22) (d := 109) (b := false) rfl (by kernel_rfl)) rfl) rfl ?_
         clear F ac
         intro ac F
         refine Y.pskip F (X.w2 rfl (F.yl (j := 22) (d := 109) (b := false) rfl (by kernel_rfl)) rfl) rfl ?_
         clear F ac
         intro ac F
         refine Y.pval F (X.w0 rfl) rfl (X.pickF rfl (F.ev 109 (.bool false)) (X.kc (.bool false) rfl)) ?_
         clear F ac
         intro ac F
         refine Y.pval F (X.w0 rfl) rfl (X.move rfl (F.ev 114 (.bool false))) ?_
         clear F ac
         intro ac F
         refine Y.pskip F (X.w2 rfl (F.yl (j := 28) (d := 115) (b := false) rfl (by kernel_rfl)) rfl) rfl ?_
         clear F ac
         intro ac F
         refine Y.pskip F (X.w2 rfl (F.yl (j := 28) (d := 115) (b := false) rfl (by kernel_rfl)) rfl) rfl ?_
         clear F ac
         intro ac F
         refine Y.pskip F (X.w2 rfl (F.yl (j := 28) (d := 115) (b := false) rfl (by kernel_rfl)) rfl) rfl ?_
         clear F ac
         intro ac F
         refine Y.pval F (X.w0 rfl) rfl (X.pickF rfl (F.ev 115 (.bool false)) (X.kc (.bool false) rfl)) ?_
         clear F ac
         intro ac F
         refine Y.pval F (X.w0 rfl) rfl (X.move rfl (F.ev 119 (.bool false))) ?_
         clear F ac
         intro ac F
         refine Y.pskip F (X.w2 rfl (F.yl (j := 33) (d := 120) (b := false) rfl (by kernel_rfl)) rfl) rfl ?_
         clear F ac
         intro ac F
         refine Y.pskip F (X.w2 rfl (F.yl (j := 33) (d := 120) (b := false) rfl (by kernel_rfl)) rfl) rfl ?_
         clear F ac
         intro ac F
         refine Y.pskip F (X.w2 rfl (F.yl (j := 33) (d := 120) (b := false) rfl (by kernel_rfl)) rfl) rfl ?_
         clear F ac
         intro ac F
         refine Y.pskip F (X.w2 rfl (F.yl (j := 33) (d := 120) (b := false) rfl (by kernel_rfl)) rfl) rfl ?_
         clear F ac
         intro ac F
         refine Y.pval F (X.w0 rfl) rfl (X.pickF rfl (F.ev 120 (.bool false)) (X.kc (.bool false) rfl)) ?_
         clear F ac
         intro ac F
         refine Y.nil ?_
         replace F : Fr ac 227 [(0, .agg #[.int .i64 gr, .int .i64 hold, .slice na n nc]), (1, .int .i64 u), (2, .slice (some pd39) m lc), (3, .pointer (some ⟨w.heap.size, 0, none⟩)), (6, .bool false), (7, .int .i64 x), (8, .int .i64 d), (9, .int .i64 j), (10, .int .i64 A), (11, v), (12, .int .i64 i), (13, .pointer (some ⟨w13.heap.size, 0, none⟩)), (34, .bool false), (38, .bool false), (52, .bool false), (65, .bool false), (80, .bool true), (125, .bool false)] := F.sub _
         refine X.thenN ?_
         refine Y.condF (F.ev 125 (.bool false)) ?_
         refine Y.skip ?_
         refine X.blockN ?_
         refine X.thenN ?_
         refine Y.lit (by kernel_rfl) ?_
         refine Y.pval F (X.w0 rfl) rfl (X.move rfl (F.ev 12 (.int .i64 i))) ?_
         clear F ac
         intro ac F
         refine Y.pval F (X.w0 rfl) rfl (X.binop rfl (F.ev 81 (.int .i64 i)) (X.kc (.int .i64 1) rfl) (X.addI Try.underlying3 rfl (by omega) (by omega))) ?_
         clear F ac
         intro ac F
         refine Y.pval F (X.w0 rfl) rfl (X.assign rfl (F.ev 82 (.int .i64 ((i : Int) + 1)))) ?_
         clear F ac
         intro ac F
         refine Y.nil ?_
         replace F : Fr ac 227 [(0, .agg #[.int .i64 gr, .int .i64 hold, .slice na n nc]), (1, .int .i64 u), (2, .slice (some pd39) m lc), (3, .pointer (some ⟨w.heap.size, 0, none⟩)), (6, .bool false), (7, .int .i64 x), (8, .int .i64 d), (9, .int .i64 j), (10, .int .i64 A), (11, v), (12, .int .i64 ((i : Int) + 1)), (13, .pointer (some ⟨w13.heap.size, 0, none⟩)), (34, .bool false), (38, .bool false), (52, .bool false), (65, .bool false), (80, .bool true), (125, .bool false)] := F.sub _
         refine X.thenN ?_
         have hw := lossL_take (u := u) (x := x) (d := d) (n := n) (A := A) (l := l) (i := i) (by omega)
         have hnot : ¬ lossB x n A (l[i]?.getD []) = true := fun h => by
          have h1 := lossB_ok h
          have h2 := h1.k
          have h3 := h1.f
          have h4 := h1.a0
          have h5 := h1.a1
          have h6 := h1.ne
          have h7 := h1.t0
          have h8 := h1.t1
          omega
         rw [if_neg hnot, List.append_nil] at hw
         clear hnot
         refine ⟨_, ?_, i + 1, _, rfl, GW, by omega, (by rw [hw]; exact hO), F.sub _⟩
         omega
        | true =>
         try rw [h41] at F
         have h41p : (cv l i 1 : Int) = 4 := by simpa using h41
         refine Y.pval F (X.w1 rfl (F.yl (j := 3) (d := 90) (b := true) rfl (by kernel_rfl))) rfl (X.field rfl (F.ev 13 (.pointer (some ⟨w13.heap.size, 0, none⟩))) (X.fld Try.underlying33 rfl (Try.siz3 _) rfl rfl)) ?_
         clear F ac
         intro ac F
         refine Y.pval F (X.w1 rfl (F.yl (j := 3) (d := 90) (b := true) rfl (by kernel_rfl))) rfl (X.load rfl (F.ev 91 (.pointer (some ⟨w13.heap.size, 2, none⟩))) (X.ld1 (Try.agg3 _) (hC.at 9 rfl))) ?_
         clear F ac
         intro ac F
         refine Y.pval F (X.w1 rfl (F.yl (j := 3) (d := 90) (b := true) rfl (by kernel_rfl))) rfl (X.move rfl (F.ev 7 (.int .i64 x))) ?_
         clear F ac
         intro ac F
         refine Y.pval F (X.w1 rfl (F.yl (j := 3) (d := 90) (b := true) rfl (by kernel_rfl))) rfl (X.binop rfl (F.ev 92 (.int .i64 (cv l i 2))) (F.ev 93 (.int .i64 x)) (X.eqlI Try.underlying3 rfl)) ?_
         clear F ac
         intro ac F
         refine Y.pval F (X.w0 rfl) rfl (X.pickT rfl (F.ev 90 (.bool true)) (F.ev 94 (.bool ((cv l i 2 : Int) == x)))) ?_
         clear F ac
         intro ac F
         refine Y.pval F (X.w0 rfl) rfl (X.move rfl (F.ev 95 (.bool ((cv l i 2 : Int) == x)))) ?_
         clear F ac
         intro ac F
         cases h42 : ((cv l i 2 : Int) == x) with
         | false =>
          try rw [h42] at F
          have h42p : ¬ (cv l i 2 : Int) = x := by simpa using h42
          refine Y.pskip F (X.w2 rfl (F.yl (j := 9) (d := 96) (b := false) rfl (by kernel_rfl)) rfl) rfl ?_
          clear F ac
          intro ac F
          refine Y.pskip F (X.w2 rfl (F.yl (j := 9) (d := 96) (b := false) rfl (by kernel_rfl)) rfl) rfl ?_
          clear F ac
          intro ac F
          refine Y.pskip F (X.w2 rfl (F.yl (j := 9) (d := 96) (b := false) rfl (by kernel_rfl)) rfl) rfl ?_
          clear F ac
          intro ac F
          refine Y.pval F (X.w0 rfl) rfl (X.pickF rfl (F.ev 96 (.bool false)) (X.kc (.bool false) rfl)) ?_
          clear F ac
          intro ac F
          refine Y.pval F (X.w0 rfl) rfl (X.move rfl (F.ev 100 (.bool false))) ?_
          clear F ac
          intro ac F
          refine Y.pskip F (X.w2 rfl (F.yl (j := 14) (d := 101) (b := false) rfl (by kernel_rfl)) rfl) rfl ?_
          clear F ac
          intro ac F
          refine Y.pskip F (X.w2 rfl (F.yl (j := 14) (d := 101) (b := false) rfl (by kernel_rfl)) rfl) rfl ?_
          clear F ac
          intro ac F
          refine Y.pskip F (X.w2 rfl (F.yl (j := 14) (d := 101) (b := false) rfl (by kernel_rfl)) rfl) rfl ?_
          clear F ac
          intro ac F
          refine Y.pskip F (X.w2 rfl (F.yl (j := 14) (d := 101) (b := false) rfl (by kernel_rfl)) rfl) rfl ?_
          clear F ac
          intro ac F
          refine Y.pskip F (X.w2 rfl (F.yl (j := 14) (d := 101) (b := false) rfl (by kernel_rfl)) rfl) rfl ?_
          clear F ac
          intro ac F
          refine Y.pskip F (X.w2 rfl (F.yl (j := 14) (d := 101) (b := false) rfl (by kernel_rfl)) rfl) rfl ?_
          clear F ac
          intro ac F
          refine Y.pval F (X.w0 rfl) rfl (X.pickF rfl (F.ev 101 (.bool false)) (X.kc (.bool false) rfl)) ?_
          clear F ac
          intro ac F
          refine Y.pval F (X.w0 rfl) rfl (X.move rfl (F.ev 108 (.bool false))) ?_
          clear F ac
          intro ac F
          refine Y.pskip F (X.w2 rfl (F.yl (j := 22) (d := 109) (b := false) rfl (by kernel_rfl)) rfl) rfl ?_
          clear F ac
          intro ac F
          refine Y.pskip F (X.w2 rfl (F.yl (j := 22) (d := 109) (b := false) rfl (by kernel_rfl)) rfl) rfl ?_
          clear F ac
          intro ac F
          refine Y.pskip F (X.w2 rfl (F.yl (j := 22) (d := 109) (b := false) rfl (by kernel_rfl)) rfl) rfl ?_
          clear F ac
          intro ac F
          refine Y.pskip F (X.w2 rfl (F.yl (j := 22) (d := 109) (b := false) rfl (by kernel_rfl)) rfl) rfl ?_
          clear F ac
          intro ac F
          refine Y.pval F (X.w0 rfl) rfl (X.pickF rfl (F.ev 109 (.bool false)) (X.kc (.bool false) rfl)) ?_
          clear F ac
          intro ac F
          refine Y.pval F (X.w0 rfl) rfl (X.move rfl (F.ev 114 (.bool false))) ?_
          clear F ac
          intro ac F
          refine Y.pskip F (X.w2 rfl (F.yl (j := 28) (d := 115) (b := false) rfl (by kernel_rfl)) rfl) rfl ?_
          clear F ac
          intro ac F
          refine Y.pskip F (X.w2 rfl (F.yl (j := 28) (d := 115) (b := false) rfl (by kernel_rfl)) rfl) rfl ?_
          clear F ac
          intro ac F
          refine Y.pskip F (X.w2 rfl (F.yl (j := 28) (d := 115) (b := false) rfl (by kernel_rfl)) rfl) rfl ?_
          clear F ac
          intro ac F
          refine Y.pval F (X.w0 rfl) rfl (X.pickF rfl (F.ev 115 (.bool false)) (X.kc (.bool false) rfl)) ?_
          clear F ac
          intro ac F
          refine Y.pval F (X.w0 rfl) rfl (X.move rfl (F.ev 119 (.bool false))) ?_
          clear F ac
          intro ac F
          refine Y.pskip F (X.w2 rfl (F.yl (j := 33) (d := 120) (b := false) rfl (by kernel_rfl)) rfl) rfl ?_
          clear F ac
          intro ac F
          refine Y.pskip F (X.w2 rfl (F.yl (j := 33) (d := 120) (b := false) rfl (by kernel_rfl)) rfl) rfl ?_
          clear F ac
          intro ac F
          refine Y.pskip F (X.w2 rfl (F.yl (j := 33) (d := 120) (b := false) rfl (by kernel_rfl)) rfl) rfl ?_
          clear F ac
          intro ac F
          refine Y.pskip F (X.w2 rfl (F.yl (j := 33) (d := 120) (b := false) rfl (by kernel_rfl)) rfl) rfl ?_
          clear F ac
          intro ac F
          refine Y.pval F (X.w0 rfl) rfl (X.pickF rfl (F.ev 120 (.bool false)) (X.kc (.bool false) rfl)) ?_
          clear F ac
          intro ac F
          refine Y.nil ?_
          replace F : Fr ac 227 [(0, .agg #[.int .i64 gr, .int .i64 hold, .slice na n nc]), (1, .int .i64 u), (2, .slice (some pd39) m lc), (3, .pointer (some ⟨w.heap.size, 0, none⟩)), (6, .bool false), (7, .int .i64 x), (8, .int .i64 d), (9, .int .i64 j), (10, .int .i64 A), (11, v), (12, .int .i64 i), (13, .pointer (some ⟨w13.heap.size, 0, none⟩)), (34, .bool false), (38, .bool false), (52, .bool false), (65, .bool false), (80, .bool true), (125, .bool false)] := F.sub _
          refine X.thenN ?_
          refine Y.condF (F.ev 125 (.bool false)) ?_
          refine Y.skip ?_
          refine X.blockN ?_
          refine X.thenN ?_
          refine Y.lit (by kernel_rfl) ?_
          refine Y.pval F (X.w0 rfl) rfl (X.move rfl (F.ev 12 (.int .i64 i))) ?_
          clear F ac
          intro ac F
          refine Y.pval F (X.w0 rfl) rfl (X.binop rfl (F.ev 81 (.int .i64 i)) (X.kc (.int .i64 1) rfl) (X.addI Try.underlying3 rfl (by omega) (by omega))) ?_
          clear F ac
          intro ac F
          refine Y.pval F (X.w0 rfl) rfl (X.assign rfl (F.ev 82 (.int .i64 ((i : Int) + 1)))) ?_
          clear F ac
          intro ac F
          refine Y.nil ?_
          replace F : Fr ac 227 [(0, .agg #[.int .i64 gr, .int .i64 hold, .slice na n nc]), (1, .int .i64 u), (2, .slice (some pd39) m lc), (3, .pointer (some ⟨w.heap.size, 0, none⟩)), (6, .bool false), (7, .int .i64 x), (8, .int .i64 d), (9, .int .i64 j), (10, .int .i64 A), (11, v), (12, .int .i64 ((i : Int) + 1)), (13, .pointer (some ⟨w13.heap.size, 0, none⟩)), (34, .bool false), (38, .bool false), (52, .bool false), (65, .bool false), (80, .bool true), (125, .bool false)] := F.sub _
          refine X.thenN ?_
          have hw := lossL_take (u := u) (x := x) (d := d) (n := n) (A := A) (l := l) (i := i) (by omega)
          have hnot : ¬ lossB x n A (l[i]?.getD []) = true := fun h => by
           have h1 := lossB_ok h
           have h2 := h1.k
           have h3 := h1.f
           have h4 := h1.a0
           have h5 := h1.a1
           have h6 := h1.ne
           have h7 := h1.t0
           have h8 := h1.t1
           omega
          rw [if_neg hnot, List.append_nil] at hw
          clear hnot
          refine ⟨_, ?_, i + 1, _, rfl, GW, by omega, (by rw [hw]; exact hO), F.sub _⟩
          omega
         | true =>
          try rw [h42] at F
          have h42p : (cv l i 2 : Int) = x := by simpa using h42
          refine Y.pval F (X.w1 rfl (F.yl (j := 9) (d := 96) (b := true) rfl (by kernel_rfl))) rfl (X.field rfl (F.ev 13 (.pointer (some ⟨w13.heap.size, 0, none⟩))) (X.fld Try.underlying33 rfl (Try.siz3 _) rfl rfl)) ?_
          clear F ac
          intro ac F
          refine Y.pval F (X.w1 rfl (F.yl (j := 9) (d := 96) (b := true) rfl (by kernel_rfl))) rfl (X.load rfl (F.ev 97 (.pointer (some ⟨w13.heap.size, 3, none⟩))) (X.ld1 (Try.agg3 _) (hC.at 10 rfl))) ?_
          clear F ac
          intro ac F
          refine Y.pval F (X.w1 rfl (F.yl (j := 9) (d := 96) (b := true) rfl (by kernel_rfl))) rfl (X.binop rfl (F.ev 98 (.int .i64 (cv l i 3))) (X.kc (.int .i64 0) rfl) (X.geqI Try.underlying3 rfl)) ?_
          clear F ac
          intro ac F
          refine Y.pval F (X.w0 rfl) rfl (X.pickT rfl (F.ev 96 (.bool true)) (F.ev 99 (.bool (decide ((0 : Int) ≤ (cv l i 3)))))) ?_
          clear F ac
          intro ac F
          refine Y.pval F (X.w0 rfl) rfl (X.move rfl (F.ev 100 (.bool (decide ((0 : Int) ≤ (cv l i 3)))))) ?_
          clear F ac
          intro ac F
          cases h43 : decide ((0 : Int) ≤ (cv l i 3)) with
          | false =>
           try rw [h43] at F
           have h43p : ¬ ((0 : Int) ≤ (cv l i 3)) := of_decide_eq_false h43
           refine Y.pskip F (X.w2 rfl (F.yl (j := 14) (d := 101) (b := false) rfl (by kernel_rfl)) rfl) rfl ?_
           clear F ac
           intro ac F
           refine Y.pskip F (X.w2 rfl (F.yl (j := 14) (d := 101) (b := false) rfl (by kernel_rfl)) rfl) rfl ?_
           clear F ac
           intro ac F
           refine Y.pskip F (X.w2 rfl (F.yl (j := 14) (d := 101) (b := false) rfl (by kernel_rfl)) rfl) rfl ?_
           clear F ac
           intro ac F
           refine Y.pskip F (X.w2 rfl (F.yl (j := 14) (d := 101) (b := false) rfl (by kernel_rfl)) rfl) rfl ?_
           clear F ac
           intro ac F
           refine Y.pskip F (X.w2 rfl (F.yl (j := 14) (d := 101) (b := false) rfl (by kernel_rfl)) rfl) rfl ?_
           clear F ac
           intro ac F
           refine Y.pskip F (X.w2 rfl (F.yl (j := 14) (d := 101) (b := false) rfl (by kernel_rfl)) rfl) rfl ?_
           clear F ac
           intro ac F
           refine Y.pval F (X.w0 rfl) rfl (X.pickF rfl (F.ev 101 (.bool false)) (X.kc (.bool false) rfl)) ?_
           clear F ac
           intro ac F
           refine Y.pval F (X.w0 rfl) rfl (X.move rfl (F.ev 108 (.bool false))) ?_
           clear F ac
           intro ac F
           refine Y.pskip F (X.w2 rfl (F.yl (j := 22) (d := 109) (b := false) rfl (by kernel_rfl)) rfl) rfl ?_
           clear F ac
           intro ac F
           refine Y.pskip F (X.w2 rfl (F.yl (j := 22) (d := 109) (b := false) rfl (by kernel_rfl)) rfl) rfl ?_
           clear F ac
           intro ac F
           refine Y.pskip F (X.w2 rfl (F.yl (j := 22) (d := 109) (b := false) rfl (by kernel_rfl)) rfl) rfl ?_
           clear F ac
           intro ac F
           refine Y.pskip F (X.w2 rfl (F.yl (j := 22) (d := 109) (b := false) rfl (by kernel_rfl)) rfl) rfl ?_
           clear F ac
           intro ac F
           refine Y.pval F (X.w0 rfl) rfl (X.pickF rfl (F.ev 109 (.bool false)) (X.kc (.bool false) rfl)) ?_
           clear F ac
           intro ac F
           refine Y.pval F (X.w0 rfl) rfl (X.move rfl (F.ev 114 (.bool false))) ?_
           clear F ac
           intro ac F
           refine Y.pskip F (X.w2 rfl (F.yl (j := 28) (d := 115) (b := false) rfl (by kernel_rfl)) rfl) rfl ?_
           clear F ac
           intro ac F
           refine Y.pskip F (X.w2 rfl (F.yl (j := 28) (d := 115) (b := false) rfl (by kernel_rfl)) rfl) rfl ?_
           clear F ac
           intro ac F
           refine Y.pskip F (X.w2 rfl (F.yl (j := 28) (d := 115) (b := false) rfl (by kernel_rfl)) rfl) rfl ?_
           clear F ac
           intro ac F
           refine Y.pval F (X.w0 rfl) rfl (X.pickF rfl (F.ev 115 (.bool false)) (X.kc (.bool false) rfl)) ?_
           clear F ac
           intro ac F
           refine Y.pval F (X.w0 rfl) rfl (X.move rfl (F.ev 119 (.bool false))) ?_
           clear F ac
           intro ac F
           refine Y.pskip F (X.w2 rfl (F.yl (j := 33) (d := 120) (b := false) rfl (by kernel_rfl)) rfl) rfl ?_
           clear F ac
           intro ac F
           refine Y.pskip F (X.w2 rfl (F.yl (j := 33) (d := 120) (b := false) rfl (by kernel_rfl)) rfl) rfl ?_
           clear F ac
           intro ac F
           refine Y.pskip F (X.w2 rfl (F.yl (j := 33) (d := 120) (b := false) rfl (by kernel_rfl)) rfl) rfl ?_
           clear F ac
           intro ac F
           refine Y.pskip F (X.w2 rfl (F.yl (j := 33) (d := 120) (b := false) rfl (by kernel_rfl)) rfl) rfl ?_
           clear F ac
           intro ac F
           refine Y.pval F (X.w0 rfl) rfl (X.pickF rfl (F.ev 120 (.bool false)) (X.kc (.bool false) rfl)) ?_
           clear F ac
           intro ac F
           refine Y.nil ?_
           replace F : Fr ac 227 [(0, .agg #[.int .i64 gr, .int .i64 hold, .slice na n nc]), (1, .int .i64 u), (2, .slice (some pd39) m lc), (3, .pointer (some ⟨w.heap.size, 0, none⟩)), (6, .bool false), (7, .int .i64 x), (8, .int .i64 d), (9, .int .i64 j), (10, .int .i64 A), (11, v), (12, .int .i64 i), (13, .pointer (some ⟨w13.heap.size, 0, none⟩)), (34, .bool false), (38, .bool false), (52, .bool false), (65, .bool false), (80, .bool true), (125, .bool false)] := F.sub _
           refine X.thenN ?_
           refine Y.condF (F.ev 125 (.bool false)) ?_
           refine Y.skip ?_
           refine X.blockN ?_
           refine X.thenN ?_
           refine Y.lit (by kernel_rfl) ?_
           refine Y.pval F (X.w0 rfl) rfl (X.move rfl (F.ev 12 (.int .i64 i))) ?_
           clear F ac
           intro ac F
           refine Y.pval F (X.w0 rfl) rfl (X.binop rfl (F.ev 81 (.int .i64 i)) (X.kc (.int .i64 1) rfl) (X.addI Try.underlying3 rfl (by omega) (by omega))) ?_
           clear F ac
           intro ac F
           refine Y.pval F (X.w0 rfl) rfl (X.assign rfl (F.ev 82 (.int .i64 ((i : Int) + 1)))) ?_
           clear F ac
           intro ac F
           refine Y.nil ?_
           replace F : Fr ac 227 [(0, .agg #[.int .i64 gr, .int .i64 hold, .slice na n nc]), (1, .int .i64 u), (2, .slice (some pd39) m lc), (3, .pointer (some ⟨w.heap.size, 0, none⟩)), (6, .bool false), (7, .int .i64 x), (8, .int .i64 d), (9, .int .i64 j), (10, .int .i64 A), (11, v), (12, .int .i64 ((i : Int) + 1)), (13, .pointer (some ⟨w13.heap.size, 0, none⟩)), (34, .bool false), (38, .bool false), (52, .bool false), (65, .bool false), (80, .bool true), (125, .bool false)] := F.sub _
           refine X.thenN ?_
           have hw := lossL_take (u := u) (x := x) (d := d) (n := n) (A := A) (l := l) (i := i) (by omega)
           have hnot : ¬ lossB x n A (l[i]?.getD []) = true := fun h => by
            have h1 := lossB_ok h
            have h2 := h1.k
            have h3 := h1.f
            have h4 := h1.a0
            have h5 := h1.a1
            have h6 := h1.ne
            have h7 := h1.t0
            have h8 := h1.t1
            omega
           rw [if_neg hnot, List.append_nil] at hw
           clear hnot
           refine ⟨_, ?_, i + 1, _, rfl, GW, by omega, (by rw [hw]; exact hO), F.sub _⟩
           omega
          | true =>
           try rw [h43] at F
           have h43p : ((0 : Int) ≤ (cv l i 3)) := of_decide_eq_true h43
           refine Y.pval F (X.w1 rfl (F.yl (j := 14) (d := 101) (b := true) rfl (by kernel_rfl))) rfl (X.field rfl (F.ev 13 (.pointer (some ⟨w13.heap.size, 0, none⟩))) (X.fld Try.underlying33 rfl (Try.siz3 _) rfl rfl)) ?_
           clear F ac
           intro ac F
           refine Y.pval F (X.w1 rfl (F.yl (j := 14) (d := 101) (b := true) rfl (by kernel_rfl))) rfl (X.load rfl (F.ev 102 (.pointer (some ⟨w13.heap.size, 3, none⟩))) (X.ld1 (Try.agg3 _) (hC.at 10 rfl))) ?_
           clear F ac
           intro ac F
           refine Y.pval F (X.w1 rfl (F.yl (j := 14) (d := 101) (b := true) rfl (by kernel_rfl))) rfl (X.field rfl (F.ev 3 (.pointer (some ⟨w.heap.size, 0, none⟩))) (X.fld Try.underlying24 rfl (Try.siz22 _) rfl rfl)) ?_
           clear F ac
           intro ac F
           refine Y.pval F (X.w1 rfl (F.yl (j := 14) (d := 101) (b := true) rfl (by kernel_rfl))) rfl (X.load rfl (F.ev 104 (.pointer (some ⟨w.heap.size, 2, none⟩))) (X.ld1 (Try.agg22 _) (hC.at 2 rfl))) ?_
           clear F ac
           intro ac F
           refine Y.pval F (X.w1 rfl (F.yl (j := 14) (d := 101) (b := true) rfl (by kernel_rfl))) rfl (X.len1 Try.underlying22 rfl (F.ev 105 (.slice na n nc))) ?_
           clear F ac
           intro ac F
           refine Y.pval F (X.w1 rfl (F.yl (j := 14) (d := 101) (b := true) rfl (by kernel_rfl))) rfl (X.binop rfl (F.ev 103 (.int .i64 (cv l i 3))) (F.ev 106 (.int .i64 n)) (X.lssI Try.underlying3 rfl)) ?_
           clear F ac
           intro ac F
           refine Y.pval F (X.w0 rfl) rfl (X.pickT rfl (F.ev 101 (.bool true)) (F.ev 107 (.bool (decide ((cv l i 3 : Int) < n))))) ?_
           clear F ac
           intro ac F
           refine Y.pval F (X.w0 rfl) rfl (X.move rfl (F.ev 108 (.bool (decide ((cv l i 3 : Int) < n))))) ?_
           clear F ac
           intro ac F
           cases h44 : decide ((cv l i 3 : Int) < n) with
           | false =>
            try rw [h44] at F
            have h44p : ¬ ((cv l i 3 : Int) < n) := of_decide_eq_false h44
            refine Y.pskip F (X.w2 rfl (F.yl (j := 22) (d := 109) (b := false) rfl (by kernel_rfl)) rfl) rfl ?_
            clear F ac
            intro ac F
            refine Y.pskip F (X.w2 rfl (F.yl (j := 22) (d := 109) (b := false) rfl (by kernel_rfl)) rfl) rfl ?_
            clear F ac
            intro ac F
            refine Y.pskip F (X.w2 rfl (F.yl (j := 22) (d := 109) (b := false) rfl (by kernel_rfl)) rfl) rfl ?_
            clear F ac
            intro ac F
            refine Y.pskip F (X.w2 rfl (F.yl (j := 22) (d := 109) (b := false) rfl (by kernel_rfl)) rfl) rfl ?_
            clear F ac
            intro ac F
            refine Y.pval F (X.w0 rfl) rfl (X.pickF rfl (F.ev 109 (.bool false)) (X.kc (.bool false) rfl)) ?_
            clear F ac
            intro ac F
            refine Y.pval F (X.w0 rfl) rfl (X.move rfl (F.ev 114 (.bool false))) ?_
            clear F ac
            intro ac F
            refine Y.pskip F (X.w2 rfl (F.yl (j := 28) (d := 115) (b := false) rfl (by kernel_rfl)) rfl) rfl ?_
            clear F ac
            intro ac F
            refine Y.pskip F (X.w2 rfl (F.yl (j := 28) (d := 115) (b := false) rfl (by kernel_rfl)) rfl) rfl ?_
            clear F ac
            intro ac F
            refine Y.pskip F (X.w2 rfl (F.yl (j := 28) (d := 115) (b := false) rfl (by kernel_rfl)) rfl) rfl ?_
            clear F ac
            intro ac F
            refine Y.pval F (X.w0 rfl) rfl (X.pickF rfl (F.ev 115 (.bool false)) (X.kc (.bool false) rfl)) ?_
            clear F ac
            intro ac F
            refine Y.pval F (X.w0 rfl) rfl (X.move rfl (F.ev 119 (.bool false))) ?_
            clear F ac
            intro ac F
            refine Y.pskip F (X.w2 rfl (F.yl (j := 33) (d := 120) (b := false) rfl (by kernel_rfl)) rfl) rfl ?_
            clear F ac
            intro ac F
            refine Y.pskip F (X.w2 rfl (F.yl (j := 33) (d := 120) (b := false) rfl (by kernel_rfl)) rfl) rfl ?_
            clear F ac
            intro ac F
            refine Y.pskip F (X.w2 rfl (F.yl (j := 33) (d := 120) (b := false) rfl (by kernel_rfl)) rfl) rfl ?_
            clear F ac
            intro ac F
            refine Y.pskip F (X.w2 rfl (F.yl (j := 33) (d := 120) (b := false) rfl (by kernel_rfl)) rfl) rfl ?_
            clear F ac
            intro ac F
            refine Y.pval F (X.w0 rfl) rfl (X.pickF rfl (F.ev 120 (.bool false)) (X.kc (.bool false) rfl)) ?_
            clear F ac
            intro ac F
            refine Y.nil ?_
            replace F : Fr ac 227 [(0, .agg #[.int .i64 gr, .int .i64 hold, .slice na n nc]), (1, .int .i64 u), (2, .slice (some pd39) m lc), (3, .pointer (some ⟨w.heap.size, 0, none⟩)), (6, .bool false), (7, .int .i64 x), (8, .int .i64 d), (9, .int .i64 j), (10, .int .i64 A), (11, v), (12, .int .i64 i), (13, .pointer (some ⟨w13.heap.size, 0, none⟩)), (34, .bool false), (38, .bool false), (52, .bool false), (65, .bool false), (80, .bool true), (125, .bool false)] := F.sub _
            refine X.thenN ?_
            refine Y.condF (F.ev 125 (.bool false)) ?_
            refine Y.skip ?_
            refine X.blockN ?_
            refine X.thenN ?_
            refine Y.lit (by kernel_rfl) ?_
            refine Y.pval F (X.w0 rfl) rfl (X.move rfl (F.ev 12 (.int .i64 i))) ?_
            clear F ac
            intro ac F
            refine Y.pval F (X.w0 rfl) rfl (X.binop rfl (F.ev 81 (.int .i64 i)) (X.kc (.int .i64 1) rfl) (X.addI Try.underlying3 rfl (by omega) (by omega))) ?_
            clear F ac
            intro ac F
            refine Y.pval F (X.w0 rfl) rfl (X.assign rfl (F.ev 82 (.int .i64 ((i : Int) + 1)))) ?_
            clear F ac
            intro ac F
            refine Y.nil ?_
            replace F : Fr ac 227 [(0, .agg #[.int .i64 gr, .int .i64 hold, .slice na n nc]), (1, .int .i64 u), (2, .slice (some pd39) m lc), (3, .pointer (some ⟨w.heap.size, 0, none⟩)), (6, .bool false), (7, .int .i64 x), (8, .int .i64 d), (9, .int .i64 j), (10, .int .i64 A), (11, v), (12, .int .i64 ((i : Int) + 1)), (13, .pointer (some ⟨w13.heap.size, 0, none⟩)), (34, .bool false), (38, .bool false), (52, .bool false), (65, .bool false), (80, .bool true), (125, .bool false)] := F.sub _
            refine X.thenN ?_
            have hw := lossL_take (u := u) (x := x) (d := d) (n := n) (A := A) (l := l) (i := i) (by omega)
            have hnot : ¬ lossB x n A (l[i]?.getD []) = true := fun h => by
             have h1 := lossB_ok h
             have h2 := h1.k
             have h3 := h1.f
             have h4 := h1.a0
             have h5 := h1.a1
             have h6 := h1.ne
             have h7 := h1.t0
             have h8 := h1.t1
             omega
            rw [if_neg hnot, List.append_nil] at hw
            clear hnot
            refine ⟨_, ?_, i + 1, _, rfl, GW, by omega, (by rw [hw]; exact hO), F.sub _⟩
            omega
           | true =>
            try rw [h44] at F
            have h44p : ((cv l i 3 : Int) < n) := of_decide_eq_true h44
            refine Y.pval F (X.w1 rfl (F.yl (j := 22) (d := 109) (b := true) rfl (by kernel_rfl))) rfl (X.field rfl (F.ev 13 (.pointer (some ⟨w13.heap.size, 0, none⟩))) (X.fld Try.underlying33 rfl (Try.siz3 _) rfl rfl)) ?_
            clear F ac
            intro ac F
            refine Y.pval F (X.w1 rfl (F.yl (j := 22) (d := 109) (b := true) rfl (by kernel_rfl))) rfl (X.load rfl (F.ev 110 (.pointer (some ⟨w13.heap.size, 3, none⟩))) (X.ld1 (Try.agg3 _) (hC.at 10 rfl))) ?_
            clear F ac
            intro ac F
            refine Y.pval F (X.w1 rfl (F.yl (j := 22) (d := 109) (b := true) rfl (by kernel_rfl))) rfl (X.move rfl (F.ev 7 (.int .i64 x))) ?_
            clear F ac
            intro ac F
            refine Y.pval F (X.w1 rfl (F.yl (j := 22) (d := 109) (b := true) rfl (by kernel_rfl))) rfl (X.binop rfl (F.ev 111 (.int .i64 (cv l i 3))) (F.ev 112 (.int .i64 x)) (X.neqI Try.underlying3 rfl)) ?_
            clear F ac
            intro ac F
            refine Y.pval F (X.w0 rfl) rfl (X.pickT rfl (F.ev 109 (.bool true)) (F.ev 113 (.bool ((cv l i 3 : Int) != x)))) ?_
            clear F ac
            intro ac F
            refine Y.pval F (X.w0 rfl) rfl (X.move rfl (F.ev 114 (.bool ((cv l i 3 : Int) != x)))) ?_
            clear F ac
            intro ac F
            cases h45 : ((cv l i 3 : Int) != x) with
            | false =>
             try rw [h45] at F
             have h45p : (cv l i 3 : Int) = x := by simpa using h45
             refine Y.pskip F (X.w2 rfl (F.yl (j := 28) (d := 115) (b := false) rfl (by kernel_rfl)) rfl) rfl ?_
             clear F ac
             intro ac F
             refine Y.pskip F (X.w2 rfl (F.yl (j := 28) (d := 115) (b := false) rfl (by kernel_rfl)) rfl) rfl ?_
             clear F ac
             intro ac F
             refine Y.pskip F (X.w2 rfl (F.yl (j := 28) (d := 115) (b := false) rfl (by kernel_rfl)) rfl) rfl ?_
             clear F ac
             intro ac F
             refine Y.pval F (X.w0 rfl) rfl (X.pickF rfl (F.ev 115 (.bool false)) (X.kc (.bool false) rfl)) ?_
             clear F ac
             intro ac F
             refine Y.pval F (X.w0 rfl) rfl (X.move rfl (F.ev 119 (.bool false))) ?_
             clear F ac
             intro ac F
             refine Y.pskip F (X.w2 rfl (F.yl (j := 33) (d := 120) (b := false) rfl (by kernel_rfl)) rfl) rfl ?_
             clear F ac
             intro ac F
             refine Y.pskip F (X.w2 rfl (F.yl (j := 33) (d := 120) (b := false) rfl (by kernel_rfl)) rfl) rfl ?_
             clear F ac
             intro ac F
             refine Y.pskip F (X.w2 rfl (F.yl (j := 33) (d := 120) (b := false) rfl (by kernel_rfl)) rfl) rfl ?_
             clear F ac
             intro ac F
             refine Y.pskip F (X.w2 rfl (F.yl (j := 33) (d := 120) (b := false) rfl (by kernel_rfl)) rfl) rfl ?_
             clear F ac
             intro ac F
             refine Y.pval F (X.w0 rfl) rfl (X.pickF rfl (F.ev 120 (.bool false)) (X.kc (.bool false) rfl)) ?_
             clear F ac
             intro ac F
             refine Y.nil ?_
             replace F : Fr ac 227 [(0, .agg #[.int .i64 gr, .int .i64 hold, .slice na n nc]), (1, .int .i64 u), (2, .slice (some pd39) m lc), (3, .pointer (some ⟨w.heap.size, 0, none⟩)), (6, .bool false), (7, .int .i64 x), (8, .int .i64 d), (9, .int .i64 j), (10, .int .i64 A), (11, v), (12, .int .i64 i), (13, .pointer (some ⟨w13.heap.size, 0, none⟩)), (34, .bool false), (38, .bool false), (52, .bool false), (65, .bool false), (80, .bool true), (125, .bool false)] := F.sub _
             refine X.thenN ?_
             refine Y.condF (F.ev 125 (.bool false)) ?_
             refine Y.skip ?_
             refine X.blockN ?_
             refine X.thenN ?_
             refine Y.lit (by kernel_rfl) ?_
             refine Y.pval F (X.w0 rfl) rfl (X.move rfl (F.ev 12 (.int .i64 i))) ?_
             clear F ac
             intro ac F
             refine Y.pval F (X.w0 rfl) rfl (X.binop rfl (F.ev 81 (.int .i64 i)) (X.kc (.int .i64 1) rfl) (X.addI Try.underlying3 rfl (by omega) (by omega))) ?_
             clear F ac
             intro ac F
             refine Y.pval F (X.w0 rfl) rfl (X.assign rfl (F.ev 82 (.int .i64 ((i : Int) + 1)))) ?_
             clear F ac
             intro ac F
             refine Y.nil ?_
             replace F : Fr ac 227 [(0, .agg #[.int .i64 gr, .int .i64 hold, .slice na n nc]), (1, .int .i64 u), (2, .slice (some pd39) m lc), (3, .pointer (some ⟨w.heap.size, 0, none⟩)), (6, .bool false), (7, .int .i64 x), (8, .int .i64 d), (9, .int .i64 j), (10, .int .i64 A), (11, v), (12, .int .i64 ((i : Int) + 1)), (13, .pointer (some ⟨w13.heap.size, 0, none⟩)), (34, .bool false), (38, .bool false), (52, .bool false), (65, .bool false), (80, .bool true), (125, .bool false)] := F.sub _
             refine X.thenN ?_
             have hw := lossL_take (u := u) (x := x) (d := d) (n := n) (A := A) (l := l) (i := i) (by omega)
             have hnot : ¬ lossB x n A (l[i]?.getD []) = true := fun h => by
              have h1 := lossB_ok h
              have h2 := h1.k
              have h3 := h1.f
              have h4 := h1.a0
              have h5 := h1.a1
              have h6 := h1.ne
              have h7 := h1.t0
              have h8 := h1.t1
              omega
             rw [if_neg hnot, List.append_nil] at hw
             clear hnot
             refine ⟨_, ?_, i + 1, _, rfl, GW, by omega, (by rw [hw]; exact hO), F.sub _⟩
             omega
            | true =>
             try rw [h45] at F
             have h45p : ¬ (cv l i 3 : Int) = x := by simpa using h45
             refine Y.pval F (X.w1 rfl (F.yl (j := 28) (d := 115) (b := true) rfl (by kernel_rfl))) rfl (X.field rfl (F.ev 13 (.pointer (some ⟨w13.heap.size, 0, none⟩))) (X.fld Try.underlying33 rfl (Try.siz3 _) rfl rfl)) ?_
             clear F ac
             intro ac F
             refine Y.pval F (X.w1 rfl (F.yl (j := 28) (d := 115) (b := true) rfl (by kernel_rfl))) rfl (X.load rfl (F.ev 116 (.pointer (some ⟨w13.heap.size, 0, none⟩))) (X.ld1 (Try.agg3 _) (hC.at 7 rfl))) ?_
             clear F ac
             intro ac F
             refine Y.pval F (X.w1 rfl (F.yl (j := 28) (d := 115) (b := true) rfl (by kernel_rfl))) rfl (X.binop rfl (F.ev 117 (.int .i64 (cv l i 0))) (X.kc (.int .i64 0) rfl) (X.geqI Try.underlying3 rfl)) ?_
             clear F ac
             intro ac F
             refine Y.pval F (X.w0 rfl) rfl (X.pickT rfl (F.ev 115 (.bool true)) (F.ev 118 (.bool (decide ((0 : Int) ≤ (cv l i 0)))))) ?_
             clear F ac
             intro ac F
             refine Y.pval F (X.w0 rfl) rfl (X.move rfl (F.ev 119 (.bool (decide ((0 : Int) ≤ (cv l i 0)))))) ?_
             clear F ac
             intro ac F
             cases h46 : decide ((0 : Int) ≤ (cv l i 0)) with
             | false =>
              try rw [h46] at F
              have h46p : ¬ ((0 : Int) ≤ (cv l i 0)) := of_decide_eq_false h46
              refine Y.pskip F (X.w2 rfl (F.yl (j := 33) (d := 120) (b := false) rfl (by kernel_rfl)) rfl) rfl ?_
              clear F ac
              intro ac F
              refine Y.pskip F (X.w2 rfl (F.yl (j := 33) (d := 120) (b := false) rfl (by kernel_rfl)) rfl) rfl ?_
              clear F ac
              intro ac F
              refine Y.pskip F (X.w2 rfl (F.yl (j := 33) (d := 120) (b := false) rfl (by kernel_rfl)) rfl) rfl ?_
              clear F ac
              intro ac F
              refine Y.pskip F (X.w2 rfl (F.yl (j := 33) (d := 120) (b := false) rfl (by kernel_rfl)) rfl) rfl ?_
              clear F ac
              intro ac F
              refine Y.pval F (X.w0 rfl) rfl (X.pickF rfl (F.ev 120 (.bool false)) (X.kc (.bool false) rfl)) ?_
              clear F ac
              intro ac F
              refine Y.nil ?_
              replace F : Fr ac 227 [(0, .agg #[.int .i64 gr, .int .i64 hold, .slice na n nc]), (1, .int .i64 u), (2, .slice (some pd39) m lc), (3, .pointer (some ⟨w.heap.size, 0, none⟩)), (6, .bool false), (7, .int .i64 x), (8, .int .i64 d), (9, .int .i64 j), (10, .int .i64 A), (11, v), (12, .int .i64 i), (13, .pointer (some ⟨w13.heap.size, 0, none⟩)), (34, .bool false), (38, .bool false), (52, .bool false), (65, .bool false), (80, .bool true), (125, .bool false)] := F.sub _
              refine X.thenN ?_
              refine Y.condF (F.ev 125 (.bool false)) ?_
              refine Y.skip ?_
              refine X.blockN ?_
              refine X.thenN ?_
              refine Y.lit (by kernel_rfl) ?_
              refine Y.pval F (X.w0 rfl) rfl (X.move rfl (F.ev 12 (.int .i64 i))) ?_
              clear F ac
              intro ac F
              refine Y.pval F (X.w0 rfl) rfl (X.binop rfl (F.ev 81 (.int .i64 i)) (X.kc (.int .i64 1) rfl) (X.addI Try.underlying3 rfl (by omega) (by omega))) ?_
              clear F ac
              intro ac F
              refine Y.pval F (X.w0 rfl) rfl (X.assign rfl (F.ev 82 (.int .i64 ((i : Int) + 1)))) ?_
              clear F ac
              intro ac F
              refine Y.nil ?_
              replace F : Fr ac 227 [(0, .agg #[.int .i64 gr, .int .i64 hold, .slice na n nc]), (1, .int .i64 u), (2, .slice (some pd39) m lc), (3, .pointer (some ⟨w.heap.size, 0, none⟩)), (6, .bool false), (7, .int .i64 x), (8, .int .i64 d), (9, .int .i64 j), (10, .int .i64 A), (11, v), (12, .int .i64 ((i : Int) + 1)), (13, .pointer (some ⟨w13.heap.size, 0, none⟩)), (34, .bool false), (38, .bool false), (52, .bool false), (65, .bool false), (80, .bool true), (125, .bool false)] := F.sub _
              refine X.thenN ?_
              have hw := lossL_take (u := u) (x := x) (d := d) (n := n) (A := A) (l := l) (i := i) (by omega)
              have hnot : ¬ lossB x n A (l[i]?.getD []) = true := fun h => by
               have h1 := lossB_ok h
               have h2 := h1.k
               have h3 := h1.f
               have h4 := h1.a0
               have h5 := h1.a1
               have h6 := h1.ne
               have h7 := h1.t0
               have h8 := h1.t1
               omega
              rw [if_neg hnot, List.append_nil] at hw
              clear hnot
              refine ⟨_, ?_, i + 1, _, rfl, GW, by omega, (by rw [hw]; exact hO), F.sub _⟩
              omega
             | true =>
              try rw [h46] at F
              have h46p : ((0 : Int) ≤ (cv l i 0)) := of_decide_eq_true h46
              refine Y.pval F (X.w1 rfl (F.yl (j := 33) (d := 120) (b := true) rfl (by kernel_rfl))) rfl (X.field rfl (F.ev 13 (.pointer (some ⟨w13.heap.size, 0, none⟩))) (X.fld Try.underlying33 rfl (Try.siz3 _) rfl rfl)) ?_
              clear F ac
              intro ac F
              refine Y.pval F (X.w1 rfl (F.yl (j := 33) (d := 120) (b := true) rfl (by kernel_rfl))) rfl (X.load rfl (F.ev 121 (.pointer (some ⟨w13.heap.size, 0, none⟩))) (X.ld1 (Try.agg3 _) (hC.at 7 rfl))) ?_
              clear F ac
              intro ac F
              refine Y.pval F (X.w1 rfl (F.yl (j := 33) (d := 120) (b := true) rfl (by kernel_rfl))) rfl (X.move rfl (F.ev 10 (.int .i64 A))) ?_
              clear F ac
              intro ac F
              refine Y.pval F (X.w1 rfl (F.yl (j := 33) (d := 120) (b := true) rfl (by kernel_rfl))) rfl (X.binop rfl (F.ev 122 (.int .i64 (cv l i 0))) (F.ev 123 (.int .i64 A)) (X.leqI Try.underlying3 rfl)) ?_
              clear F ac
              intro ac F
              refine Y.pval F (X.w0 rfl) rfl (X.pickT rfl (F.ev 120 (.bool true)) (F.ev 124 (.bool (decide ((cv l i 0 : Int) ≤ A))))) ?_
              clear F ac
              intro ac F
              refine Y.nil ?_
              replace F : Fr ac 227 [(0, .agg #[.int .i64 gr, .int .i64 hold, .slice na n nc]), (1, .int .i64 u), (2, .slice (some pd39) m lc), (3, .pointer (some ⟨w.heap.size, 0, none⟩)), (6, .bool false), (7, .int .i64 x), (8, .int .i64 d), (9, .int .i64 j), (10, .int .i64 A), (11, v), (12, .int .i64 i), (13, .pointer (some ⟨w13.heap.size, 0, none⟩)), (34, .bool false), (38, .bool false), (52, .bool false), (65, .bool false), (80, .bool true), (125, .bool (decide ((cv l i 0 : Int) ≤ A)))] := F.sub _
              refine X.thenN ?_
              cases h47 : decide ((cv l i 0 : Int) ≤ A) with
              | false =>
               try rw [h47] at F
               have h47p : ¬ ((cv l i 0 : Int) ≤ A) := of_decide_eq_false h47
               refine Y.condF (F.ev 125 (.bool false)) ?_
               refine Y.skip ?_
               refine X.blockN ?_
               refine X.thenN ?_
               refine Y.lit (by kernel_rfl) ?_
               refine Y.pval F (X.w0 rfl) rfl (X.move rfl (F.ev 12 (.int .i64 i))) ?_
               clear F ac
               intro ac F
               refine Y.pval F (X.w0 rfl) rfl (X.binop rfl (F.ev 81 (.int .i64 i)) (X.kc (.int .i64 1) rfl) (X.addI Try.underlying3 rfl (by omega) (by omega))) ?_
               clear F ac
               intro ac F
               refine Y.pval F (X.w0 rfl) rfl (X.assign rfl (F.ev 82 (.int .i64 ((i : Int) + 1)))) ?_
               clear F ac
               intro ac F
               refine Y.nil ?_
               replace F : Fr ac 227 [(0, .agg #[.int .i64 gr, .int .i64 hold, .slice na n nc]), (1, .int .i64 u), (2, .slice (some pd39) m lc), (3, .pointer (some ⟨w.heap.size, 0, none⟩)), (6, .bool false), (7, .int .i64 x), (8, .int .i64 d), (9, .int .i64 j), (10, .int .i64 A), (11, v), (12, .int .i64 ((i : Int) + 1)), (13, .pointer (some ⟨w13.heap.size, 0, none⟩)), (34, .bool false), (38, .bool false), (52, .bool false), (65, .bool false), (80, .bool true), (125, .bool false)] := F.sub _
               refine X.thenN ?_
               have hw := lossL_take (u := u) (x := x) (d := d) (n := n) (A := A) (l := l) (i := i) (by omega)
               have hnot : ¬ lossB x n A (l[i]?.getD []) = true := fun h => by
                have h1 := lossB_ok h
                have h2 := h1.k
                have h3 := h1.f
                have h4 := h1.a0
                have h5 := h1.a1
                have h6 := h1.ne
                have h7 := h1.t0
                have h8 := h1.t1
                omega
               rw [if_neg hnot, List.append_nil] at hw
               clear hnot
               refine ⟨_, ?_, i + 1, _, rfl, GW, by omega, (by rw [hw]; exact hO), F.sub _⟩
               omega
              | true =>
               try rw [h47] at F
               have h47p : ((cv l i 0 : Int) ≤ A) := of_decide_eq_true h47
               refine Y.condT (F.ev 125 (.bool true)) ?_
               refine Y.lit (by kernel_rfl) ?_
               refine Y.pval F (X.w0 rfl) rfl (X.move rfl (F.ev 11 (v))) ?_
               clear F ac
               intro ac F
               refine Y.pval F (X.w0 rfl) rfl (X.load rfl (F.ev 13 (.pointer (some ⟨w13.heap.size, 0, none⟩))) (X.ldN (Try.agg33 _) (Try.siz33 _) (Y.atz (⟨w13.heap.size, 0, none⟩) (Y.AtFrom.cons (hC.at 7 rfl) (Y.AtFrom.cons (hC.at 8 rfl) (Y.AtFrom.cons (hC.at 9 rfl) (Y.AtFrom.cons (hC.at 10 rfl) (Y.AtFrom.nil _ _ _)))))))) ?_
               clear F ac
               intro ac F
               refine Y.pval F (X.w0 rfl) rfl (X.bs rfl (X.b1 (F.ev 127 (.agg #[.int .i64 (cv l i 0), .int .i64 (cv l i 1), .int .i64 (cv l i 2), .int .i64 (cv l i 3)]))) (Try.bs25 (cv l i 0) (cv l i 1) (cv l i 2) (cv l i 3) _)) ?_
               clear F ac
               intro ac F
               have g := Gr.alloc w40 (.cells #[.int .i64 (cv l i 0), .int .i64 (cv l i 1), .int .i64 (cv l i 2), .int .i64 (cv l i 3)] 33)
               have hb := heap_alloc_new w40 (.cells #[.int .i64 (cv l i 0), .int .i64 (cv l i 1), .int .i64 (cv l i 2), .int .i64 (cv l i 3)] 33)
               have hbl : w40.heap.size < (w40.alloc (.cells #[.int .i64 (cv l i 0), .int .i64 (cv l i 1), .int .i64 (cv l i 2), .int .i64 (cv l i 3)] 33)).heap.size := by simp
               generalize w40.alloc (.cells #[.int .i64 (cv l i 0), .int .i64 (cv l i 1), .int .i64 (cv l i 2), .int .i64 (cv l i 3)] 33) = w48 at *
               replace G := G.trans g
               replace hC := hC.gr g
               replace GW := GW.trans g
               replace hnd := hnd.gr g
               replace hl := hl.gr g
               replace hO := hO.gr g
               have hbk := hb
               clear g hb hbl
               refine Y.wpL_plain rfl fun _ hK => wp_pushV Try.underlying25 Try.info33 rfl (by decide) rfl (F.ev 126 (v)) (F.ev 128 (.slice (some ⟨w40.heap.size, 0, none⟩) 1 1)) hO (m := 1) (news := [.int .i64 (cv l i 0), .int .i64 (cv l i 1), .int .i64 (cv l i 2), .int .i64 (cv l i 3)]) rfl (cells_at (vs := [.int .i64 (cv l i 0), .int .i64 (cv l i 1), .int .i64 (cv l i 2), .int .i64 (cv l i 3)]) hbk) rfl (by have := loss_len (u := u) (x := x) (d := d) (n := n) (A := A) (l := l.take i); rw [List.length_take] at this; omega) (by decide) GW.size (fun v_w49 w49 hO' hon hat => hK _ _ ?_)
               refine Y.pput F rfl ?_
               clear F ac hbk
               intro ac F
               have hge := fun b e => (hO.ge (b := b) e).1
               replace GW := GW.own hon hge
               clear hO hge hon hat
               have hO := hO'
               clear hO'
               replace G := G0_.trans GW
               replace hnd := hnd0.gr GW
               have hl := hl0.gr GW
               replace hC := hC0.gr GW
               refine Y.pval F (X.w0 rfl) rfl (X.assign rfl (F.ev 129 (v_w49))) ?_
               clear F ac
               intro ac F
               refine Y.nil ?_
               replace F : Fr ac 227 [(0, .agg #[.int .i64 gr, .int .i64 hold, .slice na n nc]), (1, .int .i64 u), (2, .slice (some pd39) m lc), (3, .pointer (some ⟨w.heap.size, 0, none⟩)), (6, .bool false), (7, .int .i64 x), (8, .int .i64 d), (9, .int .i64 j), (10, .int .i64 A), (11, v_w49), (12, .int .i64 i), (13, .pointer (some ⟨w13.heap.size, 0, none⟩)), (34, .bool false), (38, .bool false), (52, .bool false), (65, .bool false), (80, .bool true), (125, .bool true)] := F.sub _
               refine X.blockN ?_
               refine X.thenN ?_
               refine Y.lit (by kernel_rfl) ?_
               refine Y.pval F (X.w0 rfl) rfl (X.move rfl (F.ev 12 (.int .i64 i))) ?_
               clear F ac
               intro ac F
               refine Y.pval F (X.w0 rfl) rfl (X.binop rfl (F.ev 81 (.int .i64 i)) (X.kc (.int .i64 1) rfl) (X.addI Try.underlying3 rfl (by omega) (by omega))) ?_
               clear F ac
               intro ac F
               refine Y.pval F (X.w0 rfl) rfl (X.assign rfl (F.ev 82 (.int .i64 ((i : Int) + 1)))) ?_
               clear F ac
               intro ac F
               refine Y.nil ?_
               replace F : Fr ac 227 [(0, .agg #[.int .i64 gr, .int .i64 hold, .slice na n nc]), (1, .int .i64 u), (2, .slice (some pd39) m lc), (3, .pointer (some ⟨w.heap.size, 0, none⟩)), (6, .bool false), (7, .int .i64 x), (8, .int .i64 d), (9, .int .i64 j), (10, .int .i64 A), (11, v_w49), (12, .int .i64 ((i : Int) + 1)), (13, .pointer (some ⟨w13.heap.size, 0, none⟩)), (34, .bool false), (38, .bool false), (52, .bool false), (65, .bool false), (80, .bool true), (125, .bool true)] := F.sub _
               refine X.thenN ?_
               have hw := lossL_take (u := u) (x := x) (d := d) (n := n) (A := A) (l := l) (i := i) (by omega)
               refine ⟨_, ?_, i + 1, _, rfl, GW, by omega, (by rw [if_pos (show lossB x n A (l[i]?.getD []) = true from lossB_of (by omega) (by omega) (by omega) (by omega) (by omega) (by omega) (by omega))] at hw; rw [hw, flat4_snoc, List.length_append]; exact hO), F.sub _⟩
               omega
      | true =>
       try rw [h11] at F
       have h11p : ((gp : Int) < 0) := of_decide_eq_true h11
       refine Y.condT (F.ev 65 (.bool true)) ?_
       refine Y.seq ?_
       refine Y.lit (by kernel_rfl) ?_
       refine Y.pcall F (X.w0 rfl) rfl (X.enter (F := 16) rfl (X.kc (.func (.func 16) #[] #[]) rfl) rfl (enters_of Try.func16 (by kernel_rfl) rfl _)) (works_any w9) ?_
       clear F ac
       rintro e w51 ⟨rfl, g⟩
       refine ⟨_, rfl, ?_⟩
       intro ac F
       replace G := G.trans g
       replace hC := hC.gr g
       replace GB_ := GB_.trans g
       replace hnd := hnd.gr g
       replace hl := hl.gr g
       clear g
       refine Y.pval F (X.w0 rfl) rfl (X.assign rfl (F.ev 66 (.bool true))) ?_
       clear F ac
       intro ac F
       refine Y.nil ?_
       replace F : Fr ac 227 [(0, .agg #[.int .i64 gr, .int .i64 hold, .slice na n nc]), (1, .int .i64 u), (2, .slice la m lc), (3, .pointer (some ⟨w.heap.size, 0, none⟩)), (6, .bool true), (7, .int .i64 x), (8, .int .i64 gp), (9, .int .i64 j), (34, .bool false), (38, .bool false), (52, .bool false), (65, .bool true)] := F.sub _
       refine X.thenN ?_
       refine Y.ret ?_
       refine X.thenR ?_
       exact Y.ret0 (v := .bool true) F (Y.rs1 F rfl (by kernel_rfl)) ⟨rfl, G⟩
     | true =>
      try rw [h10] at F
      have h10p : ((j : Int) < gr) := of_decide_eq_true h10
      refine Y.condT (F.ev 52 (.bool true)) ?_
      refine Y.skip ?_
      refine X.thenN ?_
      refine Y.seq ?_
      refine Y.block ?_
      refine Y.seq ?_
      refine Y.lit (by kernel_rfl) ?_
      refine Y.pval F (X.w0 rfl) rfl (X.field rfl (F.ev 3 (.pointer (some ⟨w.heap.size, 0, none⟩))) (X.fld Try.underlying24 rfl (Try.siz22 _) rfl rfl)) ?_
      clear F ac
      intro ac F
      refine Y.pval F (X.w0 rfl) rfl (X.load rfl (F.ev 55 (.pointer (some ⟨w.heap.size, 2, none⟩))) (X.ld1 (Try.agg22 _) (hC.at 2 rfl))) ?_
      clear F ac
      intro ac F
      refine Y.pval F (X.w0 rfl) rfl (X.move rfl (F.ev 7 (.int .i64 x))) ?_
      clear F ac
      intro ac F
      obtain ⟨pd52, pe52, -, -, pc52⟩ := hnd.at (j := x) (by omega)
      subst pe52
      replace hC : RCells w9 [(⟨w.heap.size, 0, none⟩, .int .i64 gr), (⟨w.heap.size, 1, none⟩, .int .i64 hold), (⟨w.heap.size, 2, none⟩, .slice (some pd52) n nc), (pd52.add (x * 5), .int .i64 (cv nd x 0)), (⟨(pd52.add (x * 5)).block, (pd52.add (x * 5)).off + 1, none⟩, .int .i64 (cv nd x 1)), (⟨(pd52.add (x * 5)).block, (pd52.add (x * 5)).off + 2, none⟩, .int .i64 (cv nd x 2)), (⟨(pd52.add (x * 5)).block, (pd52.add (x * 5)).off + 3, none⟩, .int .i64 (cv nd x 3)), (⟨(pd52.add (x * 5)).block, (pd52.add (x * 5)).off + 4, none⟩, .int .i64 (cv nd x 4))] := hC.append ((RCells.cons (pc52 0 (by decide)) (RCells.cons (pc52 1 (by decide)) (RCells.cons (pc52 2 (by decide)) (RCells.cons (pc52 3 (by decide)) (RCells.cons (pc52 4 (by decide)) (RCells.nil _)))))))
      clear pc52
      refine Y.pval F (X.w0 rfl) rfl (X.index rfl (F.ev 56 (.slice (some pd52) n nc)) (F.ev 57 (.int .i64 x)) (X.idx (k := x) Try.underlying22 (Try.siz31 _) (by omega) (by omega) rfl)) ?_
      clear F ac
      intro ac F
      refine Y.pval F (X.w0 rfl) rfl (X.field rfl (F.ev 58 (.pointer (some (pd52.add (x * 5))))) (X.fld Try.underlying31 rfl (Try.siz3 _) rfl rfl)) ?_
      clear F ac
      intro ac F
      refine Y.pval F (X.w0 rfl) rfl (X.load rfl (F.ev 59 (.pointer (some (pd52.add (x * 5))))) (X.ld1 (Try.agg3 _) (hC.at 3 rfl))) ?_
      clear F ac
      intro ac F
      refine Y.pval F (X.w0 rfl) rfl (X.move rfl (F.ev 9 (.int .i64 j))) ?_
      clear F ac
      intro ac F
      refine Y.pcall F (X.w0 rfl) rfl (X.enter (F := 17) rfl (X.kc (.func (.func 17) #[] #[]) rfl) (X.a2 (F.ev 60 (.int .i64 (cv nd x 0))) (F.ev 61 (.int .i64 j))) (enters_of Try.func17 (by kernel_rfl) rfl _)) (bit_any (cv nd x 0) j w9 (by omega)) ?_
      clear F ac
      rintro e w' ⟨rfl, hw_⟩
      obtain rfl : w9 = w' := hw_.symm
      clear hw_
      refine ⟨_, rfl, ?_⟩
      intro ac F
      refine Y.nil ?_
      replace F : Fr ac 227 [(0, .agg #[.int .i64 gr, .int .i64 hold, .slice (some pd52) n nc]), (1, .int .i64 u), (2, .slice la m lc), (3, .pointer (some ⟨w.heap.size, 0, none⟩)), (6, .bool false), (7, .int .i64 x), (8, .int .i64 gp), (9, .int .i64 j), (34, .bool false), (38, .bool false), (52, .bool true), (62, .bool (bitB (cv nd x 0) j))] := F.sub _
      refine X.thenN ?_
      cases h53 : bitB (cv nd x 0) j with
      | false =>
       try rw [h53] at F
       refine Y.condF (F.ev 62 (.bool false)) ?_
       refine Y.skip ?_
       refine X.blockN ?_
       refine X.thenN ?_
       refine Y.lit (by kernel_rfl) ?_
       refine Y.pval F (X.w0 rfl) rfl (X.move rfl (F.ev 9 (.int .i64 j))) ?_
       clear F ac
       intro ac F
       refine Y.pval F (X.w0 rfl) rfl (X.binop rfl (F.ev 53 (.int .i64 j)) (X.kc (.int .i64 1) rfl) (X.addI Try.underlying3 rfl (by omega) (by omega))) ?_
       clear F ac
       intro ac F
       refine Y.pval F (X.w0 rfl) rfl (X.assign rfl (F.ev 54 (.int .i64 ((j : Int) + 1)))) ?_
       clear F ac
       intro ac F
       refine Y.nil ?_
       replace F : Fr ac 227 [(0, .agg #[.int .i64 gr, .int .i64 hold, .slice (some pd52) n nc]), (1, .int .i64 u), (2, .slice la m lc), (3, .pointer (some ⟨w.heap.size, 0, none⟩)), (6, .bool false), (7, .int .i64 x), (8, .int .i64 gp), (9, .int .i64 ((j : Int) + 1)), (34, .bool false), (38, .bool false), (52, .bool true), (62, .bool false)] := F.sub _
       refine X.thenN ?_
       refine ⟨_, ?_, j + 1, gp, rfl, GB_, by omega, hgp, F.sub _⟩
       omega
      | true =>
       try rw [h53] at F
       refine Y.condT (F.ev 62 (.bool true)) ?_
       refine Y.lit (by kernel_rfl) ?_
       refine Y.pval F (X.w0 rfl) rfl (X.move rfl (F.ev 9 (.int .i64 j))) ?_
       clear F ac
       intro ac F
       refine Y.pval F (X.w0 rfl) rfl (X.assign rfl (F.ev 63 (.int .i64 j))) ?_
       clear F ac
       intro ac F
       refine Y.nil ?_
       replace F : Fr ac 227 [(0, .agg #[.int .i64 gr, .int .i64 hold, .slice (some pd52) n nc]), (1, .int .i64 u), (2, .slice la m lc), (3, .pointer (some ⟨w.heap.size, 0, none⟩)), (6, .bool false), (7, .int .i64 x), (8, .int .i64 j), (9, .int .i64 j), (34, .bool false), (38, .bool false), (52, .bool true), (62, .bool true)] := F.sub _
       refine X.blockN ?_
       refine X.thenN ?_
       refine Y.lit (by kernel_rfl) ?_
       refine Y.pval F (X.w0 rfl) rfl (X.move rfl (F.ev 9 (.int .i64 j))) ?_
       clear F ac
       intro ac F
       refine Y.pval F (X.w0 rfl) rfl (X.binop rfl (F.ev 53 (.int .i64 j)) (X.kc (.int .i64 1) rfl) (X.addI Try.underlying3 rfl (by omega) (by omega))) ?_
       clear F ac
       intro ac F
       refine Y.pval F (X.w0 rfl) rfl (X.assign rfl (F.ev 54 (.int .i64 ((j : Int) + 1)))) ?_
       clear F ac
       intro ac F
       refine Y.nil ?_
       replace F : Fr ac 227 [(0, .agg #[.int .i64 gr, .int .i64 hold, .slice (some pd52) n nc]), (1, .int .i64 u), (2, .slice la m lc), (3, .pointer (some ⟨w.heap.size, 0, none⟩)), (6, .bool false), (7, .int .i64 x), (8, .int .i64 j), (9, .int .i64 ((j : Int) + 1)), (34, .bool false), (38, .bool false), (52, .bool true), (62, .bool true)] := F.sub _
       refine X.thenN ?_
       refine ⟨_, ?_, j + 1, (j : Int), rfl, GB_, by omega, .inr ⟨by omega, by omega, h53⟩, F.sub _⟩
       omega
    | true =>
     try rw [h8] at F
     have h8p : ((30 : Int) < hold) := of_decide_eq_true h8
     refine Y.condT (F.ev 38 (.bool true)) ?_
     refine Y.seq ?_
     refine Y.lit (by kernel_rfl) ?_
     refine Y.pcall F (X.w0 rfl) rfl (X.enter (F := 16) rfl (X.kc (.func (.func 16) #[] #[]) rfl) rfl (enters_of Try.func16 (by kernel_rfl) rfl _)) (works_any w4) ?_
     clear F ac
     rintro e w55 ⟨rfl, g⟩
     refine ⟨_, rfl, ?_⟩
     intro ac F
     replace G := G.trans g
     replace hC := hC.gr g
     replace hnd := hnd.gr g
     replace hl := hl.gr g
     clear g
     refine Y.pval F (X.w0 rfl) rfl (X.assign rfl (F.ev 39 (.bool true))) ?_
     clear F ac
     intro ac F
     refine Y.nil ?_
     replace F : Fr ac 227 [(0, .agg #[.int .i64 gr, .int .i64 hold, .slice na n nc]), (1, .int .i64 t), (2, .slice la m lc), (3, .pointer (some ⟨w.heap.size, 0, none⟩)), (6, .bool true), (34, .bool false), (38, .bool true)] := F.sub _
     refine X.thenN ?_
     refine Y.ret ?_
     refine X.thenR ?_
     exact Y.ret0 (v := .bool true) F (Y.rs1 F rfl (by kernel_rfl)) ⟨rfl, G⟩
   | true =>
    try rw [h7] at F
    have h7p : ((100 : Int) < m) := of_decide_eq_true h7
    refine Y.condT (F.ev 34 (.bool true)) ?_
    refine Y.seq ?_
    refine Y.lit (by kernel_rfl) ?_
    refine Y.pcall F (X.w0 rfl) rfl (X.enter (F := 16) rfl (X.kc (.func (.func 16) #[] #[]) rfl) rfl (enters_of Try.func16 (by kernel_rfl) rfl _)) (works_any w4) ?_
    clear F ac
    rintro e w57 ⟨rfl, g⟩
    refine ⟨_, rfl, ?_⟩
    intro ac F
    replace G := G.trans g
    replace hC := hC.gr g
    replace hnd := hnd.gr g
    replace hl := hl.gr g
    clear g
    refine Y.pval F (X.w0 rfl) rfl (X.assign rfl (F.ev 35 (.bool true))) ?_
    clear F ac
    intro ac F
    refine Y.nil ?_
    replace F : Fr ac 227 [(0, .agg #[.int .i64 gr, .int .i64 hold, .slice na n nc]), (1, .int .i64 t), (2, .slice la m lc), (3, .pointer (some ⟨w.heap.size, 0, none⟩)), (6, .bool true), (34, .bool true)] := F.sub _
    refine X.thenN ?_
    refine Y.ret ?_
    refine X.thenR ?_
    exact Y.ret0 (v := .bool true) F (Y.rs1 F rfl (by kernel_rfl)) ⟨rfl, G⟩
  | true =>
   try rw [h6] at F
   have h6p : (n : Int) = 0 := by simpa using h6
   refine Y.pskip F (X.w2 rfl (F.yl (j := 9) (d := 30) (b := true) rfl (by kernel_rfl)) rfl) rfl ?_
   clear F ac
   intro ac F
   refine Y.pskip F (X.w2 rfl (F.yl (j := 9) (d := 30) (b := true) rfl (by kernel_rfl)) rfl) rfl ?_
   clear F ac
   intro ac F
   refine Y.pskip F (X.w2 rfl (F.yl (j := 9) (d := 30) (b := true) rfl (by kernel_rfl)) rfl) rfl ?_
   clear F ac
   intro ac F
   refine Y.pval F (X.w0 rfl) rfl (X.pickT rfl (F.ev 30 (.bool true)) (X.kc (.bool true) rfl)) ?_
   clear F ac
   intro ac F
   refine Y.nil ?_
   replace F : Fr ac 227 [(0, .agg #[.int .i64 gr, .int .i64 hold, .slice na n nc]), (1, .int .i64 t), (2, .slice la m lc), (3, .pointer (some ⟨w.heap.size, 0, none⟩)), (6, .bool false), (34, .bool true)] := F.sub _
   refine X.thenN ?_
   refine Y.condT (F.ev 34 (.bool true)) ?_
   refine Y.seq ?_
   refine Y.lit (by kernel_rfl) ?_
   refine Y.pcall F (X.w0 rfl) rfl (X.enter (F := 16) rfl (X.kc (.func (.func 16) #[] #[]) rfl) rfl (enters_of Try.func16 (by kernel_rfl) rfl _)) (works_any w4) ?_
   clear F ac
   rintro e w59 ⟨rfl, g⟩
   refine ⟨_, rfl, ?_⟩
   intro ac F
   replace G := G.trans g
   replace hC := hC.gr g
   replace hnd := hnd.gr g
   replace hl := hl.gr g
   clear g
   refine Y.pval F (X.w0 rfl) rfl (X.assign rfl (F.ev 35 (.bool true))) ?_
   clear F ac
   intro ac F
   refine Y.nil ?_
   replace F : Fr ac 227 [(0, .agg #[.int .i64 gr, .int .i64 hold, .slice na n nc]), (1, .int .i64 t), (2, .slice la m lc), (3, .pointer (some ⟨w.heap.size, 0, none⟩)), (6, .bool true), (34, .bool true)] := F.sub _
   refine X.thenN ?_
   refine Y.ret ?_
   refine X.thenR ?_
   exact Y.ret0 (v := .bool true) F (Y.rs1 F rfl (by kernel_rfl)) ⟨rfl, G⟩
 | true =>
  try rw [h5] at F
  have h5p : ¬ (cluE gr hold nd : Int) = 0 := by simpa using h5
  refine Y.pskip F (X.w2 rfl (F.yl (j := 3) (d := 24) (b := true) rfl (by kernel_rfl)) rfl) rfl ?_
  clear F ac
  intro ac F
  refine Y.pskip F (X.w2 rfl (F.yl (j := 3) (d := 24) (b := true) rfl (by kernel_rfl)) rfl) rfl ?_
  clear F ac
  intro ac F
  refine Y.pskip F (X.w2 rfl (F.yl (j := 3) (d := 24) (b := true) rfl (by kernel_rfl)) rfl) rfl ?_
  clear F ac
  intro ac F
  refine Y.pskip F (X.w2 rfl (F.yl (j := 3) (d := 24) (b := true) rfl (by kernel_rfl)) rfl) rfl ?_
  clear F ac
  intro ac F
  refine Y.pval F (X.w0 rfl) rfl (X.pickT rfl (F.ev 24 (.bool true)) (X.kc (.bool true) rfl)) ?_
  clear F ac
  intro ac F
  refine Y.pval F (X.w0 rfl) rfl (X.move rfl (F.ev 29 (.bool true))) ?_
  clear F ac
  intro ac F
  refine Y.pskip F (X.w2 rfl (F.yl (j := 9) (d := 30) (b := true) rfl (by kernel_rfl)) rfl) rfl ?_
  clear F ac
  intro ac F
  refine Y.pskip F (X.w2 rfl (F.yl (j := 9) (d := 30) (b := true) rfl (by kernel_rfl)) rfl) rfl ?_
  clear F ac
  intro ac F
  refine Y.pskip F (X.w2 rfl (F.yl (j := 9) (d := 30) (b := true) rfl (by kernel_rfl)) rfl) rfl ?_
  clear F ac
  intro ac F
  refine Y.pval F (X.w0 rfl) rfl (X.pickT rfl (F.ev 30 (.bool true)) (X.kc (.bool true) rfl)) ?_
  clear F ac
  intro ac F
  refine Y.nil ?_
  replace F : Fr ac 227 [(0, .agg #[.int .i64 gr, .int .i64 hold, .slice na n nc]), (1, .int .i64 t), (2, .slice la m lc), (3, .pointer (some ⟨w.heap.size, 0, none⟩)), (6, .bool false), (34, .bool true)] := F.sub _
  refine X.thenN ?_
  refine Y.condT (F.ev 34 (.bool true)) ?_
  refine Y.seq ?_
  refine Y.lit (by kernel_rfl) ?_
  refine Y.pcall F (X.w0 rfl) rfl (X.enter (F := 16) rfl (X.kc (.func (.func 16) #[] #[]) rfl) rfl (enters_of Try.func16 (by kernel_rfl) rfl _)) (works_any w4) ?_
  clear F ac
  rintro e w61 ⟨rfl, g⟩
  refine ⟨_, rfl, ?_⟩
  intro ac F
  replace G := G.trans g
  replace hC := hC.gr g
  replace hnd := hnd.gr g
  replace hl := hl.gr g
  clear g
  refine Y.pval F (X.w0 rfl) rfl (X.assign rfl (F.ev 35 (.bool true))) ?_
  clear F ac
  intro ac F
  refine Y.nil ?_
  replace F : Fr ac 227 [(0, .agg #[.int .i64 gr, .int .i64 hold, .slice na n nc]), (1, .int .i64 t), (2, .slice la m lc), (3, .pointer (some ⟨w.heap.size, 0, none⟩)), (6, .bool true), (34, .bool true)] := F.sub _
  refine X.thenN ?_
  refine Y.ret ?_
  refine X.thenR ?_
  exact Y.ret0 (v := .bool true) F (Y.rs1 F rfl (by kernel_rfl)) ⟨rfl, G⟩
end Go.Proofs.Ytoalamakhjbedaa
