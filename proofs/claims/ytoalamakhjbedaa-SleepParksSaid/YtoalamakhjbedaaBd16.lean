/- Several texts of this claim in one file. (1) Contracts: Lasts, the program's and the reference's. (2) Contract: sameInts. (3) Contract: the look at the examples. -/
import Derived.Test.YtoalamakhjbedaaBd15
import Derived.Test.YtoalamakhjbedaaBd14
namespace Go.Proofs.Ytoalamakhjbedaa
section
open Go.RowKit

def lastE (gr hold : Int) (nd : List (List Int)) (ch : Int) : Int := if cluE gr hold nd ≠ 0 then cluE gr hold nd else if ch < 0 then 1 else if sumP nd hold 1000 ≤ ch then 3 else 0
theorem sumP_zero (nd : List (List Int)) (hold : Int) : sumP nd hold 0 = 0 := by
  have h : ∀ i, sumN nd hold 0 i = 0 := by
    intro i
    induction i with
    | zero => rfl
    | succ i ih =>
      simp only [sumN]
      rw [ih, bestV_done _ (by show (0 : Int) ≤ 0; decide)]; rfl
  exact h _

theorem sumP_step {gr hold T : Int} {nd : List (List Int)} (hc : cluE gr hold nd = 0) (h0 : 0 ≤ T) (h1 : T ≤ 999) : sumP nd hold T ≤ sumP nd hold (T + 1) := by
  have hk := cluE_ok hc
  have h : ∀ i, i ≤ nd.length → sumN nd hold T i ≤ sumN nd hold (T + 1) i := by
    intro i
    induction i with
    | zero => intro _; exact Int.le_refl _
    | succ i ih =>
      intro hi
      have h2 := ih (by omega)
      have hm := worst_more (i := i) hc (by omega) h0 h1
      have ha := hk.asl i (by omega)
      have e1 := (worst_enF (i := i) hc (by omega) h0 (by omega)).1
      have e2 := (worst_enF (i := i) (T := T + 1) hc (by omega) (by omega) (by omega)).1
      unfold worstV at hm
      rw [if_pos e1, if_pos e2, Int.toNat_natCast] at hm
      simp only [sumN]
      omega
  exact h _ (Nat.le_refl _)
theorem sumP_mono {gr hold : Int} {nd : List (List Int)} (hc : cluE gr hold nd = 0) {a : Int} (h0 : 0 ≤ a) : ∀ k : Nat, a + k ≤ 1000 → sumP nd hold a ≤ sumP nd hold (a + k)
  | 0, _ => by rw [show a + ((0 : Nat) : Int) = a by omega]; exact Int.le_refl _
  | k + 1, h => by
    have h1 := sumP_mono hc h0 k (by omega)
    have h2 := sumP_step (T := a + k) hc (by omega) (by omega)
    rw [show a + ((k + 1 : Nat) : Int) = a + k + 1 by omega]
    omega
/-- how long a charge lasts -/
def LastOk (nd : List (List Int)) (hold ch L : Int) : Prop := 0 ≤ L ∧ L < 1000 ∧ sumP nd hold L ≤ ch ∧ ch < sumP nd hold (L + 1)
theorem last_one {gr hold ch L M : Int} {nd : List (List Int)} (hc : cluE gr hold nd = 0) (h : LastOk nd hold ch L) (k : LastOk nd hold ch M) : L = M := by
  obtain ⟨h0, h1, h2, h3⟩ := h
  obtain ⟨k0, k1, k2, k3⟩ := k
  refine Classical.byContradiction fun hn => ?_
  by_cases e : L < M
  · have := sumP_mono (a := L + 1) hc (by omega) (M - (L + 1)).toNat (by omega)
    rw [show L + 1 + ((M - (L + 1)).toNat : Int) = M by omega] at this
    omega
  · have := sumP_mono (a := M + 1) hc (by omega) (L - (M + 1)).toNat (by omega)
    rw [show M + 1 + ((L - (M + 1)).toNat : Int) = L by omega] at this
    omega
theorem last_same {gr hold ch L M : Int} {nd : List (List Int)} (h1 : lastE gr hold nd ch = 0 → LastOk nd hold ch L) (h2 : lastE gr hold nd ch ≠ 0 → L = 0) (k1 : lastE gr hold nd ch = 0 → LastOk nd hold ch M) (k2 : lastE gr hold nd ch ≠ 0 → M = 0) : L = M := by
  by_cases e : lastE gr hold nd ch = 0
  · have hc : cluE gr hold nd = 0 := by
      refine Classical.byContradiction fun hn => ?_
      rw [lastE, if_pos hn] at e
      exact hn e
    exact last_one hc (h1 e) (k1 e)
  · rw [h2 e, k2 e]

set_option maxRecDepth 100000 in
set_option maxHeartbeats 1000000 in
theorem lasts_any (na : Option Addr) (n nc : Nat) (gr hold ch : Int) (nd : List (List Int)) (w : World) (hnd : StAt w 5 na n nd) :
  Calls Try.prog 23 #[.agg #[.int .i64 gr, .int .i64 hold, .slice na n nc], .int .i64 ch] w fun e w' => ∃ L : Int, e = .returned (.tuple #[.int .i64 L, .int .i64 (lastE gr hold nd ch)]) ∧ (lastE gr hold nd ch = 0 → LastOk nd hold ch L) ∧ (lastE gr hold nd ch ≠ 0 → L = 0) ∧ Gr w w' := by
 have G := Gr.refl w
 have hnd0 := hnd
 have hlen := hnd.len
 refine Y.calls 38 Try.func23 rfl rfl ?_
 intro ac F0
 have F : Fr ac 38 [(0, .agg #[.int .i64 gr, .int .i64 hold, .slice na n nc]), (1, .int .i64 ch)] := F0.sub _
 clear F0
 refine Y.seq ?_
 refine Y.lit (by kernel_rfl) ?_
 refine Y.pval F (X.w0 rfl) rfl (X.box rfl (F.ev 0 (.agg #[.int .i64 gr, .int .i64 hold, .slice na n nc])) X.bx) ?_
 clear F ac
 intro ac F
 have g := Gr.alloc w (.cells #[.int .i64 gr, .int .i64 hold, .slice na n nc] 24)
 have hb := heap_alloc_new w (.cells #[.int .i64 gr, .int .i64 hold, .slice na n nc] 24)
 have hbl : w.heap.size < (w.alloc (.cells #[.int .i64 gr, .int .i64 hold, .slice na n nc] 24)).heap.size := by simp
 have hC2 : RCells (w.alloc (.cells #[.int .i64 gr, .int .i64 hold, .slice na n nc] 24)) [(⟨w.heap.size, 0, none⟩, .int .i64 gr), (⟨w.heap.size, 1, none⟩, .int .i64 hold), (⟨w.heap.size, 2, none⟩, .slice na n nc)] := (RCells.nil w).box (b := w.heap.size) #[.int .i64 gr, .int .i64 hold, .slice na n nc] 24 rfl
 generalize w.alloc (.cells #[.int .i64 gr, .int .i64 hold, .slice na n nc] 24) = w3 at *
 replace G := G.trans g
 have hC := hC2
 clear hC2
 replace hnd := hnd.gr g
 clear g hb hbl
 refine Y.pval F (X.w0 rfl) rfl (X.assign rfl (X.kc (.int .i64 0) rfl)) ?_
 clear F ac
 intro ac F
 refine Y.pval F (X.w0 rfl) rfl (X.assign rfl (X.kc (.int .i64 0) rfl)) ?_
 clear F ac
 intro ac F
 refine Y.nil ?_
 replace F : Fr ac 38 [(0, .agg #[.int .i64 gr, .int .i64 hold, .slice na n nc]), (1, .int .i64 ch), (2, .pointer (some ⟨w.heap.size, 0, none⟩)), (4, .int .i64 0), (5, .int .i64 0)] := F.sub _
 refine X.thenN ?_
 refine Y.seq ?_
 refine Y.seq ?_
 refine Y.lit (by kernel_rfl) ?_
 refine Y.pval F (X.w0 rfl) rfl (X.load rfl (F.ev 2 (.pointer (some ⟨w.heap.size, 0, none⟩))) (X.ldN (Try.agg24 _) (Try.siz24 _) (Y.atz (⟨w.heap.size, 0, none⟩) (Y.AtFrom.cons (hC.at 0 rfl) (Y.AtFrom.cons (hC.at 1 rfl) (Y.AtFrom.cons (hC.at 2 rfl) (Y.AtFrom.nil _ _ _))))))) ?_
 clear F ac
 intro ac F
 refine Y.pcall F (X.w0 rfl) rfl (X.enter (F := 25) rfl (X.kc (.func (.func 25) #[] #[]) rfl) (X.a1 (F.ev 10 (.agg #[.int .i64 gr, .int .i64 hold, .slice na n nc]))) (enters_of Try.func25 (by kernel_rfl) rfl _)) (check_any na n nc gr hold nd w3 hnd) ?_
 clear F ac
 rintro e w4 ⟨rfl, g⟩
 refine ⟨_, rfl, ?_⟩
 intro ac F
 replace G := G.trans g
 replace hC := hC.gr g
 replace hnd := hnd.gr g
 clear g
 refine Y.pval F (X.w0 rfl) rfl (X.assign rfl (F.ev 11 (.int .i64 (cluE gr hold nd)))) ?_
 clear F ac
 intro ac F
 refine Y.nil ?_
 replace F : Fr ac 38 [(0, .agg #[.int .i64 gr, .int .i64 hold, .slice na n nc]), (1, .int .i64 ch), (2, .pointer (some ⟨w.heap.size, 0, none⟩)), (4, .int .i64 0), (5, .int .i64 0), (6, .int .i64 (cluE gr hold nd))] := F.sub _
 refine X.thenN ?_
 refine Y.seq ?_
 refine Y.lit (by kernel_rfl) ?_
 refine Y.pval F (X.w0 rfl) rfl (X.move rfl (F.ev 6 (.int .i64 (cluE gr hold nd)))) ?_
 clear F ac
 intro ac F
 refine Y.pval F (X.w0 rfl) rfl (X.binop rfl (F.ev 12 (.int .i64 (cluE gr hold nd))) (X.kc (.int .i64 0) rfl) (X.neqI Try.underlying26 rfl)) ?_
 clear F ac
 intro ac F
 refine Y.nil ?_
 replace F : Fr ac 38 [(0, .agg #[.int .i64 gr, .int .i64 hold, .slice na n nc]), (1, .int .i64 ch), (2, .pointer (some ⟨w.heap.size, 0, none⟩)), (4, .int .i64 0), (5, .int .i64 0), (6, .int .i64 (cluE gr hold nd)), (13, .bool ((cluE gr hold nd : Int) != 0))] := F.sub _
 refine X.thenN ?_
 cases h5 : ((cluE gr hold nd : Int) != 0) with
 | false =>
  try rw [h5] at F
  have h5p : (cluE gr hold nd : Int) = 0 := by simpa using h5
  have hE : cluE gr hold nd = 0 := by simpa using h5p
  have hc := cluE_ok hE
  refine Y.condF (F.ev 13 (.bool false)) ?_
  refine Y.skip ?_
  refine X.thenN ?_
  refine Y.seq ?_
  refine Y.seq ?_
  refine Y.lit (by kernel_rfl) ?_
  refine Y.pval F (X.w0 rfl) rfl (X.move rfl (F.ev 1 (.int .i64 ch))) ?_
  clear F ac
  intro ac F
  refine Y.pval F (X.w0 rfl) rfl (X.binop rfl (F.ev 15 (.int .i64 ch)) (X.kc (.int .i64 0) rfl) (X.lssI Try.underlying3 rfl)) ?_
  clear F ac
  intro ac F
  refine Y.nil ?_
  replace F : Fr ac 38 [(0, .agg #[.int .i64 gr, .int .i64 hold, .slice na n nc]), (1, .int .i64 ch), (2, .pointer (some ⟨w.heap.size, 0, none⟩)), (4, .int .i64 0), (5, .int .i64 0), (6, .int .i64 (cluE gr hold nd)), (13, .bool false), (16, .bool (decide ((ch : Int) < 0)))] := F.sub _
  refine X.thenN ?_
  cases h6 : decide ((ch : Int) < 0) with
  | false =>
   try rw [h6] at F
   have h6p : ¬ ((ch : Int) < 0) := of_decide_eq_false h6
   refine Y.condF (F.ev 16 (.bool false)) ?_
   refine Y.skip ?_
   refine X.thenN ?_
   refine Y.seq ?_
   refine Y.lit (by kernel_rfl) ?_
   refine Y.pval F (X.w0 rfl) rfl (X.assign rfl (X.kc (.int .i64 0) rfl)) ?_
   clear F ac
   intro ac F
   refine Y.pval F (X.w0 rfl) rfl (X.assign rfl (X.kc (.int .i64 1000) rfl)) ?_
   clear F ac
   intro ac F
   refine Y.nil ?_
   replace F : Fr ac 38 [(0, .agg #[.int .i64 gr, .int .i64 hold, .slice na n nc]), (1, .int .i64 ch), (2, .pointer (some ⟨w.heap.size, 0, none⟩)), (4, .int .i64 0), (5, .int .i64 0), (6, .int .i64 (cluE gr hold nd)), (7, .int .i64 0), (8, .int .i64 1000), (13, .bool false), (16, .bool false)] := F.sub _
   refine X.thenN ?_
   refine Y.seq ?_
   refine Y.seq ?_
   refine Y.lit (by kernel_rfl) ?_
   refine Y.pval F (X.w0 rfl) rfl (X.load rfl (F.ev 2 (.pointer (some ⟨w.heap.size, 0, none⟩))) (X.ldN (Try.agg24 _) (Try.siz24 _) (Y.atz (⟨w.heap.size, 0, none⟩) (Y.AtFrom.cons (hC.at 0 rfl) (Y.AtFrom.cons (hC.at 1 rfl) (Y.AtFrom.cons (hC.at 2 rfl) (Y.AtFrom.nil _ _ _))))))) ?_
   clear F ac
   intro ac F
   refine Y.pval F (X.w0 rfl) rfl (X.move rfl (F.ev 8 (.int .i64 1000))) ?_
   clear F ac
   intro ac F
   refine Y.pcall F (X.w0 rfl) rfl (X.enter (F := 51) rfl (X.kc (.func (.func 51) #[] #[]) rfl) (X.a2 (F.ev 17 (.agg #[.int .i64 gr, .int .i64 hold, .slice na n nc])) (F.ev 18 (.int .i64 1000))) (enters_of Try.func51 (by kernel_rfl) rfl _)) (sum_any na n nc gr hold 1000 nd w4 hnd hc ⟨by omega, by omega⟩) ?_
   clear F ac
   rintro e w7 ⟨rfl, g⟩
   refine ⟨_, rfl, ?_⟩
   intro ac F
   replace G := G.trans g
   replace hC := hC.gr g
   replace hnd := hnd.gr g
   clear g
   refine Y.pval F (X.w0 rfl) rfl (X.move rfl (F.ev 1 (.int .i64 ch))) ?_
   clear F ac
   intro ac F
   refine Y.pval F (X.w0 rfl) rfl (X.binop rfl (F.ev 19 (.int .i64 (sumP nd hold 1000))) (F.ev 20 (.int .i64 ch)) (X.leqI Try.underlying3 rfl)) ?_
   clear F ac
   intro ac F
   refine Y.nil ?_
   replace F : Fr ac 38 [(0, .agg #[.int .i64 gr, .int .i64 hold, .slice na n nc]), (1, .int .i64 ch), (2, .pointer (some ⟨w.heap.size, 0, none⟩)), (4, .int .i64 0), (5, .int .i64 0), (6, .int .i64 (cluE gr hold nd)), (7, .int .i64 0), (8, .int .i64 1000), (13, .bool false), (16, .bool false), (21, .bool (decide ((sumP nd hold 1000 : Int) ≤ ch)))] := F.sub _
   refine X.thenN ?_
   cases h8 : decide ((sumP nd hold 1000 : Int) ≤ ch) with
   | false =>
    try rw [h8] at F
    have h8p : ¬ ((sumP nd hold 1000 : Int) ≤ ch) := of_decide_eq_false h8
    refine Y.condF (F.ev 21 (.bool false)) ?_
    refine Y.skip ?_
    refine X.thenN ?_
    refine Y.seq ?_
    refine Y.block ?_
    have hndB := hnd
    have hCB := hC
    have GB := G
    refine Y.loop (fun me_ ac wr => ∃ (lo hi : Int), me_ = (hi - lo).toNat ∧ Gr w7 wr ∧ 0 ≤ lo ∧ lo < hi ∧ hi ≤ 1000 ∧ sumP nd hold lo ≤ ch ∧ ch < sumP nd hold hi ∧ Fr ac 38 [(0, .agg #[.int .i64 gr, .int .i64 hold, .slice na n nc]), (1, .int .i64 ch), (2, .pointer (some ⟨w.heap.size, 0, none⟩)), (4, .int .i64 0), (5, .int .i64 0), (6, .int .i64 (cluE gr hold nd)), (7, .int .i64 lo), (8, .int .i64 hi), (13, .bool false), (16, .bool false), (21, .bool false)]) _ ⟨0, 1000, rfl, Gr.refl _, by omega, by omega, by omega, (by rw [sumP_zero]; omega), (by omega), F.sub _⟩ ?_
    clear F
    intro me_ ac w9 hI
    obtain ⟨lo, hi, rfl, gr, hl0, hl1, hl2, hlo, hhi, F⟩ := hI
    replace G := GB.trans gr
    replace hC := hCB.gr gr
    replace hnd := hndB.gr gr
    have GB_ := gr
    clear gr
    refine Y.seq ?_
    refine Y.seq ?_
    refine Y.lit (by kernel_rfl) ?_
    refine Y.pval F (X.w0 rfl) rfl (X.move rfl (F.ev 8 (.int .i64 hi))) ?_
    clear F ac
    intro ac F
    refine Y.pval F (X.w0 rfl) rfl (X.move rfl (F.ev 7 (.int .i64 lo))) ?_
    clear F ac
    intro ac F
    refine Y.pval F (X.w0 rfl) rfl (X.binop rfl (F.ev 22 (.int .i64 hi)) (F.ev 23 (.int .i64 lo)) (X.subI Try.underlying3 rfl (by omega) (by omega))) ?_
    clear F ac
    intro ac F
    refine Y.pval F (X.w0 rfl) rfl (X.binop rfl (F.ev 24 (.int .i64 ((hi : Int) - lo))) (X.kc (.int .i64 1) rfl) (X.gtrI Try.underlying3 rfl)) ?_
    clear F ac
    intro ac F
    refine Y.nil ?_
    replace F : Fr ac 38 [(0, .agg #[.int .i64 gr, .int .i64 hold, .slice na n nc]), (1, .int .i64 ch), (2, .pointer (some ⟨w.heap.size, 0, none⟩)), (4, .int .i64 0), (5, .int .i64 0), (6, .int .i64 (cluE gr hold nd)), (7, .int .i64 lo), (8, .int .i64 hi), (13, .bool false), (16, .bool false), (21, .bool false), (25, .bool (decide ((1 : Int) < ((hi : Int) - lo))))] := F.sub _
    refine X.thenN ?_
    cases h10 : decide ((1 : Int) < ((hi : Int) - lo)) with
    | false =>
     try rw [h10] at F
     have h10p : ¬ ((1 : Int) < ((hi : Int) - lo)) := of_decide_eq_false h10
     refine Y.condF (F.ev 25 (.bool false)) ?_
     refine Y.exit ?_
     refine X.thenX ?_
     refine X.thenX ?_
     refine X.blockX ?_
     refine X.thenN ?_
     refine Y.seq ?_
     refine Y.lit (by kernel_rfl) ?_
     refine Y.pval F (X.w0 rfl) rfl (X.move rfl (F.ev 7 (.int .i64 lo))) ?_
     clear F ac
     intro ac F
     refine Y.pval F (X.w0 rfl) rfl (X.assign rfl (F.ev 37 (.int .i64 lo))) ?_
     clear F ac
     intro ac F
     refine Y.pval F (X.w0 rfl) rfl (X.assign rfl (X.kc (.int .i64 0) rfl)) ?_
     clear F ac
     intro ac F
     refine Y.nil ?_
     replace F : Fr ac 38 [(0, .agg #[.int .i64 gr, .int .i64 hold, .slice na n nc]), (1, .int .i64 ch), (2, .pointer (some ⟨w.heap.size, 0, none⟩)), (4, .int .i64 lo), (5, .int .i64 0), (6, .int .i64 (cluE gr hold nd)), (7, .int .i64 lo), (8, .int .i64 hi), (13, .bool false), (16, .bool false), (21, .bool false), (25, .bool false)] := F.sub _
     refine X.thenN ?_
     refine Y.ret ?_
     have hz0 : lastE gr hold nd ch = 0 := by rw [lastE, if_neg (fun h => h hE), if_neg (by omega), if_neg (by omega)]
     obtain rfl : hi = lo + 1 := by omega
     exact Y.ret0 (v := .tuple #[.int .i64 lo, .int .i64 0]) F (Y.rs2 F rfl (by kernel_rfl) (by kernel_rfl)) ⟨_, by rw [hz0], fun _ => ⟨hl0, by omega, hlo, hhi⟩, fun h => absurd hz0 h, G⟩
    | true =>
     try rw [h10] at F
     have h10p : ((1 : Int) < ((hi : Int) - lo)) := of_decide_eq_true h10
     refine Y.condT (F.ev 25 (.bool true)) ?_
     refine Y.skip ?_
     refine X.thenN ?_
     refine Y.block ?_
     refine Y.seq ?_
     refine Y.lit (by kernel_rfl) ?_
     refine Y.pval F (X.w0 rfl) rfl (X.move rfl (F.ev 7 (.int .i64 lo))) ?_
     clear F ac
     intro ac F
     refine Y.pval F (X.w0 rfl) rfl (X.move rfl (F.ev 8 (.int .i64 hi))) ?_
     clear F ac
     intro ac F
     refine Y.pval F (X.w0 rfl) rfl (X.binop rfl (F.ev 26 (.int .i64 lo)) (F.ev 27 (.int .i64 hi)) (X.addI Try.underlying3 rfl (by omega) (by omega))) ?_
     clear F ac
     intro ac F
     refine Y.pval F (X.w0 rfl) rfl (X.binop rfl (F.ev 28 (.int .i64 ((lo : Int) + hi))) (X.kc (.int .i64 2) rfl) (X.quoI Try.underlying3 rfl (by omega) (by omega))) ?_
     clear F ac
     intro ac F
     refine Y.pval F (X.w0 rfl) rfl (X.assign rfl (F.ev 29 (.int .i64 (((lo : Int) + hi : Int) / 2)))) ?_
     clear F ac
     intro ac F
     refine Y.nil ?_
     replace F : Fr ac 38 [(0, .agg #[.int .i64 gr, .int .i64 hold, .slice na n nc]), (1, .int .i64 ch), (2, .pointer (some ⟨w.heap.size, 0, none⟩)), (4, .int .i64 0), (5, .int .i64 0), (6, .int .i64 (cluE gr hold nd)), (7, .int .i64 lo), (8, .int .i64 hi), (9, .int .i64 (((lo : Int) + hi : Int) / 2)), (13, .bool false), (16, .bool false), (21, .bool false), (25, .bool true)] := F.sub _
     refine X.thenN ?_
     refine Y.seq ?_
     refine Y.lit (by kernel_rfl) ?_
     refine Y.pval F (X.w0 rfl) rfl (X.load rfl (F.ev 2 (.pointer (some ⟨w.heap.size, 0, none⟩))) (X.ldN (Try.agg24 _) (Try.siz24 _) (Y.atz (⟨w.heap.size, 0, none⟩) (Y.AtFrom.cons (hC.at 0 rfl) (Y.AtFrom.cons (hC.at 1 rfl) (Y.AtFrom.cons (hC.at 2 rfl) (Y.AtFrom.nil _ _ _))))))) ?_
     clear F ac
     intro ac F
     refine Y.pval F (X.w0 rfl) rfl (X.move rfl (F.ev 9 (.int .i64 (((lo : Int) + hi : Int) / 2)))) ?_
     clear F ac
     intro ac F
     refine Y.pcall F (X.w0 rfl) rfl (X.enter (F := 51) rfl (X.kc (.func (.func 51) #[] #[]) rfl) (X.a2 (F.ev 30 (.agg #[.int .i64 gr, .int .i64 hold, .slice na n nc])) (F.ev 31 (.int .i64 (((lo : Int) + hi : Int) / 2)))) (enters_of Try.func51 (by kernel_rfl) rfl _)) (sum_any na n nc gr hold (((lo : Int) + hi : Int) / 2) nd w9 hnd hc ⟨by omega, by omega⟩) ?_
     clear F ac
     rintro e w11 ⟨rfl, g⟩
     refine ⟨_, rfl, ?_⟩
     intro ac F
     replace G := G.trans g
     replace hC := hC.gr g
     replace GB_ := GB_.trans g
     replace hnd := hnd.gr g
     clear g
     refine Y.pval F (X.w0 rfl) rfl (X.move rfl (F.ev 1 (.int .i64 ch))) ?_
     clear F ac
     intro ac F
     refine Y.pval F (X.w0 rfl) rfl (X.binop rfl (F.ev 32 (.int .i64 (sumP nd hold (((lo : Int) + hi : Int) / 2)))) (F.ev 33 (.int .i64 ch)) (X.leqI Try.underlying3 rfl)) ?_
     clear F ac
     intro ac F
     refine Y.nil ?_
     replace F : Fr ac 38 [(0, .agg #[.int .i64 gr, .int .i64 hold, .slice na n nc]), (1, .int .i64 ch), (2, .pointer (some ⟨w.heap.size, 0, none⟩)), (4, .int .i64 0), (5, .int .i64 0), (6, .int .i64 (cluE gr hold nd)), (7, .int .i64 lo), (8, .int .i64 hi), (9, .int .i64 (((lo : Int) + hi : Int) / 2)), (13, .bool false), (16, .bool false), (21, .bool false), (25, .bool true), (34, .bool (decide ((sumP nd hold (((lo : Int) + hi : Int) / 2) : Int) ≤ ch)))] := F.sub _
     refine X.thenN ?_
     cases h12 : decide ((sumP nd hold (((lo : Int) + hi : Int) / 2) : Int) ≤ ch) with
     | false =>
      try rw [h12] at F
      have h12p : ¬ ((sumP nd hold (((lo : Int) + hi : Int) / 2) : Int) ≤ ch) := of_decide_eq_false h12
      refine Y.condF (F.ev 34 (.bool false)) ?_
      refine Y.lit (by kernel_rfl) ?_
      refine Y.pval F (X.w0 rfl) rfl (X.move rfl (F.ev 9 (.int .i64 (((lo : Int) + hi : Int) / 2)))) ?_
      clear F ac
      intro ac F
      refine Y.pval F (X.w0 rfl) rfl (X.assign rfl (F.ev 36 (.int .i64 (((lo : Int) + hi : Int) / 2)))) ?_
      clear F ac
      intro ac F
      refine Y.nil ?_
      replace F : Fr ac 38 [(0, .agg #[.int .i64 gr, .int .i64 hold, .slice na n nc]), (1, .int .i64 ch), (2, .pointer (some ⟨w.heap.size, 0, none⟩)), (4, .int .i64 0), (5, .int .i64 0), (6, .int .i64 (cluE gr hold nd)), (7, .int .i64 lo), (8, .int .i64 (((lo : Int) + hi : Int) / 2)), (9, .int .i64 (((lo : Int) + hi : Int) / 2)), (13, .bool false), (16, .bool false), (21, .bool false), (25, .bool true), (34, .bool false)] := F.sub _
      refine X.blockN ?_
      refine X.thenN ?_
      refine ⟨_, ?_, lo, (((lo : Int) + hi : Int) / 2), rfl, GB_, by omega, by omega, by omega, (by omega), (by omega), F.sub _⟩
      omega
     | true =>
      try rw [h12] at F
      have h12p : ((sumP nd hold (((lo : Int) + hi : Int) / 2) : Int) ≤ ch) := of_decide_eq_true h12
      refine Y.condT (F.ev 34 (.bool true)) ?_
      refine Y.lit (by kernel_rfl) ?_
      refine Y.pval F (X.w0 rfl) rfl (X.move rfl (F.ev 9 (.int .i64 (((lo : Int) + hi : Int) / 2)))) ?_
      clear F ac
      intro ac F
      refine Y.pval F (X.w0 rfl) rfl (X.assign rfl (F.ev 35 (.int .i64 (((lo : Int) + hi : Int) / 2)))) ?_
      clear F ac
      intro ac F
      refine Y.nil ?_
      replace F : Fr ac 38 [(0, .agg #[.int .i64 gr, .int .i64 hold, .slice na n nc]), (1, .int .i64 ch), (2, .pointer (some ⟨w.heap.size, 0, none⟩)), (4, .int .i64 0), (5, .int .i64 0), (6, .int .i64 (cluE gr hold nd)), (7, .int .i64 (((lo : Int) + hi : Int) / 2)), (8, .int .i64 hi), (9, .int .i64 (((lo : Int) + hi : Int) / 2)), (13, .bool false), (16, .bool false), (21, .bool false), (25, .bool true), (34, .bool true)] := F.sub _
      refine X.blockN ?_
      refine X.thenN ?_
      refine ⟨_, ?_, (((lo : Int) + hi : Int) / 2), hi, rfl, GB_, by omega, by omega, by omega, (by omega), (by omega), F.sub _⟩
      omega
   | true =>
    try rw [h8] at F
    have h8p : ((sumP nd hold 1000 : Int) ≤ ch) := of_decide_eq_true h8
    refine Y.condT (F.ev 21 (.bool true)) ?_
    refine Y.seq ?_
    refine Y.lit (by kernel_rfl) ?_
    refine Y.pval F (X.w0 rfl) rfl (X.assign rfl (X.kc (.int .i64 0) rfl)) ?_
    clear F ac
    intro ac F
    refine Y.pval F (X.w0 rfl) rfl (X.assign rfl (X.kc (.int .i64 3) rfl)) ?_
    clear F ac
    intro ac F
    refine Y.nil ?_
    replace F : Fr ac 38 [(0, .agg #[.int .i64 gr, .int .i64 hold, .slice na n nc]), (1, .int .i64 ch), (2, .pointer (some ⟨w.heap.size, 0, none⟩)), (4, .int .i64 0), (5, .int .i64 3), (6, .int .i64 (cluE gr hold nd)), (7, .int .i64 0), (8, .int .i64 1000), (13, .bool false), (16, .bool false), (21, .bool true)] := F.sub _
    refine X.thenN ?_
    refine Y.ret ?_
    refine X.thenR ?_
    exact Y.ret0 (v := .tuple #[.int .i64 0, .int .i64 3]) F (Y.rs2 F rfl (by kernel_rfl) (by kernel_rfl)) ⟨_, by rw [lastE, if_neg (fun h => h hE), if_neg (by omega), if_pos (by omega)], fun h => absurd h (by rw [lastE, if_neg (fun h => h hE), if_neg (by omega), if_pos (by omega)]; decide), fun _ => rfl, G⟩
  | true =>
   try rw [h6] at F
   have h6p : ((ch : Int) < 0) := of_decide_eq_true h6
   refine Y.condT (F.ev 16 (.bool true)) ?_
   refine Y.seq ?_
   refine Y.lit (by kernel_rfl) ?_
   refine Y.pval F (X.w0 rfl) rfl (X.assign rfl (X.kc (.int .i64 0) rfl)) ?_
   clear F ac
   intro ac F
   refine Y.pval F (X.w0 rfl) rfl (X.assign rfl (X.kc (.int .i64 1) rfl)) ?_
   clear F ac
   intro ac F
   refine Y.nil ?_
   replace F : Fr ac 38 [(0, .agg #[.int .i64 gr, .int .i64 hold, .slice na n nc]), (1, .int .i64 ch), (2, .pointer (some ⟨w.heap.size, 0, none⟩)), (4, .int .i64 0), (5, .int .i64 1), (6, .int .i64 (cluE gr hold nd)), (13, .bool false), (16, .bool true)] := F.sub _
   refine X.thenN ?_
   refine Y.ret ?_
   refine X.thenR ?_
   exact Y.ret0 (v := .tuple #[.int .i64 0, .int .i64 1]) F (Y.rs2 F rfl (by kernel_rfl) (by kernel_rfl)) ⟨_, by rw [lastE, if_neg (fun h => h hE), if_pos (by omega)], fun h => absurd h (by rw [lastE, if_neg (fun h => h hE), if_pos (by omega)]; decide), fun _ => rfl, G⟩
 | true =>
  try rw [h5] at F
  have h5p : ¬ (cluE gr hold nd : Int) = 0 := by simpa using h5
  have hE : ¬ cluE gr hold nd = 0 := by simpa using h5p
  refine Y.condT (F.ev 13 (.bool true)) ?_
  refine Y.seq ?_
  refine Y.lit (by kernel_rfl) ?_
  refine Y.pval F (X.w0 rfl) rfl (X.move rfl (F.ev 6 (.int .i64 (cluE gr hold nd)))) ?_
  clear F ac
  intro ac F
  refine Y.pval F (X.w0 rfl) rfl (X.assign rfl (X.kc (.int .i64 0) rfl)) ?_
  clear F ac
  intro ac F
  refine Y.pval F (X.w0 rfl) rfl (X.assign rfl (F.ev 14 (.int .i64 (cluE gr hold nd)))) ?_
  clear F ac
  intro ac F
  refine Y.nil ?_
  replace F : Fr ac 38 [(0, .agg #[.int .i64 gr, .int .i64 hold, .slice na n nc]), (1, .int .i64 ch), (2, .pointer (some ⟨w.heap.size, 0, none⟩)), (4, .int .i64 0), (5, .int .i64 (cluE gr hold nd)), (6, .int .i64 (cluE gr hold nd)), (13, .bool true)] := F.sub _
  refine X.thenN ?_
  refine Y.ret ?_
  refine X.thenR ?_
  exact Y.ret0 (v := .tuple #[.int .i64 0, .int .i64 (cluE gr hold nd)]) F (Y.rs2 F rfl (by kernel_rfl) (by kernel_rfl)) ⟨_, by rw [lastE, if_pos hE], fun h => absurd h (by rw [lastE, if_pos hE]; exact hE), fun _ => rfl, G⟩
set_option maxRecDepth 100000 in
set_option maxHeartbeats 1000000 in
theorem lasts2_any (na : Option Addr) (n nc : Nat) (gr hold ch : Int) (nd : List (List Int)) (w : World) (hnd : StAt w 5 na n nd) :
  Calls Try.prog 24 #[.agg #[.int .i64 gr, .int .i64 hold, .slice na n nc], .int .i64 ch] w fun e w' => ∃ L : Int, e = .returned (.tuple #[.int .i64 L, .int .i64 (lastE gr hold nd ch)]) ∧ (lastE gr hold nd ch = 0 → LastOk nd hold ch L) ∧ (lastE gr hold nd ch ≠ 0 → L = 0) ∧ Gr w w' := by
 have G := Gr.refl w
 have hnd0 := hnd
 have hlen := hnd.len
 refine Y.calls 37 Try.func24 rfl rfl ?_
 intro ac F0
 have F : Fr ac 37 [(0, .agg #[.int .i64 gr, .int .i64 hold, .slice na n nc]), (1, .int .i64 ch)] := F0.sub _
 clear F0
 refine Y.seq ?_
 refine Y.lit (by kernel_rfl) ?_
 refine Y.pval F (X.w0 rfl) rfl (X.box rfl (F.ev 0 (.agg #[.int .i64 gr, .int .i64 hold, .slice na n nc])) X.bx) ?_
 clear F ac
 intro ac F
 have g := Gr.alloc w (.cells #[.int .i64 gr, .int .i64 hold, .slice na n nc] 24)
 have hb := heap_alloc_new w (.cells #[.int .i64 gr, .int .i64 hold, .slice na n nc] 24)
 have hbl : w.heap.size < (w.alloc (.cells #[.int .i64 gr, .int .i64 hold, .slice na n nc] 24)).heap.size := by simp
 have hC2 : RCells (w.alloc (.cells #[.int .i64 gr, .int .i64 hold, .slice na n nc] 24)) [(⟨w.heap.size, 0, none⟩, .int .i64 gr), (⟨w.heap.size, 1, none⟩, .int .i64 hold), (⟨w.heap.size, 2, none⟩, .slice na n nc)] := (RCells.nil w).box (b := w.heap.size) #[.int .i64 gr, .int .i64 hold, .slice na n nc] 24 rfl
 generalize w.alloc (.cells #[.int .i64 gr, .int .i64 hold, .slice na n nc] 24) = w3 at *
 replace G := G.trans g
 have hC := hC2
 clear hC2
 replace hnd := hnd.gr g
 clear g hb hbl
 refine Y.pval F (X.w0 rfl) rfl (X.assign rfl (X.kc (.int .i64 0) rfl)) ?_
 clear F ac
 intro ac F
 refine Y.pval F (X.w0 rfl) rfl (X.assign rfl (X.kc (.int .i64 0) rfl)) ?_
 clear F ac
 intro ac F
 refine Y.nil ?_
 replace F : Fr ac 37 [(0, .agg #[.int .i64 gr, .int .i64 hold, .slice na n nc]), (1, .int .i64 ch), (2, .pointer (some ⟨w.heap.size, 0, none⟩)), (4, .int .i64 0), (5, .int .i64 0)] := F.sub _
 refine X.thenN ?_
 refine Y.seq ?_
 refine Y.seq ?_
 refine Y.lit (by kernel_rfl) ?_
 refine Y.pval F (X.w0 rfl) rfl (X.load rfl (F.ev 2 (.pointer (some ⟨w.heap.size, 0, none⟩))) (X.ldN (Try.agg24 _) (Try.siz24 _) (Y.atz (⟨w.heap.size, 0, none⟩) (Y.AtFrom.cons (hC.at 0 rfl) (Y.AtFrom.cons (hC.at 1 rfl) (Y.AtFrom.cons (hC.at 2 rfl) (Y.AtFrom.nil _ _ _))))))) ?_
 clear F ac
 intro ac F
 refine Y.pcall F (X.w0 rfl) rfl (X.enter (F := 15) rfl (X.kc (.func (.func 15) #[] #[]) rfl) (X.a1 (F.ev 10 (.agg #[.int .i64 gr, .int .i64 hold, .slice na n nc]))) (enters_of Try.func15 (by kernel_rfl) rfl _)) (check2_any na n nc gr hold nd w3 hnd) ?_
 clear F ac
 rintro e w4 ⟨rfl, g⟩
 refine ⟨_, rfl, ?_⟩
 intro ac F
 replace G := G.trans g
 replace hC := hC.gr g
 replace hnd := hnd.gr g
 clear g
 refine Y.pval F (X.w0 rfl) rfl (X.assign rfl (F.ev 11 (.int .i64 (cluE gr hold nd)))) ?_
 clear F ac
 intro ac F
 refine Y.nil ?_
 replace F : Fr ac 37 [(0, .agg #[.int .i64 gr, .int .i64 hold, .slice na n nc]), (1, .int .i64 ch), (2, .pointer (some ⟨w.heap.size, 0, none⟩)), (4, .int .i64 0), (5, .int .i64 0), (6, .int .i64 (cluE gr hold nd))] := F.sub _
 refine X.thenN ?_
 refine Y.seq ?_
 refine Y.lit (by kernel_rfl) ?_
 refine Y.pval F (X.w0 rfl) rfl (X.move rfl (F.ev 6 (.int .i64 (cluE gr hold nd)))) ?_
 clear F ac
 intro ac F
 refine Y.pval F (X.w0 rfl) rfl (X.binop rfl (F.ev 12 (.int .i64 (cluE gr hold nd))) (X.kc (.int .i64 0) rfl) (X.neqI Try.underlying26 rfl)) ?_
 clear F ac
 intro ac F
 refine Y.nil ?_
 replace F : Fr ac 37 [(0, .agg #[.int .i64 gr, .int .i64 hold, .slice na n nc]), (1, .int .i64 ch), (2, .pointer (some ⟨w.heap.size, 0, none⟩)), (4, .int .i64 0), (5, .int .i64 0), (6, .int .i64 (cluE gr hold nd)), (13, .bool ((cluE gr hold nd : Int) != 0))] := F.sub _
 refine X.thenN ?_
 cases h5 : ((cluE gr hold nd : Int) != 0) with
 | false =>
  try rw [h5] at F
  have h5p : (cluE gr hold nd : Int) = 0 := by simpa using h5
  have hE : cluE gr hold nd = 0 := by simpa using h5p
  have hc := cluE_ok hE
  refine Y.condF (F.ev 13 (.bool false)) ?_
  refine Y.skip ?_
  refine X.thenN ?_
  refine Y.seq ?_
  refine Y.seq ?_
  refine Y.lit (by kernel_rfl) ?_
  refine Y.pval F (X.w0 rfl) rfl (X.move rfl (F.ev 1 (.int .i64 ch))) ?_
  clear F ac
  intro ac F
  refine Y.pval F (X.w0 rfl) rfl (X.binop rfl (F.ev 15 (.int .i64 ch)) (X.kc (.int .i64 0) rfl) (X.lssI Try.underlying3 rfl)) ?_
  clear F ac
  intro ac F
  refine Y.nil ?_
  replace F : Fr ac 37 [(0, .agg #[.int .i64 gr, .int .i64 hold, .slice na n nc]), (1, .int .i64 ch), (2, .pointer (some ⟨w.heap.size, 0, none⟩)), (4, .int .i64 0), (5, .int .i64 0), (6, .int .i64 (cluE gr hold nd)), (13, .bool false), (16, .bool (decide ((ch : Int) < 0)))] := F.sub _
  refine X.thenN ?_
  cases h6 : decide ((ch : Int) < 0) with
  | false =>
   try rw [h6] at F
   have h6p : ¬ ((ch : Int) < 0) := of_decide_eq_false h6
   refine Y.condF (F.ev 16 (.bool false)) ?_
   refine Y.skip ?_
   refine X.thenN ?_
   refine Y.seq ?_
   refine Y.seq ?_
   refine Y.lit (by kernel_rfl) ?_
   refine Y.pval F (X.w0 rfl) rfl (X.load rfl (F.ev 2 (.pointer (some ⟨w.heap.size, 0, none⟩))) (X.ldN (Try.agg24 _) (Try.siz24 _) (Y.atz (⟨w.heap.size, 0, none⟩) (Y.AtFrom.cons (hC.at 0 rfl) (Y.AtFrom.cons (hC.at 1 rfl) (Y.AtFrom.cons (hC.at 2 rfl) (Y.AtFrom.nil _ _ _))))))) ?_
   clear F ac
   intro ac F
   refine Y.pcall F (X.w0 rfl) rfl (X.enter (F := 53) rfl (X.kc (.func (.func 53) #[] #[]) rfl) (X.a2 (F.ev 17 (.agg #[.int .i64 gr, .int .i64 hold, .slice na n nc])) (X.kc (.int .i64 1000) rfl)) (enters_of Try.func53 (by kernel_rfl) rfl _)) (parked2_any na n nc gr hold 1000 nd w4 hnd hc ⟨by omega, by omega⟩) ?_
   clear F ac
   rintro e w7 ⟨rfl, g⟩
   refine ⟨_, rfl, ?_⟩
   intro ac F
   replace G := G.trans g
   replace hC := hC.gr g
   replace hnd := hnd.gr g
   clear g
   refine Y.pval F (X.w0 rfl) rfl (X.move rfl (F.ev 1 (.int .i64 ch))) ?_
   clear F ac
   intro ac F
   refine Y.pval F (X.w0 rfl) rfl (X.binop rfl (F.ev 18 (.int .i64 (sumP nd hold 1000))) (F.ev 19 (.int .i64 ch)) (X.leqI Try.underlying3 rfl)) ?_
   clear F ac
   intro ac F
   refine Y.nil ?_
   replace F : Fr ac 37 [(0, .agg #[.int .i64 gr, .int .i64 hold, .slice na n nc]), (1, .int .i64 ch), (2, .pointer (some ⟨w.heap.size, 0, none⟩)), (4, .int .i64 0), (5, .int .i64 0), (6, .int .i64 (cluE gr hold nd)), (13, .bool false), (16, .bool false), (20, .bool (decide ((sumP nd hold 1000 : Int) ≤ ch)))] := F.sub _
   refine X.thenN ?_
   cases h8 : decide ((sumP nd hold 1000 : Int) ≤ ch) with
   | false =>
    try rw [h8] at F
    have h8p : ¬ ((sumP nd hold 1000 : Int) ≤ ch) := of_decide_eq_false h8
    refine Y.condF (F.ev 20 (.bool false)) ?_
    refine Y.skip ?_
    refine X.thenN ?_
    refine Y.seq ?_
    refine Y.lit (by kernel_rfl) ?_
    refine Y.pval F (X.w0 rfl) rfl (X.assign rfl (X.kc (.int .i64 0) rfl)) ?_
    clear F ac
    intro ac F
    refine Y.pval F (X.w0 rfl) rfl (X.assign rfl (X.kc (.int .i64 1000) rfl)) ?_
    clear F ac
    intro ac F
    refine Y.nil ?_
    replace F : Fr ac 37 [(0, .agg #[.int .i64 gr, .int .i64 hold, .slice na n nc]), (1, .int .i64 ch), (2, .pointer (some ⟨w.heap.size, 0, none⟩)), (4, .int .i64 0), (5, .int .i64 0), (6, .int .i64 (cluE gr hold nd)), (7, .int .i64 0), (8, .int .i64 1000), (13, .bool false), (16, .bool false), (20, .bool false)] := F.sub _
    refine X.thenN ?_
    refine Y.seq ?_
    refine Y.block ?_
    have hndB := hnd
    have hCB := hC
    have GB := G
    refine Y.loop (fun me_ ac wr => ∃ (lo hi : Int), me_ = (hi - lo).toNat ∧ Gr w7 wr ∧ 0 ≤ lo ∧ lo < hi ∧ hi ≤ 1000 ∧ sumP nd hold lo ≤ ch ∧ ch < sumP nd hold hi ∧ Fr ac 37 [(0, .agg #[.int .i64 gr, .int .i64 hold, .slice na n nc]), (1, .int .i64 ch), (2, .pointer (some ⟨w.heap.size, 0, none⟩)), (4, .int .i64 0), (5, .int .i64 0), (6, .int .i64 (cluE gr hold nd)), (7, .int .i64 lo), (8, .int .i64 hi), (13, .bool false), (16, .bool false), (20, .bool false)]) _ ⟨0, 1000, rfl, Gr.refl _, by omega, by omega, by omega, (by rw [sumP_zero]; omega), (by omega), F.sub _⟩ ?_
    clear F
    intro me_ ac w9 hI
    obtain ⟨lo, hi, rfl, gr, hl0, hl1, hl2, hlo, hhi, F⟩ := hI
    replace G := GB.trans gr
    replace hC := hCB.gr gr
    replace hnd := hndB.gr gr
    have GB_ := gr
    clear gr
    refine Y.seq ?_
    refine Y.seq ?_
    refine Y.lit (by kernel_rfl) ?_
    refine Y.pval F (X.w0 rfl) rfl (X.move rfl (F.ev 8 (.int .i64 hi))) ?_
    clear F ac
    intro ac F
    refine Y.pval F (X.w0 rfl) rfl (X.move rfl (F.ev 7 (.int .i64 lo))) ?_
    clear F ac
    intro ac F
    refine Y.pval F (X.w0 rfl) rfl (X.binop rfl (F.ev 21 (.int .i64 hi)) (F.ev 22 (.int .i64 lo)) (X.subI Try.underlying3 rfl (by omega) (by omega))) ?_
    clear F ac
    intro ac F
    refine Y.pval F (X.w0 rfl) rfl (X.binop rfl (F.ev 23 (.int .i64 ((hi : Int) - lo))) (X.kc (.int .i64 1) rfl) (X.gtrI Try.underlying3 rfl)) ?_
    clear F ac
    intro ac F
    refine Y.nil ?_
    replace F : Fr ac 37 [(0, .agg #[.int .i64 gr, .int .i64 hold, .slice na n nc]), (1, .int .i64 ch), (2, .pointer (some ⟨w.heap.size, 0, none⟩)), (4, .int .i64 0), (5, .int .i64 0), (6, .int .i64 (cluE gr hold nd)), (7, .int .i64 lo), (8, .int .i64 hi), (13, .bool false), (16, .bool false), (20, .bool false), (24, .bool (decide ((1 : Int) < ((hi : Int) - lo))))] := F.sub _
    refine X.thenN ?_
    cases h10 : decide ((1 : Int) < ((hi : Int) - lo)) with
    | false =>
     try rw [h10] at F
     have h10p : ¬ ((1 : Int) < ((hi : Int) - lo)) := of_decide_eq_false h10
     refine Y.condF (F.ev 24 (.bool false)) ?_
     refine Y.exit ?_
     refine X.thenX ?_
     refine X.thenX ?_
     refine X.blockX ?_
     refine X.thenN ?_
     refine Y.seq ?_
     refine Y.lit (by kernel_rfl) ?_
     refine Y.pval F (X.w0 rfl) rfl (X.move rfl (F.ev 7 (.int .i64 lo))) ?_
     clear F ac
     intro ac F
     refine Y.pval F (X.w0 rfl) rfl (X.assign rfl (F.ev 36 (.int .i64 lo))) ?_
     clear F ac
     intro ac F
     refine Y.pval F (X.w0 rfl) rfl (X.assign rfl (X.kc (.int .i64 0) rfl)) ?_
     clear F ac
     intro ac F
     refine Y.nil ?_
     replace F : Fr ac 37 [(0, .agg #[.int .i64 gr, .int .i64 hold, .slice na n nc]), (1, .int .i64 ch), (2, .pointer (some ⟨w.heap.size, 0, none⟩)), (4, .int .i64 lo), (5, .int .i64 0), (6, .int .i64 (cluE gr hold nd)), (7, .int .i64 lo), (8, .int .i64 hi), (13, .bool false), (16, .bool false), (20, .bool false), (24, .bool false)] := F.sub _
     refine X.thenN ?_
     refine Y.ret ?_
     have hz0 : lastE gr hold nd ch = 0 := by rw [lastE, if_neg (fun h => h hE), if_neg (by omega), if_neg (by omega)]
     obtain rfl : hi = lo + 1 := by omega
     exact Y.ret0 (v := .tuple #[.int .i64 lo, .int .i64 0]) F (Y.rs2 F rfl (by kernel_rfl) (by kernel_rfl)) ⟨_, by rw [hz0], fun _ => ⟨hl0, by omega, hlo, hhi⟩, fun h => absurd hz0 h, G⟩
    | true =>
     try rw [h10] at F
     have h10p : ((1 : Int) < ((hi : Int) - lo)) := of_decide_eq_true h10
     refine Y.condT (F.ev 24 (.bool true)) ?_
     refine Y.skip ?_
     refine X.thenN ?_
     refine Y.block ?_
     refine Y.seq ?_
     refine Y.lit (by kernel_rfl) ?_
     refine Y.pval F (X.w0 rfl) rfl (X.move rfl (F.ev 7 (.int .i64 lo))) ?_
     clear F ac
     intro ac F
     refine Y.pval F (X.w0 rfl) rfl (X.move rfl (F.ev 8 (.int .i64 hi))) ?_
     clear F ac
     intro ac F
     refine Y.pval F (X.w0 rfl) rfl (X.binop rfl (F.ev 25 (.int .i64 lo)) (F.ev 26 (.int .i64 hi)) (X.addI Try.underlying3 rfl (by omega) (by omega))) ?_
     clear F ac
     intro ac F
     refine Y.pval F (X.w0 rfl) rfl (X.binop rfl (F.ev 27 (.int .i64 ((lo : Int) + hi))) (X.kc (.int .i64 2) rfl) (X.quoI Try.underlying3 rfl (by omega) (by omega))) ?_
     clear F ac
     intro ac F
     refine Y.pval F (X.w0 rfl) rfl (X.assign rfl (F.ev 28 (.int .i64 (((lo : Int) + hi : Int) / 2)))) ?_
     clear F ac
     intro ac F
     refine Y.nil ?_
     replace F : Fr ac 37 [(0, .agg #[.int .i64 gr, .int .i64 hold, .slice na n nc]), (1, .int .i64 ch), (2, .pointer (some ⟨w.heap.size, 0, none⟩)), (4, .int .i64 0), (5, .int .i64 0), (6, .int .i64 (cluE gr hold nd)), (7, .int .i64 lo), (8, .int .i64 hi), (9, .int .i64 (((lo : Int) + hi : Int) / 2)), (13, .bool false), (16, .bool false), (20, .bool false), (24, .bool true)] := F.sub _
     refine X.thenN ?_
     refine Y.seq ?_
     refine Y.lit (by kernel_rfl) ?_
     refine Y.pval F (X.w0 rfl) rfl (X.load rfl (F.ev 2 (.pointer (some ⟨w.heap.size, 0, none⟩))) (X.ldN (Try.agg24 _) (Try.siz24 _) (Y.atz (⟨w.heap.size, 0, none⟩) (Y.AtFrom.cons (hC.at 0 rfl) (Y.AtFrom.cons (hC.at 1 rfl) (Y.AtFrom.cons (hC.at 2 rfl) (Y.AtFrom.nil _ _ _))))))) ?_
     clear F ac
     intro ac F
     refine Y.pval F (X.w0 rfl) rfl (X.move rfl (F.ev 9 (.int .i64 (((lo : Int) + hi : Int) / 2)))) ?_
     clear F ac
     intro ac F
     refine Y.pcall F (X.w0 rfl) rfl (X.enter (F := 53) rfl (X.kc (.func (.func 53) #[] #[]) rfl) (X.a2 (F.ev 29 (.agg #[.int .i64 gr, .int .i64 hold, .slice na n nc])) (F.ev 30 (.int .i64 (((lo : Int) + hi : Int) / 2)))) (enters_of Try.func53 (by kernel_rfl) rfl _)) (parked2_any na n nc gr hold (((lo : Int) + hi : Int) / 2) nd w9 hnd hc ⟨by omega, by omega⟩) ?_
     clear F ac
     rintro e w11 ⟨rfl, g⟩
     refine ⟨_, rfl, ?_⟩
     intro ac F
     replace G := G.trans g
     replace hC := hC.gr g
     replace GB_ := GB_.trans g
     replace hnd := hnd.gr g
     clear g
     refine Y.pval F (X.w0 rfl) rfl (X.move rfl (F.ev 1 (.int .i64 ch))) ?_
     clear F ac
     intro ac F
     refine Y.pval F (X.w0 rfl) rfl (X.binop rfl (F.ev 31 (.int .i64 (sumP nd hold (((lo : Int) + hi : Int) / 2)))) (F.ev 32 (.int .i64 ch)) (X.leqI Try.underlying3 rfl)) ?_
     clear F ac
     intro ac F
     refine Y.nil ?_
     replace F : Fr ac 37 [(0, .agg #[.int .i64 gr, .int .i64 hold, .slice na n nc]), (1, .int .i64 ch), (2, .pointer (some ⟨w.heap.size, 0, none⟩)), (4, .int .i64 0), (5, .int .i64 0), (6, .int .i64 (cluE gr hold nd)), (7, .int .i64 lo), (8, .int .i64 hi), (9, .int .i64 (((lo : Int) + hi : Int) / 2)), (13, .bool false), (16, .bool false), (20, .bool false), (24, .bool true), (33, .bool (decide ((sumP nd hold (((lo : Int) + hi : Int) / 2) : Int) ≤ ch)))] := F.sub _
     refine X.thenN ?_
     cases h12 : decide ((sumP nd hold (((lo : Int) + hi : Int) / 2) : Int) ≤ ch) with
     | false =>
      try rw [h12] at F
      have h12p : ¬ ((sumP nd hold (((lo : Int) + hi : Int) / 2) : Int) ≤ ch) := of_decide_eq_false h12
      refine Y.condF (F.ev 33 (.bool false)) ?_
      refine Y.lit (by kernel_rfl) ?_
      refine Y.pval F (X.w0 rfl) rfl (X.move rfl (F.ev 9 (.int .i64 (((lo : Int) + hi : Int) / 2)))) ?_
      clear F ac
      intro ac F
      refine Y.pval F (X.w0 rfl) rfl (X.assign rfl (F.ev 35 (.int .i64 (((lo : Int) + hi : Int) / 2)))) ?_
      clear F ac
      intro ac F
      refine Y.nil ?_
      replace F : Fr ac 37 [(0, .agg #[.int .i64 gr, .int .i64 hold, .slice na n nc]), (1, .int .i64 ch), (2, .pointer (some ⟨w.heap.size, 0, none⟩)), (4, .int .i64 0), (5, .int .i64 0), (6, .int .i64 (cluE gr hold nd)), (7, .int .i64 lo), (8, .int .i64 (((lo : Int) + hi : Int) / 2)), (9, .int .i64 (((lo : Int) + hi : Int) / 2)), (13, .bool false), (16, .bool false), (20, .bool false), (24, .bool true), (33, .bool false)] := F.sub _
      refine X.blockN ?_
      refine X.thenN ?_
      refine ⟨_, ?_, lo, (((lo : Int) + hi : Int) / 2), rfl, GB_, by omega, by omega, by omega, (by omega), (by omega), F.sub _⟩
      omega
     | true =>
      try rw [h12] at F
      have h12p : ((sumP nd hold (((lo : Int) + hi : Int) / 2) : Int) ≤ ch) := of_decide_eq_true h12
      refine Y.condT (F.ev 33 (.bool true)) ?_
      refine Y.lit (by kernel_rfl) ?_
      refine Y.pval F (X.w0 rfl) rfl (X.move rfl (F.ev 9 (.int .i64 (((lo : Int) + hi : Int) / 2)))) ?_
      clear F ac
      intro ac F
      refine Y.pval F (X.w0 rfl) rfl (X.assign rfl (F.ev 34 (.int .i64 (((lo : Int) + hi : Int) / 2)))) ?_
      clear F ac
      intro ac F
      refine Y.nil ?_
      replace F : Fr ac 37 [(0, .agg #[.int .i64 gr, .int .i64 hold, .slice na n nc]), (1, .int .i64 ch), (2, .pointer (some ⟨w.heap.size, 0, none⟩)), (4, .int .i64 0), (5, .int .i64 0), (6, .int .i64 (cluE gr hold nd)), (7, .int .i64 (((lo : Int) + hi : Int) / 2)), (8, .int .i64 hi), (9, .int .i64 (((lo : Int) + hi : Int) / 2)), (13, .bool false), (16, .bool false), (20, .bool false), (24, .bool true), (33, .bool true)] := F.sub _
      refine X.blockN ?_
      refine X.thenN ?_
      refine ⟨_, ?_, (((lo : Int) + hi : Int) / 2), hi, rfl, GB_, by omega, by omega, by omega, (by omega), (by omega), F.sub _⟩
      omega
   | true =>
    try rw [h8] at F
    have h8p : ((sumP nd hold 1000 : Int) ≤ ch) := of_decide_eq_true h8
    refine Y.condT (F.ev 20 (.bool true)) ?_
    refine Y.seq ?_
    refine Y.lit (by kernel_rfl) ?_
    refine Y.pval F (X.w0 rfl) rfl (X.assign rfl (X.kc (.int .i64 0) rfl)) ?_
    clear F ac
    intro ac F
    refine Y.pval F (X.w0 rfl) rfl (X.assign rfl (X.kc (.int .i64 3) rfl)) ?_
    clear F ac
    intro ac F
    refine Y.nil ?_
    replace F : Fr ac 37 [(0, .agg #[.int .i64 gr, .int .i64 hold, .slice na n nc]), (1, .int .i64 ch), (2, .pointer (some ⟨w.heap.size, 0, none⟩)), (4, .int .i64 0), (5, .int .i64 3), (6, .int .i64 (cluE gr hold nd)), (13, .bool false), (16, .bool false), (20, .bool true)] := F.sub _
    refine X.thenN ?_
    refine Y.ret ?_
    refine X.thenR ?_
    exact Y.ret0 (v := .tuple #[.int .i64 0, .int .i64 3]) F (Y.rs2 F rfl (by kernel_rfl) (by kernel_rfl)) ⟨_, by rw [lastE, if_neg (fun h => h hE), if_neg (by omega), if_pos (by omega)], fun h => absurd h (by rw [lastE, if_neg (fun h => h hE), if_neg (by omega), if_pos (by omega)]; decide), fun _ => rfl, G⟩
  | true =>
   try rw [h6] at F
   have h6p : ((ch : Int) < 0) := of_decide_eq_true h6
   refine Y.condT (F.ev 16 (.bool true)) ?_
   refine Y.seq ?_
   refine Y.lit (by kernel_rfl) ?_
   refine Y.pval F (X.w0 rfl) rfl (X.assign rfl (X.kc (.int .i64 0) rfl)) ?_
   clear F ac
   intro ac F
   refine Y.pval F (X.w0 rfl) rfl (X.assign rfl (X.kc (.int .i64 1) rfl)) ?_
   clear F ac
   intro ac F
   refine Y.nil ?_
   replace F : Fr ac 37 [(0, .agg #[.int .i64 gr, .int .i64 hold, .slice na n nc]), (1, .int .i64 ch), (2, .pointer (some ⟨w.heap.size, 0, none⟩)), (4, .int .i64 0), (5, .int .i64 1), (6, .int .i64 (cluE gr hold nd)), (13, .bool false), (16, .bool true)] := F.sub _
   refine X.thenN ?_
   refine Y.ret ?_
   refine X.thenR ?_
   exact Y.ret0 (v := .tuple #[.int .i64 0, .int .i64 1]) F (Y.rs2 F rfl (by kernel_rfl) (by kernel_rfl)) ⟨_, by rw [lastE, if_neg (fun h => h hE), if_pos (by omega)], fun h => absurd h (by rw [lastE, if_neg (fun h => h hE), if_pos (by omega)]; decide), fun _ => rfl, G⟩
 | true =>
  try rw [h5] at F
  have h5p : ¬ (cluE gr hold nd : Int) = 0 := by simpa using h5
  have hE : ¬ cluE gr hold nd = 0 := by simpa using h5p
  refine Y.condT (F.ev 13 (.bool true)) ?_
  refine Y.seq ?_
  refine Y.lit (by kernel_rfl) ?_
  refine Y.pval F (X.w0 rfl) rfl (X.move rfl (F.ev 6 (.int .i64 (cluE gr hold nd)))) ?_
  clear F ac
  intro ac F
  refine Y.pval F (X.w0 rfl) rfl (X.assign rfl (X.kc (.int .i64 0) rfl)) ?_
  clear F ac
  intro ac F
  refine Y.pval F (X.w0 rfl) rfl (X.assign rfl (F.ev 14 (.int .i64 (cluE gr hold nd)))) ?_
  clear F ac
  intro ac F
  refine Y.nil ?_
  replace F : Fr ac 37 [(0, .agg #[.int .i64 gr, .int .i64 hold, .slice na n nc]), (1, .int .i64 ch), (2, .pointer (some ⟨w.heap.size, 0, none⟩)), (4, .int .i64 0), (5, .int .i64 (cluE gr hold nd)), (6, .int .i64 (cluE gr hold nd)), (13, .bool true)] := F.sub _
  refine X.thenN ?_
  refine Y.ret ?_
  refine X.thenR ?_
  exact Y.ret0 (v := .tuple #[.int .i64 0, .int .i64 (cluE gr hold nd)]) F (Y.rs2 F rfl (by kernel_rfl) (by kernel_rfl)) ⟨_, by rw [lastE, if_pos hE], fun h => absurd h (by rw [lastE, if_pos hE]; exact hE), fun _ => rfl, G⟩
end
section
open Go.RowKit

set_option maxRecDepth 100000 in
set_option maxHeartbeats 400000 in
theorem same_any (a b : Option Addr) (n c m d : Nat) (xs ys : List Int) (w : World) (hx : Ints w a n xs) (hy : Ints w b m ys) :
  Calls Try.prog 27 #[.slice a n c, .slice b m d] w fun e w' => e = .returned (.bool (decide (xs = ys))) ∧ Gr w w' := by
 have G := Gr.refl w
 have hxl := hx.len
 have hyl := hy.len
 have hlt := hx.lt
 have hlt2 := hy.lt
 refine Y.calls 26 Try.func27 rfl rfl ?_
 intro ac F0
 have F : Fr ac 26 [(0, .slice a n c), (1, .slice b m d)] := F0.sub _
 clear F0
 refine Y.seq ?_
 refine Y.lit (by kernel_rfl) ?_
 refine Y.pval F (X.w0 rfl) rfl (X.assign rfl (X.kc (.bool false) rfl)) ?_
 clear F ac
 intro ac F
 refine Y.nil ?_
 replace F : Fr ac 26 [(0, .slice a n c), (1, .slice b m d), (4, .bool false)] := F.sub _
 refine X.thenN ?_
 refine Y.seq ?_
 refine Y.seq ?_
 refine Y.lit (by kernel_rfl) ?_
 refine Y.pval F (X.w0 rfl) rfl (X.move rfl (F.ev 0 (.slice a n c))) ?_
 clear F ac
 intro ac F
 refine Y.pval F (X.w0 rfl) rfl (X.len1 Try.underlying34 rfl (F.ev 6 (.slice a n c))) ?_
 clear F ac
 intro ac F
 refine Y.pval F (X.w0 rfl) rfl (X.move rfl (F.ev 1 (.slice b m d))) ?_
 clear F ac
 intro ac F
 refine Y.pval F (X.w0 rfl) rfl (X.len1 Try.underlying34 rfl (F.ev 8 (.slice b m d))) ?_
 clear F ac
 intro ac F
 refine Y.pval F (X.w0 rfl) rfl (X.binop rfl (F.ev 7 (.int .i64 n)) (F.ev 9 (.int .i64 m)) (X.neqI Try.underlying3 rfl)) ?_
 clear F ac
 intro ac F
 refine Y.nil ?_
 replace F : Fr ac 26 [(0, .slice a n c), (1, .slice b m d), (4, .bool false), (10, .bool ((n : Int) != m))] := F.sub _
 refine X.thenN ?_
 cases h3 : ((n : Int) != m) with
 | false =>
  try rw [h3] at F
  have h3p : (n : Int) = m := by simpa using h3
  have hnm : m = n := by omega
  have hl2 : xs.length = ys.length := by omega
  refine Y.condF (F.ev 10 (.bool false)) ?_
  refine Y.skip ?_
  refine X.thenN ?_
  refine Y.seq ?_
  refine Y.seq ?_
  refine Y.lit (by kernel_rfl) ?_
  refine Y.pval F (X.w0 rfl) rfl (X.assign rfl (X.kc (.int .i64 0) rfl)) ?_
  clear F ac
  intro ac F
  refine Y.nil ?_
  replace F : Fr ac 26 [(0, .slice a n c), (1, .slice b m d), (4, .bool false), (5, .int .i64 0), (10, .bool false)] := F.sub _
  refine X.thenN ?_
  refine Y.block ?_
  have hxB := hx
  have hyB := hy
  have GB := G
  refine Y.loop (fun me_ ac wr => ∃ (i : Nat), me_ = n - i ∧ Gr w wr ∧ i ≤ n ∧ (∀ j, j < i → xs[j]?.getD 0 = ys[j]?.getD 0) ∧ Fr ac 26 [(0, .slice a n c), (1, .slice b m d), (5, .int .i64 i), (10, .bool false)]) _ ⟨0, rfl, Gr.refl _, Nat.zero_le _, fun j h => by omega, F.sub _⟩ ?_
  clear F
  intro me_ ac w4 hI
  obtain ⟨i, rfl, gr, hi, hsame, F⟩ := hI
  replace G := GB.trans gr
  replace hx := hxB.gr gr
  replace hy := hyB.gr gr
  have GB_ := gr
  clear gr
  refine Y.seq ?_
  refine Y.seq ?_
  refine Y.lit (by kernel_rfl) ?_
  refine Y.pval F (X.w0 rfl) rfl (X.move rfl (F.ev 5 (.int .i64 i))) ?_
  clear F ac
  intro ac F
  refine Y.pval F (X.w0 rfl) rfl (X.move rfl (F.ev 0 (.slice a n c))) ?_
  clear F ac
  intro ac F
  refine Y.pval F (X.w0 rfl) rfl (X.len1 Try.underlying34 rfl (F.ev 12 (.slice a n c))) ?_
  clear F ac
  intro ac F
  refine Y.pval F (X.w0 rfl) rfl (X.binop rfl (F.ev 11 (.int .i64 i)) (F.ev 13 (.int .i64 n)) (X.lssI Try.underlying3 rfl)) ?_
  clear F ac
  intro ac F
  refine Y.nil ?_
  replace F : Fr ac 26 [(0, .slice a n c), (1, .slice b m d), (5, .int .i64 i), (10, .bool false), (14, .bool (decide ((i : Int) < n)))] := F.sub _
  refine X.thenN ?_
  cases h5 : decide ((i : Int) < n) with
  | false =>
   try rw [h5] at F
   have h5p : ¬ ((i : Int) < n) := of_decide_eq_false h5
   have hin : i = n := by omega
   refine Y.condF (F.ev 14 (.bool false)) ?_
   refine Y.exit ?_
   refine X.thenX ?_
   refine X.thenX ?_
   refine X.blockX ?_
   refine X.thenN ?_
   refine Y.seq ?_
   refine Y.lit (by kernel_rfl) ?_
   refine Y.pval F (X.w0 rfl) rfl (X.assign rfl (X.kc (.bool true) rfl)) ?_
   clear F ac
   intro ac F
   refine Y.nil ?_
   replace F : Fr ac 26 [(0, .slice a n c), (1, .slice b m d), (4, .bool true), (5, .int .i64 i), (10, .bool false), (14, .bool false)] := F.sub _
   refine X.thenN ?_
   refine Y.ret ?_
   exact Y.ret0 (v := .bool true) F (Y.rs1 F rfl (by kernel_rfl)) ⟨by rw [same_yes hl2 (fun j hj => hsame j (by omega))], G⟩
  | true =>
   try rw [h5] at F
   have h5p : ((i : Int) < n) := of_decide_eq_true h5
   refine Y.condT (F.ev 14 (.bool true)) ?_
   refine Y.skip ?_
   refine X.thenN ?_
   refine Y.seq ?_
   refine Y.block ?_
   refine Y.seq ?_
   obtain ⟨pd6, pe6, -, pc6⟩ := hx.at (j := i) (by omega)
   subst pe6
   have hC : RCells w4 [(pd6.add i, .int .i64 (xs[i]?.getD 0))] := (RCells.cons pc6 (RCells.nil _))
   clear pc6
   obtain ⟨pd7, pe7, -, pc7⟩ := hy.at (j := i) (by omega)
   subst pe7
   replace hC : RCells w4 [(pd6.add i, .int .i64 (xs[i]?.getD 0)), (pd7.add i, .int .i64 (ys[i]?.getD 0))] := hC.append ((RCells.cons pc7 (RCells.nil _)))
   clear pc7
   refine Y.region F [some (.slice (some pd6) n c), some (.int .i64 i), some (.pointer (some (pd6.add i))), some (.int .i64 (xs[i]?.getD 0)), some (.slice (some pd7) m d), some (.int .i64 i), some (.pointer (some (pd7.add i))), some (.int .i64 (ys[i]?.getD 0)), some (.bool ((xs[i]?.getD 0 : Int) != (ys[i]?.getD 0)))] [] rfl ⟨by kernel_rfl, of_decide_eq_true (by kernel_rfl), by kernel_rfl, by kernel_rfl, by kernel_rfl⟩ ⟨?_, ?_, ?_, ?_, ?_, ?_, ?_, ?_, ?_, trivial⟩ ?_
   ·intro ac done u W Sx hR
    exact X.val (X.w0 rfl) rfl (X.move rfl (Sx.ev 0 (.slice (some pd6) n c))) (hR.step (Gr.refl _) rfl)
   ·intro ac done u W Sx hR
    exact X.val (X.w0 rfl) rfl (X.move rfl (Sx.ev 5 (.int .i64 i))) (hR.step (Gr.refl _) rfl)
   ·intro ac done u W Sx hR
    exact X.val (X.w0 rfl) rfl (X.index rfl (Sx.ev 17 (.slice (some pd6) n c)) (Sx.ev 18 (.int .i64 i)) (X.idx (k := i) Try.underlying34 (Try.siz3 _) (by omega) (by omega) (by rw [Nat.mul_one]))) (hR.step (Gr.refl _) rfl)
   ·intro ac done u W Sx hR
    have g : Gr w4 W := hR.1
    exact X.val (X.w0 rfl) rfl (X.load rfl (Sx.ev 19 (.pointer (some (pd6.add i)))) (X.ld1 (Try.agg3 _) ((hC.gr g).at 0 rfl))) (hR.step (Gr.refl _) rfl)
   ·intro ac done u W Sx hR
    exact X.val (X.w0 rfl) rfl (X.move rfl (Sx.ev 1 (.slice (some pd7) m d))) (hR.step (Gr.refl _) rfl)
   ·intro ac done u W Sx hR
    exact X.val (X.w0 rfl) rfl (X.move rfl (Sx.ev 5 (.int .i64 i))) (hR.step (Gr.refl _) rfl)
   ·intro ac done u W Sx hR
    exact X.val (X.w0 rfl) rfl (X.index rfl (Sx.ev 21 (.slice (some pd7) m d)) (Sx.ev 22 (.int .i64 i)) (X.idx (k := i) Try.underlying34 (Try.siz3 _) (by omega) (by omega) (by rw [Nat.mul_one]))) (hR.step (Gr.refl _) rfl)
   ·intro ac done u W Sx hR
    have g : Gr w4 W := hR.1
    exact X.val (X.w0 rfl) rfl (X.load rfl (Sx.ev 23 (.pointer (some (pd7.add i)))) (X.ld1 (Try.agg3 _) ((hC.gr g).at 1 rfl))) (hR.step (Gr.refl _) rfl)
   ·intro ac done u W Sx hR
    exact X.val (X.w0 rfl) rfl (X.binop rfl (Sx.ev 20 (.int .i64 (xs[i]?.getD 0))) (Sx.ev 24 (.int .i64 (ys[i]?.getD 0))) (X.neqI Try.underlying3 rfl)) (hR.step (Gr.refl _) rfl)
   intro ac u w8 hs hd hl ho hR
   have g : Gr w4 w8 := hR.1
   replace F : Fr ac 26 [(0, .slice (some pd6) n c), (1, .slice (some pd7) m d), (5, .int .i64 i), (10, .bool false), (14, .bool true), (25, .bool ((xs[i]?.getD 0 : Int) != (ys[i]?.getD 0)))] := X.fr hs hd hl _ (by kernel_rfl)
   clear hs hd hl ho hR
   replace G := G.trans g
   replace hC := hC.gr g
   replace GB_ := GB_.trans g
   replace hx := hx.gr g
   replace hy := hy.gr g
   clear g
   refine X.thenN ?_
   cases h9 : ((xs[i]?.getD 0 : Int) != (ys[i]?.getD 0)) with
   | false =>
    try rw [h9] at F
    have h9p : (xs[i]?.getD 0 : Int) = (ys[i]?.getD 0) := by simpa using h9
    refine Y.condF (F.ev 25 (.bool false)) ?_
    refine Y.skip ?_
    refine X.blockN ?_
    refine X.thenN ?_
    refine Y.lit (by kernel_rfl) ?_
    refine Y.pval F (X.w0 rfl) rfl (X.move rfl (F.ev 5 (.int .i64 i))) ?_
    clear F ac
    intro ac F
    refine Y.pval F (X.w0 rfl) rfl (X.binop rfl (F.ev 15 (.int .i64 i)) (X.kc (.int .i64 1) rfl) (X.addI Try.underlying3 rfl (by omega) (by omega))) ?_
    clear F ac
    intro ac F
    refine Y.pval F (X.w0 rfl) rfl (X.assign rfl (F.ev 16 (.int .i64 ((i : Int) + 1)))) ?_
    clear F ac
    intro ac F
    refine Y.nil ?_
    replace F : Fr ac 26 [(0, .slice (some pd6) n c), (1, .slice (some pd7) m d), (5, .int .i64 ((i : Int) + 1)), (10, .bool false), (14, .bool true), (25, .bool false)] := F.sub _
    refine X.thenN ?_
    refine ⟨_, ?_, i + 1, rfl, GB_, by omega, fun j hj => if e : j = i then by rw [e]; exact h9p else hsame j (by omega), F.sub _⟩
    omega
   | true =>
    try rw [h9] at F
    have h9p : ¬ (xs[i]?.getD 0 : Int) = (ys[i]?.getD 0) := by simpa using h9
    refine Y.condT (F.ev 25 (.bool true)) ?_
    refine Y.seq ?_
    refine Y.lit (by kernel_rfl) ?_
    refine Y.pval F (X.w0 rfl) rfl (X.assign rfl (X.kc (.bool false) rfl)) ?_
    clear F ac
    intro ac F
    refine Y.nil ?_
    replace F : Fr ac 26 [(0, .slice (some pd6) n c), (1, .slice (some pd7) m d), (4, .bool false), (5, .int .i64 i), (10, .bool false), (14, .bool true), (25, .bool true)] := F.sub _
    refine X.thenN ?_
    refine Y.ret ?_
    refine X.blockR ?_
    refine X.thenR ?_
    refine X.thenR ?_
    refine X.blockR ?_
    refine X.thenR ?_
    exact Y.ret0 (v := .bool false) F (Y.rs1 F rfl (by kernel_rfl)) ⟨by rw [same_no (by omega) hl2 h9p], G⟩
 | true =>
  try rw [h3] at F
  have h3p : ¬ (n : Int) = m := by simpa using h3
  refine Y.condT (F.ev 10 (.bool true)) ?_
  refine Y.seq ?_
  refine Y.lit (by kernel_rfl) ?_
  refine Y.pval F (X.w0 rfl) rfl (X.assign rfl (X.kc (.bool false) rfl)) ?_
  clear F ac
  intro ac F
  refine Y.nil ?_
  replace F : Fr ac 26 [(0, .slice a n c), (1, .slice b m d), (4, .bool false), (10, .bool true)] := F.sub _
  refine X.thenN ?_
  refine Y.ret ?_
  refine X.thenR ?_
  exact Y.ret0 (v := .bool false) F (Y.rs1 F rfl (by kernel_rfl)) ⟨by rw [show decide (xs = ys) = false by simp only [decide_eq_false_iff_not]; intro e; subst e; omega], G⟩
end
section
open Go.RowKit

theorem st_only {S : Nat → Prop} {w w' : World} {k : Nat} {a : Option Addr} {n : Nat} {L : List (List Int)} (h : StAt w k a n L) (g : Only S w w') (hn : ∀ ad, a = some ad → ¬ S ad.block) : StAt w' k a n L :=
  ⟨h.1, h.2.1, fun j hj => by
    obtain ⟨ad, e, hb, hl, hc⟩ := h.2.2 j hj
    exact ⟨ad, e, Nat.lt_of_lt_of_le hb g.size, hl, fun r hr => g.cell (hc r hr) (by rw [add_block, add_block]; exact hn ad e)⟩⟩
set_option maxRecDepth 100000 in
set_option maxHeartbeats 400000 in
theorem example_any (w : World) :
  Calls Try.prog 43 #[] w fun e w' => ∃ a, e = .returned (.agg #[.int .i64 2, .int .i64 3, .slice a 3 3]) ∧ StAt w' 5 a 3 exN ∧ Gr w w' := by
 have G := Gr.refl w
 refine Y.calls 6 Try.func43 rfl rfl ?_
 intro ac F0
 have F : Fr ac 6 [] := F0.sub _
 clear F0
 refine Y.seq ?_
 refine Y.lit (by kernel_rfl) ?_
 refine Y.pval F (X.w0 rfl) rfl (Y.al rfl (Try.new24 _)) ?_
 clear F ac
 intro ac F
 have g := Gr.alloc w (.cells #[.int .i64 0, .int .i64 0, .slice none 0 0] 24)
 have hb := heap_alloc_new w (.cells #[.int .i64 0, .int .i64 0, .slice none 0 0] 24)
 have hbl : w.heap.size < (w.alloc (.cells #[.int .i64 0, .int .i64 0, .slice none 0 0] 24)).heap.size := by simp
 generalize w.alloc (.cells #[.int .i64 0, .int .i64 0, .slice none 0 0] 24) = w3 at *
 replace G := G.trans g
 have hV := ownP_box (vs := [.int .i64 0, .int .i64 0, .slice none 0 0]) hb
 clear g hb hbl
 have hVl : w.heap.size < w3.heap.size := hV.lt
 refine Y.nil ?_
 replace F : Fr ac 6 [(0, .pointer (some ⟨w.heap.size, 0, none⟩))] := F.sub _
 refine X.thenN ?_
 refine Y.seq ?_
 refine Y.lit (by kernel_rfl) ?_
 refine Y.pval F (X.w0 rfl) rfl (Y.bd rfl rfl (Try.exb1 _)) ?_
 clear F ac
 intro ac F
 refine Y.pval F (X.w0 rfl) rfl (Y.bd rfl rfl (Try.exb2 _)) ?_
 clear F ac
 intro ac F
 refine Y.pval F (X.w0 rfl) rfl (Y.bd rfl rfl (Try.exb3 _)) ?_
 clear F ac
 intro ac F
 refine Y.pval F (X.w0 rfl) rfl (X.bs rfl (Y.b3 (F.ev 1 (.agg #[.int .i64 1, .int .i64 10, .int .i64 1, .int .i64 1, .int .i64 5])) (F.ev 2 (.agg #[.int .i64 3, .int .i64 20, .int .i64 2, .int .i64 2, .int .i64 10])) (F.ev 3 (.agg #[.int .i64 2, .int .i64 30, .int .i64 0, .int .i64 0, .int .i64 1]))) (Try.exs _)) ?_
 clear F ac
 intro ac F
 have g := Gr.alloc w3 (.cells #[.int .i64 1, .int .i64 10, .int .i64 1, .int .i64 1, .int .i64 5, .int .i64 3, .int .i64 20, .int .i64 2, .int .i64 2, .int .i64 10, .int .i64 2, .int .i64 30, .int .i64 0, .int .i64 0, .int .i64 1] 31)
 have hb := heap_alloc_new w3 (.cells #[.int .i64 1, .int .i64 10, .int .i64 1, .int .i64 1, .int .i64 5, .int .i64 3, .int .i64 20, .int .i64 2, .int .i64 2, .int .i64 10, .int .i64 2, .int .i64 30, .int .i64 0, .int .i64 0, .int .i64 1] 31)
 have hbl : w3.heap.size < (w3.alloc (.cells #[.int .i64 1, .int .i64 10, .int .i64 1, .int .i64 1, .int .i64 5, .int .i64 3, .int .i64 20, .int .i64 2, .int .i64 2, .int .i64 10, .int .i64 2, .int .i64 30, .int .i64 0, .int .i64 0, .int .i64 1] 31)).heap.size := by simp
 generalize w3.alloc (.cells #[.int .i64 1, .int .i64 10, .int .i64 1, .int .i64 1, .int .i64 5, .int .i64 3, .int .i64 20, .int .i64 2, .int .i64 2, .int .i64 10, .int .i64 2, .int .i64 30, .int .i64 0, .int .i64 0, .int .i64 1] 31) = w4 at *
 replace G := G.trans g
 replace hV := hV.gr g
 have hexN := exN_at hb
 clear g hb hbl
 refine Y.pval F (X.w0 rfl) rfl (Y.bd rfl (Y.b3 (X.kc (.int .i64 2) rfl) (X.kc (.int .i64 3) rfl) (F.ev 4 (.slice (some ⟨w3.heap.size, 0, none⟩) 3 3))) (Try.exc _ _ _ _ _ _)) ?_
 clear F ac
 intro ac F
 obtain ⟨w5, hrun, hS2, hon⟩ := hV.stL (P := Try.prog) (t := 24) [.int .i64 2, .int .i64 3, .slice (some ⟨w3.heap.size, 0, none⟩) 3 3] rfl (fun W => Try.siz24 W) rfl
 refine Y.punit F (X.w0 rfl) rfl (X.store rfl (F.ev 0 (.pointer (some ⟨w.heap.size, 0, none⟩))) (F.ev 5 (.agg #[.int .i64 2, .int .i64 3, .slice (some ⟨w3.heap.size, 0, none⟩) 3 3])) hrun) ?_
 clear F ac hrun
 intro ac F
 have hexN : StAt w5 5 (some ⟨w3.heap.size, 0, none⟩) 3 exN := st_only hexN hon (fun ad e h => by cases e; exact absurd h (by show ¬ w3.heap.size = w.heap.size; have := hVl; omega))
 replace G := Y.Only.up G hon (Nat.le_refl _)
 replace hV := hS2
 refine Y.nil ?_
 replace F : Fr ac 6 [(0, .pointer (some ⟨w.heap.size, 0, none⟩))] := F.sub _
 refine X.thenN ?_
 refine Y.ret ?_
 exact Y.ret0 (v := .agg #[.int .i64 2, .int .i64 3, .slice (some ⟨w3.heap.size, 0, none⟩) 3 3]) F (Y.rc13 F rfl (Try.agg24 _) (Try.siz24 _) (by kernel_rfl) hV) ⟨_, rfl, hexN, G⟩
set_option maxRecDepth 100000 in
set_option maxHeartbeats 1000000 in
theorem works_any (w : World) :
  Calls Try.prog 16 #[] w fun e w' => e = .returned (.bool true) ∧ Gr w w' := by
 have G := Gr.refl w
 refine Y.calls 40 Try.func16 rfl rfl ?_
 intro ac F0
 have F : Fr ac 40 [] := F0.sub _
 clear F0
 refine Y.seq ?_
 refine Y.lit (by kernel_rfl) ?_
 refine Y.pval F (X.w0 rfl) rfl (X.assign rfl (X.kc (.bool false) rfl)) ?_
 clear F ac
 intro ac F
 refine Y.nil ?_
 replace F : Fr ac 40 [(0, .bool false)] := F.sub _
 refine X.thenN ?_
 refine Y.seq ?_
 refine Y.lit (by kernel_rfl) ?_
 refine Y.pcall F (X.w0 rfl) rfl (X.enter (F := 43) rfl (X.kc (.func (.func 43) #[] #[]) rfl) rfl (enters_of Try.func43 (by kernel_rfl) rfl _)) (example_any w) ?_
 clear F ac
 rintro e w4 ⟨ea3, rfl, hN3, g⟩
 refine ⟨_, rfl, ?_⟩
 intro ac F
 replace G := G.trans g
 clear g
 refine Y.pval F (X.w0 rfl) rfl (Y.bd rfl rfl (Try.exn1 _)) ?_
 clear F ac
 intro ac F
 refine Y.pval F (X.w0 rfl) rfl (Y.bd rfl rfl (Try.exn2 _)) ?_
 clear F ac
 intro ac F
 refine Y.pval F (X.w0 rfl) rfl (X.bs rfl (X.b2 (F.ev 8 (.agg #[.int .i64 1, .int .i64 1, .int .i64 1, .int .i64 0])) (F.ev 9 (.agg #[.int .i64 2, .int .i64 2, .int .i64 1, .int .i64 0]))) (Try.exm _)) ?_
 clear F ac
 intro ac F
 have g := Gr.alloc w4 (.cells #[.int .i64 1, .int .i64 1, .int .i64 1, .int .i64 0, .int .i64 2, .int .i64 2, .int .i64 1, .int .i64 0] 33)
 have hb := heap_alloc_new w4 (.cells #[.int .i64 1, .int .i64 1, .int .i64 1, .int .i64 0, .int .i64 2, .int .i64 2, .int .i64 1, .int .i64 0] 33)
 have hbl : w4.heap.size < (w4.alloc (.cells #[.int .i64 1, .int .i64 1, .int .i64 1, .int .i64 0, .int .i64 2, .int .i64 2, .int .i64 1, .int .i64 0] 33)).heap.size := by simp
 generalize w4.alloc (.cells #[.int .i64 1, .int .i64 1, .int .i64 1, .int .i64 0, .int .i64 2, .int .i64 2, .int .i64 1, .int .i64 0] 33) = w5 at *
 replace G := G.trans g
 replace hN3 := hN3.gr g
 have hexL := exL_at hb
 clear g hb hbl
 refine Y.pcall F (X.w0 rfl) rfl (X.enter (F := 18) rfl (X.kc (.func (.func 18) #[] #[]) rfl) (X.a3 (F.ev 7 (.agg #[.int .i64 2, .int .i64 3, .slice ea3 3 3])) (X.kc (.int .i64 6) rfl) (F.ev 10 (.slice (some ⟨w4.heap.size, 0, none⟩) 2 2))) (enters_of Try.func18 (by kernel_rfl) rfl _)) (play_any ea3 (some ⟨w4.heap.size, 0, none⟩) 3 3 2 2 2 3 6 exN exL w5 hN3 hexL) ?_
 clear F ac
 rintro e w7 ⟨ra, rn, rc, za, zn, zc, rfl, hIr, hIe, g⟩
 rw [ex_pr] at hIr
 rw [ex_en] at hIe
 obtain rfl : 6 = rn := hIr.len
 obtain rfl : 3 = zn := hIe.len
 refine ⟨_, rfl, ?_⟩
 rw [ex_e]
 intro ac F
 replace G := G.trans g
 replace hN3 := hN3.gr g
 replace hexL := hexL.gr g
 clear g
 refine Y.pval F (X.w0 rfl) rfl (X.move rfl (F.ev 11 (.tuple #[.slice ra 6 rc, .slice za 3 zc, .int .i64 0]))) ?_
 clear F ac
 intro ac F
 refine Y.pval F (X.w0 rfl) rfl (X.extract rfl (F.ev 6 (.tuple #[.slice ra 6 rc, .slice za 3 zc, .int .i64 0])) rfl) ?_
 clear F ac
 intro ac F
 refine Y.pval F (X.w0 rfl) rfl (X.extract rfl (F.ev 6 (.tuple #[.slice ra 6 rc, .slice za 3 zc, .int .i64 0])) rfl) ?_
 clear F ac
 intro ac F
 refine Y.pval F (X.w0 rfl) rfl (X.extract rfl (F.ev 6 (.tuple #[.slice ra 6 rc, .slice za 3 zc, .int .i64 0])) rfl) ?_
 clear F ac
 intro ac F
 refine Y.pval F (X.w0 rfl) rfl (X.assign rfl (F.ev 12 (.slice ra 6 rc))) ?_
 clear F ac
 intro ac F
 refine Y.pval F (X.w0 rfl) rfl (X.assign rfl (F.ev 13 (.slice za 3 zc))) ?_
 clear F ac
 intro ac F
 refine Y.pval F (X.w0 rfl) rfl (X.assign rfl (F.ev 14 (.int .i64 0))) ?_
 clear F ac
 intro ac F
 refine Y.nil ?_
 replace F : Fr ac 40 [(0, .bool false), (1, .slice ra 6 rc), (2, .slice za 3 zc), (3, .int .i64 0)] := F.sub _
 refine X.thenN ?_
 refine Y.seq ?_
 refine Y.lit (by kernel_rfl) ?_
 refine Y.pcall F (X.w0 rfl) rfl (X.enter (F := 43) rfl (X.kc (.func (.func 43) #[] #[]) rfl) rfl (enters_of Try.func43 (by kernel_rfl) rfl _)) (example_any w7) ?_
 clear F ac
 rintro e w9 ⟨ea8, rfl, hN8, g⟩
 refine ⟨_, rfl, ?_⟩
 intro ac F
 replace G := G.trans g
 replace hN3 := hN3.gr g
 replace hexL := hexL.gr g
 replace hIr := hIr.gr g
 replace hIe := hIe.gr g
 clear g
 refine Y.pcall F (X.w0 rfl) rfl (X.enter (F := 21) rfl (X.kc (.func (.func 21) #[] #[]) rfl) (X.a2 (F.ev 16 (.agg #[.int .i64 2, .int .i64 3, .slice ea8 3 3])) (X.kc (.int .i64 8) rfl)) (enters_of Try.func21 (by kernel_rfl) rfl _)) (by have h := parked_any ea8 3 3 2 3 8 exN w9 hN8; rw [ex_p, ex_t] at h; exact h) ?_
 clear F ac
 rintro e w11 ⟨rfl, g⟩
 refine ⟨_, rfl, ?_⟩
 intro ac F
 replace G := G.trans g
 replace hN3 := hN3.gr g
 replace hexL := hexL.gr g
 replace hIr := hIr.gr g
 replace hIe := hIe.gr g
 replace hN8 := hN8.gr g
 clear g
 refine Y.pval F (X.w0 rfl) rfl (X.move rfl (F.ev 17 (.tuple #[.int .i64 186, .int .i64 0]))) ?_
 clear F ac
 intro ac F
 refine Y.pval F (X.w0 rfl) rfl (X.extract rfl (F.ev 15 (.tuple #[.int .i64 186, .int .i64 0])) rfl) ?_
 clear F ac
 intro ac F
 refine Y.pval F (X.w0 rfl) rfl (X.extract rfl (F.ev 15 (.tuple #[.int .i64 186, .int .i64 0])) rfl) ?_
 clear F ac
 intro ac F
 refine Y.pval F (X.w0 rfl) rfl (X.assign rfl (F.ev 18 (.int .i64 186))) ?_
 clear F ac
 intro ac F
 refine Y.pval F (X.w0 rfl) rfl (X.assign rfl (F.ev 19 (.int .i64 0))) ?_
 clear F ac
 intro ac F
 refine Y.nil ?_
 replace F : Fr ac 40 [(0, .bool false), (1, .slice ra 6 rc), (2, .slice za 3 zc), (3, .int .i64 0), (4, .int .i64 186), (5, .int .i64 0)] := F.sub _
 refine X.thenN ?_
 refine Y.seq ?_
 refine Y.lit (by kernel_rfl) ?_
 refine Y.pval F (X.w0 rfl) rfl (X.move rfl (F.ev 3 (.int .i64 0))) ?_
 clear F ac
 intro ac F
 refine Y.pval F (X.w0 rfl) rfl (X.binop rfl (F.ev 20 (.int .i64 0)) (X.kc (.int .i64 0) rfl) (X.eqlI Try.underlying26 (show ((0 : Int) == 0) = true by simp))) ?_
 clear F ac
 intro ac F
 refine Y.pval F (X.w0 rfl) rfl (X.move rfl (F.ev 21 (.bool true))) ?_
 clear F ac
 intro ac F
 refine Y.pval F (X.w1 rfl (F.yl (j := 2) (d := 22) (b := true) rfl (by kernel_rfl))) rfl (X.move rfl (F.ev 5 (.int .i64 0))) ?_
 clear F ac
 intro ac F
 refine Y.pval F (X.w1 rfl (F.yl (j := 2) (d := 22) (b := true) rfl (by kernel_rfl))) rfl (X.binop rfl (F.ev 23 (.int .i64 0)) (X.kc (.int .i64 0) rfl) (X.eqlI Try.underlying26 (show ((0 : Int) == 0) = true by simp))) ?_
 clear F ac
 intro ac F
 refine Y.pval F (X.w0 rfl) rfl (X.pickT rfl (F.ev 22 (.bool true)) (F.ev 24 (.bool true))) ?_
 clear F ac
 intro ac F
 refine Y.pval F (X.w0 rfl) rfl (X.move rfl (F.ev 25 (.bool true))) ?_
 clear F ac
 intro ac F
 refine Y.pval F (X.w1 rfl (F.yl (j := 6) (d := 26) (b := true) rfl (by kernel_rfl))) rfl (X.move rfl (F.ev 1 (.slice ra 6 rc))) ?_
 clear F ac
 intro ac F
 refine Y.pval F (X.w1 rfl (F.yl (j := 6) (d := 26) (b := true) rfl (by kernel_rfl))) rfl (X.bs rfl rfl (Try.exr _)) ?_
 clear F ac
 intro ac F
 have g := Gr.alloc w11 (.cells #[.int .i64 0, .int .i64 3, .int .i64 3, .int .i64 3, .int .i64 0, .int .i64 0] 3)
 have hb := heap_alloc_new w11 (.cells #[.int .i64 0, .int .i64 3, .int .i64 3, .int .i64 3, .int .i64 0, .int .i64 0] 3)
 have hbl : w11.heap.size < (w11.alloc (.cells #[.int .i64 0, .int .i64 3, .int .i64 3, .int .i64 3, .int .i64 0, .int .i64 0] 3)).heap.size := by simp
 generalize w11.alloc (.cells #[.int .i64 0, .int .i64 3, .int .i64 3, .int .i64 3, .int .i64 0, .int .i64 0] 3) = w12 at *
 replace G := G.trans g
 replace hN3 := hN3.gr g
 replace hexL := hexL.gr g
 replace hIr := hIr.gr g
 replace hIe := hIe.gr g
 replace hN8 := hN8.gr g
 have hxr := exr_at hb
 clear g hb hbl
 refine Y.pcall F (X.w1 rfl (F.yl (j := 6) (d := 26) (b := true) rfl (by kernel_rfl))) rfl (X.enter (F := 27) rfl (X.kc (.func (.func 27) #[] #[]) rfl) (X.a2 (F.ev 27 (.slice ra 6 rc)) (F.ev 28 (.slice (some ⟨w11.heap.size, 0, none⟩) 6 6))) (enters_of Try.func27 (by kernel_rfl) rfl _)) (by have hq := same_any ra (some ⟨w11.heap.size, 0, none⟩) 6 rc 6 6 ([0, 3, 3, 3, 0, 0]) ([0, 3, 3, 3, 0, 0]) w12 hIr hxr; rw [decide_eq_true rfl] at hq; exact hq) ?_
 clear F ac
 rintro e w14 ⟨rfl, g⟩
 refine ⟨_, rfl, ?_⟩
 intro ac F
 replace G := G.trans g
 replace hN3 := hN3.gr g
 replace hexL := hexL.gr g
 replace hIr := hIr.gr g
 replace hIe := hIe.gr g
 replace hN8 := hN8.gr g
 replace hxr := hxr.gr g
 clear g
 refine Y.pval F (X.w0 rfl) rfl (X.pickT rfl (F.ev 26 (.bool true)) (F.ev 29 (.bool true))) ?_
 clear F ac
 intro ac F
 refine Y.pval F (X.w0 rfl) rfl (X.move rfl (F.ev 30 (.bool true))) ?_
 clear F ac
 intro ac F
 refine Y.pval F (X.w1 rfl (F.yl (j := 11) (d := 31) (b := true) rfl (by kernel_rfl))) rfl (X.move rfl (F.ev 2 (.slice za 3 zc))) ?_
 clear F ac
 intro ac F
 refine Y.pval F (X.w1 rfl (F.yl (j := 11) (d := 31) (b := true) rfl (by kernel_rfl))) rfl (X.bs rfl rfl (Try.exq _)) ?_
 clear F ac
 intro ac F
 have g := Gr.alloc w14 (.cells #[.int .i64 33, .int .i64 66, .int .i64 0] 3)
 have hb := heap_alloc_new w14 (.cells #[.int .i64 33, .int .i64 66, .int .i64 0] 3)
 have hbl : w14.heap.size < (w14.alloc (.cells #[.int .i64 33, .int .i64 66, .int .i64 0] 3)).heap.size := by simp
 generalize w14.alloc (.cells #[.int .i64 33, .int .i64 66, .int .i64 0] 3) = w15 at *
 replace G := G.trans g
 replace hN3 := hN3.gr g
 replace hexL := hexL.gr g
 replace hIr := hIr.gr g
 replace hIe := hIe.gr g
 replace hN8 := hN8.gr g
 replace hxr := hxr.gr g
 have hxq := exq_at hb
 clear g hb hbl
 refine Y.pcall F (X.w1 rfl (F.yl (j := 11) (d := 31) (b := true) rfl (by kernel_rfl))) rfl (X.enter (F := 27) rfl (X.kc (.func (.func 27) #[] #[]) rfl) (X.a2 (F.ev 32 (.slice za 3 zc)) (F.ev 33 (.slice (some ⟨w14.heap.size, 0, none⟩) 3 3))) (enters_of Try.func27 (by kernel_rfl) rfl _)) (by have hq := same_any za (some ⟨w14.heap.size, 0, none⟩) 3 zc 3 3 ([33, 66, 0]) ([33, 66, 0]) w15 hIe hxq; rw [decide_eq_true rfl] at hq; exact hq) ?_
 clear F ac
 rintro e w17 ⟨rfl, g⟩
 refine ⟨_, rfl, ?_⟩
 intro ac F
 replace G := G.trans g
 replace hN3 := hN3.gr g
 replace hexL := hexL.gr g
 replace hIr := hIr.gr g
 replace hIe := hIe.gr g
 replace hN8 := hN8.gr g
 replace hxr := hxr.gr g
 replace hxq := hxq.gr g
 clear g
 refine Y.pval F (X.w0 rfl) rfl (X.pickT rfl (F.ev 31 (.bool true)) (F.ev 34 (.bool true))) ?_
 clear F ac
 intro ac F
 refine Y.pval F (X.w0 rfl) rfl (X.move rfl (F.ev 35 (.bool true))) ?_
 clear F ac
 intro ac F
 refine Y.pval F (X.w1 rfl (F.yl (j := 16) (d := 36) (b := true) rfl (by kernel_rfl))) rfl (X.move rfl (F.ev 4 (.int .i64 186))) ?_
 clear F ac
 intro ac F
 refine Y.pval F (X.w1 rfl (F.yl (j := 16) (d := 36) (b := true) rfl (by kernel_rfl))) rfl (X.binop rfl (F.ev 37 (.int .i64 186)) (X.kc (.int .i64 186) rfl) (X.eqlI Try.underlying3 (show ((186 : Int) == 186) = true by simp))) ?_
 clear F ac
 intro ac F
 refine Y.pval F (X.w0 rfl) rfl (X.pickT rfl (F.ev 36 (.bool true)) (F.ev 38 (.bool true))) ?_
 clear F ac
 intro ac F
 refine Y.pval F (X.w0 rfl) rfl (X.assign rfl (F.ev 39 (.bool true))) ?_
 clear F ac
 intro ac F
 refine Y.nil ?_
 replace F : Fr ac 40 [(0, .bool true), (1, .slice ra 6 rc), (2, .slice za 3 zc), (3, .int .i64 0), (4, .int .i64 186), (5, .int .i64 0)] := F.sub _
 refine X.thenN ?_
 refine Y.ret ?_
 exact Y.ret0 (v := .bool true) F (Y.rs1 F rfl (by kernel_rfl)) ⟨rfl, G⟩
end
end Go.Proofs.Ytoalamakhjbedaa
