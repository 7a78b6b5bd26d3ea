/- Several texts of this claim in one file. (1) Contract: SleepGrows returns true. (2) An argument that came in: a structure of four numbers. -/
import Derived.Test.YtoalamakhjbedaaBd14
import Derived.Test.YtoalamakhjbedaaBd3
namespace Go.Proofs.Ytoalamakhjbedaa
section
open Go.RowKit

theorem F5_at3 {W : World} {go i : Nat} {nd : List (List Int)} (h : W.cell? ⟨go, i * 5 + 3, none⟩ = some (EV (F5 nd) (i * 5 + 3))) : W.cell? ⟨go, i * 5 + 3, none⟩ = some (.int .i64 (cv nd i 3)) := by
  rw [h]
  show some (Value.int .i64 (cv nd ((i * 5 + 3) / 5) ((i * 5 + 3) % 5))) = _
  rw [show (i * 5 + 3) / 5 = i by omega, show (i * 5 + 3) % 5 = 3 by omega]
theorem F5_at4 {W : World} {go i : Nat} {nd : List (List Int)} (b : Int) (h : W.cell? ⟨go, i * 5 + 4, none⟩ = some (EV (fun z_ => if z_ = i * 5 + 3 then b else F5 nd z_) (i * 5 + 4))) : W.cell? ⟨go, i * 5 + 4, none⟩ = some (.int .i64 (cv nd i 4)) := by
  rw [h]
  show some (Value.int .i64 (if i * 5 + 4 = i * 5 + 3 then b else cv nd ((i * 5 + 4) / 5) ((i * 5 + 4) % 5))) = _
  rw [if_neg (by omega), show (i * 5 + 4) / 5 = i by omega, show (i * 5 + 4) % 5 = 4 by omega]

set_option maxRecDepth 100000 in
set_option maxHeartbeats 1000000 in
theorem grows_any (na : Option Addr) (n nc : Nat) (gr hold t m0 m1 m2 m3 : Int) (nd : List (List Int)) (w : World) (hnd : StAt w 5 na n nd) :
  Calls Try.prog 5 #[.agg #[.int .i64 gr, .int .i64 hold, .slice na n nc], .int .i64 t, .agg #[.int .i64 m0, .int .i64 m1, .int .i64 m2, .int .i64 m3]] w fun e w' => e = .returned (.bool true) ∧ Gr w w' := by
 have G := Gr.refl w
 have hlen := hnd.len
 have hlt := hnd.lt
 have hnd0 := hnd
 refine Y.calls 153 Try.func5 rfl rfl ?_
 intro ac F0
 have F : Fr ac 153 [(0, .agg #[.int .i64 gr, .int .i64 hold, .slice na n nc]), (1, .int .i64 t), (2, .agg #[.int .i64 m0, .int .i64 m1, .int .i64 m2, .int .i64 m3])] := F0.sub _
 clear F0
 refine Y.seq ?_
 refine Y.lit (by kernel_rfl) ?_
 refine Y.pval F (X.w0 rfl) rfl (X.box rfl (F.ev 0 (.agg #[.int .i64 gr, .int .i64 hold, .slice na n nc])) X.bx) ?_
 clear F ac
 intro ac F
 have g := Gr.alloc w (.cells #[.int .i64 gr, .int .i64 hold, .slice na n nc] 24)
 have hb := heap_alloc_new w (.cells #[.int .i64 gr, .int .i64 hold, .slice na n nc] 24)
 have hbl : w.heap.size < (w.alloc (.cells #[.int .i64 gr, .int .i64 hold, .slice na n nc] 24)).heap.size := by simp
 have hC2 : RCells (w.alloc (.cells #[.int .i64 gr, .int .i64 hold, .slice na n nc] 24)) [(⟨w.heap.size, 0, none⟩, .int .i64 gr), (⟨w.heap.size, 1, none⟩, .int .i64 hold), (⟨w.heap.size, 2, none⟩, .slice na n nc)] := (RCells.nil w).box (b := w.heap.size) #[.int .i64 gr, .int .i64 hold, .slice na n nc] 24 rfl
 generalize w.alloc (.cells #[.int .i64 gr, .int .i64 hold, .slice na n nc] 24) = w3 at *
 replace G := G.trans g
 have hC := hC2
 clear hC2
 replace hnd := hnd.gr g
 clear g hb hbl
 refine Y.pval F (X.w0 rfl) rfl (X.box rfl (F.ev 2 (.agg #[.int .i64 m0, .int .i64 m1, .int .i64 m2, .int .i64 m3])) X.bx) ?_
 clear F ac
 intro ac F
 have hq4 : w.heap.size < w3.heap.size := lt_cell (hC.at 0 rfl)
 have g := Gr.alloc w3 (.cells #[.int .i64 m0, .int .i64 m1, .int .i64 m2, .int .i64 m3] 41)
 have hb := heap_alloc_new w3 (.cells #[.int .i64 m0, .int .i64 m1, .int .i64 m2, .int .i64 m3] 41)
 have hbl : w3.heap.size < (w3.alloc (.cells #[.int .i64 m0, .int .i64 m1, .int .i64 m2, .int .i64 m3] 41)).heap.size := by simp
 have hC2 : RCells (w3.alloc (.cells #[.int .i64 m0, .int .i64 m1, .int .i64 m2, .int .i64 m3] 41)) [(⟨w.heap.size, 0, none⟩, .int .i64 gr), (⟨w.heap.size, 1, none⟩, .int .i64 hold), (⟨w.heap.size, 2, none⟩, .slice na n nc), (⟨w3.heap.size, 0, none⟩, .int .i64 m0), (⟨w3.heap.size, 1, none⟩, .int .i64 m1), (⟨w3.heap.size, 2, none⟩, .int .i64 m2), (⟨w3.heap.size, 3, none⟩, .int .i64 m3)] := hC.box (b := w3.heap.size) #[.int .i64 m0, .int .i64 m1, .int .i64 m2, .int .i64 m3] 41 rfl
 generalize w3.alloc (.cells #[.int .i64 m0, .int .i64 m1, .int .i64 m2, .int .i64 m3] 41) = w5 at *
 replace G := G.trans g
 replace hC := hC2
 clear hC2
 replace hnd := hnd.gr g
 clear g hb hbl
 refine Y.pval F (X.w0 rfl) rfl (X.assign rfl (X.kc (.bool false) rfl)) ?_
 clear F ac
 intro ac F
 refine Y.nil ?_
 replace F : Fr ac 153 [(0, .agg #[.int .i64 gr, .int .i64 hold, .slice na n nc]), (1, .int .i64 t), (2, .agg #[.int .i64 m0, .int .i64 m1, .int .i64 m2, .int .i64 m3]), (3, .pointer (some ⟨w.heap.size, 0, none⟩)), (5, .pointer (some ⟨w3.heap.size, 0, none⟩)), (6, .bool false)] := F.sub _
 refine X.thenN ?_
 refine Y.seq ?_
 refine Y.seq ?_
 refine Y.lit (by kernel_rfl) ?_
 refine Y.pval F (X.w0 rfl) rfl (X.move rfl (F.ev 1 (.int .i64 t))) ?_
 clear F ac
 intro ac F
 refine Y.pval F (X.w0 rfl) rfl (X.binop rfl (F.ev 15 (.int .i64 t)) (X.kc (.int .i64 80) rfl) (X.gtrI Try.underlying3 rfl)) ?_
 clear F ac
 intro ac F
 refine Y.pval F (X.w0 rfl) rfl (X.move rfl (F.ev 16 (.bool (decide ((80 : Int) < t))))) ?_
 clear F ac
 intro ac F
 cases h6 : decide ((80 : Int) < t) with
 | false =>
  try rw [h6] at F
  have h6p : ¬ ((80 : Int) < t) := of_decide_eq_false h6
  refine Y.pval F (X.w1 rfl (F.yl (j := 2) (d := 17) (b := false) rfl (by kernel_rfl))) rfl (X.move rfl (F.ev 1 (.int .i64 t))) ?_
  clear F ac
  intro ac F
  refine Y.pval F (X.w1 rfl (F.yl (j := 2) (d := 17) (b := false) rfl (by kernel_rfl))) rfl (X.binop rfl (F.ev 18 (.int .i64 t)) (X.kc (.int .i64 0) rfl) (X.lssI Try.underlying3 rfl)) ?_
  clear F ac
  intro ac F
  refine Y.pval F (X.w0 rfl) rfl (X.pickF rfl (F.ev 17 (.bool false)) (F.ev 19 (.bool (decide ((t : Int) < 0))))) ?_
  clear F ac
  intro ac F
  refine Y.pval F (X.w0 rfl) rfl (X.move rfl (F.ev 20 (.bool (decide ((t : Int) < 0))))) ?_
  clear F ac
  intro ac F
  cases h7 : decide ((t : Int) < 0) with
  | false =>
   try rw [h7] at F
   have h7p : ¬ ((t : Int) < 0) := of_decide_eq_false h7
   refine Y.pval F (X.w1 rfl (F.yl (j := 6) (d := 21) (b := false) rfl (by kernel_rfl))) rfl (X.field rfl (F.ev 3 (.pointer (some ⟨w.heap.size, 0, none⟩))) (X.fld Try.underlying24 rfl (Try.siz22 _) rfl rfl)) ?_
   clear F ac
   intro ac F
   refine Y.pval F (X.w1 rfl (F.yl (j := 6) (d := 21) (b := false) rfl (by kernel_rfl))) rfl (X.load rfl (F.ev 22 (.pointer (some ⟨w.heap.size, 2, none⟩))) (X.ld1 (Try.agg22 _) (hC.at 2 rfl))) ?_
   clear F ac
   intro ac F
   refine Y.pval F (X.w1 rfl (F.yl (j := 6) (d := 21) (b := false) rfl (by kernel_rfl))) rfl (X.len1 Try.underlying22 rfl (F.ev 23 (.slice na n nc))) ?_
   clear F ac
   intro ac F
   refine Y.pval F (X.w1 rfl (F.yl (j := 6) (d := 21) (b := false) rfl (by kernel_rfl))) rfl (X.binop rfl (F.ev 24 (.int .i64 n)) (X.kc (.int .i64 0) rfl) (X.eqlI Try.underlying3 rfl)) ?_
   clear F ac
   intro ac F
   refine Y.pval F (X.w0 rfl) rfl (X.pickF rfl (F.ev 21 (.bool false)) (F.ev 25 (.bool ((n : Int) == 0)))) ?_
   clear F ac
   intro ac F
   refine Y.pval F (X.w0 rfl) rfl (X.move rfl (F.ev 26 (.bool ((n : Int) == 0)))) ?_
   clear F ac
   intro ac F
   cases h8 : ((n : Int) == 0) with
   | false =>
    try rw [h8] at F
    have h8p : ¬ (n : Int) = 0 := by simpa using h8
    refine Y.pval F (X.w1 rfl (F.yl (j := 12) (d := 27) (b := false) rfl (by kernel_rfl))) rfl (X.load rfl (F.ev 3 (.pointer (some ⟨w.heap.size, 0, none⟩))) (X.ldN (Try.agg24 _) (Try.siz24 _) (Y.atz (⟨w.heap.size, 0, none⟩) (Y.AtFrom.cons (hC.at 0 rfl) (Y.AtFrom.cons (hC.at 1 rfl) (Y.AtFrom.cons (hC.at 2 rfl) (Y.AtFrom.nil _ _ _))))))) ?_
    clear F ac
    intro ac F
    refine Y.pcall F (X.w1 rfl (F.yl (j := 12) (d := 27) (b := false) rfl (by kernel_rfl))) rfl (X.enter (F := 15) rfl (X.kc (.func (.func 15) #[] #[]) rfl) (X.a1 (F.ev 28 (.agg #[.int .i64 gr, .int .i64 hold, .slice na n nc]))) (enters_of Try.func15 (by kernel_rfl) rfl _)) (check2_any na n nc gr hold nd w5 hnd) ?_
    clear F ac
    rintro e w9 ⟨rfl, g⟩
    refine ⟨_, rfl, ?_⟩
    intro ac F
    replace G := G.trans g
    replace hC := hC.gr g
    replace hnd := hnd.gr g
    clear g
    refine Y.pval F (X.w1 rfl (F.yl (j := 12) (d := 27) (b := false) rfl (by kernel_rfl))) rfl (X.binop rfl (F.ev 29 (.int .i64 (cluE gr hold nd))) (X.kc (.int .i64 0) rfl) (X.neqI Try.underlying26 rfl)) ?_
    clear F ac
    intro ac F
    refine Y.pval F (X.w0 rfl) rfl (X.pickF rfl (F.ev 27 (.bool false)) (F.ev 30 (.bool ((cluE gr hold nd : Int) != 0)))) ?_
    clear F ac
    intro ac F
    refine Y.nil ?_
    replace F : Fr ac 153 [(0, .agg #[.int .i64 gr, .int .i64 hold, .slice na n nc]), (1, .int .i64 t), (2, .agg #[.int .i64 m0, .int .i64 m1, .int .i64 m2, .int .i64 m3]), (3, .pointer (some ⟨w.heap.size, 0, none⟩)), (5, .pointer (some ⟨w3.heap.size, 0, none⟩)), (6, .bool false), (31, .bool ((cluE gr hold nd : Int) != 0))] := F.sub _
    refine X.thenN ?_
    cases h10 : ((cluE gr hold nd : Int) != 0) with
    | false =>
     try rw [h10] at F
     have h10p : (cluE gr hold nd : Int) = 0 := by simpa using h10
     have hE : cluE gr hold nd = 0 := by simpa using h10p
     have hc := cluE_ok hE
     have h16 := hc.n16
     have htm := tmod_bd m0 (q := (n : Int)) (by omega)
     have htn : n ≤ 16 := by omega
     refine Y.condF (F.ev 31 (.bool false)) ?_
     refine Y.skip ?_
     refine X.thenN ?_
     refine Y.seq ?_
     refine Y.region F [some (.pointer (some ⟨w3.heap.size, 0, none⟩)), some (.int .i64 m0), some (.pointer (some ⟨w.heap.size, 2, none⟩)), some (.slice na n nc), some (.int .i64 n), some (.int .i64 (Int.tmod m0 n)), some (.pointer (some ⟨w.heap.size, 2, none⟩)), some (.slice na n nc), some (.int .i64 n), some (.int .i64 ((Int.tmod m0 n : Int) + n)), some (.pointer (some ⟨w.heap.size, 2, none⟩)), some (.slice na n nc), some (.int .i64 n), some (.int .i64 (((Int.tmod m0 n : Int) + n : Int) % (n : Int))), some (.int .i64 (((Int.tmod m0 n : Int) + n : Int) % (n : Int)))] [] rfl ⟨by kernel_rfl, of_decide_eq_true (by kernel_rfl), by kernel_rfl, by kernel_rfl, by kernel_rfl⟩ ⟨?_, ?_, ?_, ?_, ?_, ?_, ?_, ?_, ?_, ?_, ?_, ?_, ?_, ?_, ?_, trivial⟩ ?_
     ·intro ac done u W Sx hR
      exact X.val (X.w0 rfl) rfl (X.field rfl (Sx.ev 5 (.pointer (some ⟨w3.heap.size, 0, none⟩))) (X.fld Try.underlying41 rfl (Try.siz3 _) rfl rfl)) (hR.step (Gr.refl _) rfl)
     ·intro ac done u W Sx hR
      have g : Gr w9 W := hR.1
      exact X.val (X.w0 rfl) rfl (X.load rfl (Sx.ev 33 (.pointer (some ⟨w3.heap.size, 0, none⟩))) (X.ld1 (Try.agg3 _) ((hC.gr g).at 3 rfl))) (hR.step (Gr.refl _) rfl)
     ·intro ac done u W Sx hR
      exact X.val (X.w0 rfl) rfl (X.field rfl (Sx.ev 3 (.pointer (some ⟨w.heap.size, 0, none⟩))) (X.fld Try.underlying24 rfl (Try.siz22 _) rfl rfl)) (hR.step (Gr.refl _) rfl)
     ·intro ac done u W Sx hR
      have g : Gr w9 W := hR.1
      exact X.val (X.w0 rfl) rfl (X.load rfl (Sx.ev 35 (.pointer (some ⟨w.heap.size, 2, none⟩))) (X.ld1 (Try.agg22 _) ((hC.gr g).at 2 rfl))) (hR.step (Gr.refl _) rfl)
     ·intro ac done u W Sx hR
      exact X.val (X.w0 rfl) rfl (X.len1 Try.underlying22 rfl (Sx.ev 36 (.slice na n nc))) (hR.step (Gr.refl _) rfl)
     ·intro ac done u W Sx hR
      exact X.val (X.w0 rfl) rfl (X.binop rfl (Sx.ev 34 (.int .i64 m0)) (Sx.ev 37 (.int .i64 n)) (X.remT Try.underlying3 rfl (by omega) (by omega))) (hR.step (Gr.refl _) rfl)
     ·intro ac done u W Sx hR
      exact X.val (X.w0 rfl) rfl (X.field rfl (Sx.ev 3 (.pointer (some ⟨w.heap.size, 0, none⟩))) (X.fld Try.underlying24 rfl (Try.siz22 _) rfl rfl)) (hR.step (Gr.refl _) rfl)
     ·intro ac done u W Sx hR
      have g : Gr w9 W := hR.1
      exact X.val (X.w0 rfl) rfl (X.load rfl (Sx.ev 39 (.pointer (some ⟨w.heap.size, 2, none⟩))) (X.ld1 (Try.agg22 _) ((hC.gr g).at 2 rfl))) (hR.step (Gr.refl _) rfl)
     ·intro ac done u W Sx hR
      exact X.val (X.w0 rfl) rfl (X.len1 Try.underlying22 rfl (Sx.ev 40 (.slice na n nc))) (hR.step (Gr.refl _) rfl)
     ·intro ac done u W Sx hR
      exact X.val (X.w0 rfl) rfl (X.binop rfl (Sx.ev 38 (.int .i64 (Int.tmod m0 n))) (Sx.ev 41 (.int .i64 n)) (X.addI Try.underlying3 rfl (by omega) (by omega))) (hR.step (Gr.refl _) rfl)
     ·intro ac done u W Sx hR
      exact X.val (X.w0 rfl) rfl (X.field rfl (Sx.ev 3 (.pointer (some ⟨w.heap.size, 0, none⟩))) (X.fld Try.underlying24 rfl (Try.siz22 _) rfl rfl)) (hR.step (Gr.refl _) rfl)
     ·intro ac done u W Sx hR
      have g : Gr w9 W := hR.1
      exact X.val (X.w0 rfl) rfl (X.load rfl (Sx.ev 43 (.pointer (some ⟨w.heap.size, 2, none⟩))) (X.ld1 (Try.agg22 _) ((hC.gr g).at 2 rfl))) (hR.step (Gr.refl _) rfl)
     ·intro ac done u W Sx hR
      exact X.val (X.w0 rfl) rfl (X.len1 Try.underlying22 rfl (Sx.ev 44 (.slice na n nc))) (hR.step (Gr.refl _) rfl)
     ·intro ac done u W Sx hR
      exact X.val (X.w0 rfl) rfl (X.binop rfl (Sx.ev 42 (.int .i64 ((Int.tmod m0 n : Int) + n))) (Sx.ev 45 (.int .i64 n)) (X.remI Try.underlying3 rfl (by omega) (by omega))) (hR.step (Gr.refl _) rfl)
     ·intro ac done u W Sx hR
      exact X.val (X.w0 rfl) rfl (X.assign rfl (Sx.ev 46 (.int .i64 (((Int.tmod m0 n : Int) + n : Int) % (n : Int))))) (hR.step (Gr.refl _) rfl)
     intro ac u w11 hs hd hl ho hR
     have g : Gr w9 w11 := hR.1
     replace F : Fr ac 153 [(0, .agg #[.int .i64 gr, .int .i64 hold, .slice na n nc]), (1, .int .i64 t), (2, .agg #[.int .i64 m0, .int .i64 m1, .int .i64 m2, .int .i64 m3]), (3, .pointer (some ⟨w.heap.size, 0, none⟩)), (5, .pointer (some ⟨w3.heap.size, 0, none⟩)), (6, .bool false), (7, .int .i64 (((Int.tmod m0 n : Int) + n : Int) % (n : Int))), (31, .bool false)] := X.fr hs hd hl _ (by kernel_rfl)
     clear hs hd hl ho hR
     replace G := G.trans g
     replace hC := hC.gr g
     replace hnd := hnd.gr g
     clear g
     refine X.thenN ?_
     refine Y.seq ?_
     have he0 := Int.emod_nonneg (Int.tmod m0 n + n) (show (n : Int) ≠ 0 by omega)
     have he1 := Int.emod_lt_of_pos (Int.tmod m0 n + n) (show (0 : Int) < n by omega)
     obtain ⟨i, hi⟩ : ∃ i : Nat, ((Int.tmod m0 n : Int) + n : Int) % (n : Int) = i := ⟨(((Int.tmod m0 n : Int) + n : Int) % (n : Int)).toNat, by omega⟩
     rw [hi] at F
     have hin : i < n := by omega
     have hil : i < nd.length := by omega
     have hT1 : t ≤ 80 := by omega
     have hT0 : 0 ≤ t := by omega
     clear hi
     have hm1 := worst_more hE hil hT0 (by omega)
     have hw1 := worst_enF hE hil hT0 (by omega)
     have hw2 := worst_enF (T := t + 1) hE hil (by omega) (by omega)
     have hwb1 := worst_bd (T := t) hE hil hT0 (by omega)
     have hwb2 := worst_bd (T := t + 1) hE hil (by omega) (by omega)
     have ha3 := hc.bud i hil
     have ha4 := hc.ref i hil
     have hh1 := hc.h1
     have hh2 := hc.h100
     refine Y.lit (by kernel_rfl) ?_
     refine Y.pval F (X.w0 rfl) rfl (X.load rfl (F.ev 3 (.pointer (some ⟨w.heap.size, 0, none⟩))) (X.ldN (Try.agg24 _) (Try.siz24 _) (Y.atz (⟨w.heap.size, 0, none⟩) (Y.AtFrom.cons (hC.at 0 rfl) (Y.AtFrom.cons (hC.at 1 rfl) (Y.AtFrom.cons (hC.at 2 rfl) (Y.AtFrom.nil _ _ _))))))) ?_
     clear F ac
     intro ac F
     refine Y.pval F (X.w0 rfl) rfl (X.move rfl (F.ev 7 (.int .i64 i))) ?_
     clear F ac
     intro ac F
     refine Y.pval F (X.w0 rfl) rfl (X.move rfl (F.ev 1 (.int .i64 t))) ?_
     clear F ac
     intro ac F
     refine Y.pcall F (X.w0 rfl) rfl (X.enter (F := 20) rfl (X.kc (.func (.func 20) #[] #[]) rfl) (X.a3 (F.ev 48 (.agg #[.int .i64 gr, .int .i64 hold, .slice na n nc])) (F.ev 49 (.int .i64 i)) (F.ev 50 (.int .i64 t))) (enters_of Try.func20 (by kernel_rfl) rfl _)) (worst_any na n nc gr hold i t nd w11 hnd) ?_
     clear F ac
     rintro e w13 ⟨rfl, g⟩
     refine ⟨_, rfl, ?_⟩
     intro ac F
     replace G := G.trans g
     replace hC := hC.gr g
     replace hnd := hnd.gr g
     clear g
     refine Y.pval F (X.w0 rfl) rfl (X.move rfl (F.ev 51 (.tuple #[.int .i64 (worstV gr hold nd i t), .int .i64 (nodeE gr hold nd i t)]))) ?_
     clear F ac
     intro ac F
     refine Y.pval F (X.w0 rfl) rfl (X.extract rfl (F.ev 47 (.tuple #[.int .i64 (worstV gr hold nd i t), .int .i64 (nodeE gr hold nd i t)])) rfl) ?_
     clear F ac
     intro ac F
     refine Y.pval F (X.w0 rfl) rfl (X.extract rfl (F.ev 47 (.tuple #[.int .i64 (worstV gr hold nd i t), .int .i64 (nodeE gr hold nd i t)])) rfl) ?_
     clear F ac
     intro ac F
     refine Y.pval F (X.w0 rfl) rfl (X.assign rfl (F.ev 52 (.int .i64 (worstV gr hold nd i t)))) ?_
     clear F ac
     intro ac F
     refine Y.pval F (X.w0 rfl) rfl (X.assign rfl (F.ev 53 (.int .i64 (nodeE gr hold nd i t)))) ?_
     clear F ac
     intro ac F
     refine Y.nil ?_
     replace F : Fr ac 153 [(0, .agg #[.int .i64 gr, .int .i64 hold, .slice na n nc]), (1, .int .i64 t), (2, .agg #[.int .i64 m0, .int .i64 m1, .int .i64 m2, .int .i64 m3]), (3, .pointer (some ⟨w.heap.size, 0, none⟩)), (5, .pointer (some ⟨w3.heap.size, 0, none⟩)), (6, .bool false), (7, .int .i64 i), (8, .int .i64 (worstV gr hold nd i t)), (9, .int .i64 (nodeE gr hold nd i t)), (31, .bool false)] := F.sub _
     refine X.thenN ?_
     refine Y.seq ?_
     refine Y.lit (by kernel_rfl) ?_
     refine Y.pval F (X.w0 rfl) rfl (X.load rfl (F.ev 3 (.pointer (some ⟨w.heap.size, 0, none⟩))) (X.ldN (Try.agg24 _) (Try.siz24 _) (Y.atz (⟨w.heap.size, 0, none⟩) (Y.AtFrom.cons (hC.at 0 rfl) (Y.AtFrom.cons (hC.at 1 rfl) (Y.AtFrom.cons (hC.at 2 rfl) (Y.AtFrom.nil _ _ _))))))) ?_
     clear F ac
     intro ac F
     refine Y.pval F (X.w0 rfl) rfl (X.move rfl (F.ev 7 (.int .i64 i))) ?_
     clear F ac
     intro ac F
     refine Y.pval F (X.w0 rfl) rfl (X.move rfl (F.ev 1 (.int .i64 t))) ?_
     clear F ac
     intro ac F
     refine Y.pval F (X.w0 rfl) rfl (X.binop rfl (F.ev 57 (.int .i64 t)) (X.kc (.int .i64 1) rfl) (X.addI Try.underlying3 rfl (by omega) (by omega))) ?_
     clear F ac
     intro ac F
     refine Y.pcall F (X.w0 rfl) rfl (X.enter (F := 20) rfl (X.kc (.func (.func 20) #[] #[]) rfl) (X.a3 (F.ev 55 (.agg #[.int .i64 gr, .int .i64 hold, .slice na n nc])) (F.ev 56 (.int .i64 i)) (F.ev 58 (.int .i64 ((t : Int) + 1)))) (enters_of Try.func20 (by kernel_rfl) rfl _)) (worst_any na n nc gr hold i ((t : Int) + 1) nd w13 hnd) ?_
     clear F ac
     rintro e w15 ⟨rfl, g⟩
     refine ⟨_, rfl, ?_⟩
     intro ac F
     replace G := G.trans g
     replace hC := hC.gr g
     replace hnd := hnd.gr g
     clear g
     refine Y.pval F (X.w0 rfl) rfl (X.move rfl (F.ev 59 (.tuple #[.int .i64 (worstV gr hold nd i ((t : Int) + 1)), .int .i64 (nodeE gr hold nd i ((t : Int) + 1))]))) ?_
     clear F ac
     intro ac F
     refine Y.pval F (X.w0 rfl) rfl (X.extract rfl (F.ev 54 (.tuple #[.int .i64 (worstV gr hold nd i ((t : Int) + 1)), .int .i64 (nodeE gr hold nd i ((t : Int) + 1))])) rfl) ?_
     clear F ac
     intro ac F
     refine Y.pval F (X.w0 rfl) rfl (X.extract rfl (F.ev 54 (.tuple #[.int .i64 (worstV gr hold nd i ((t : Int) + 1)), .int .i64 (nodeE gr hold nd i ((t : Int) + 1))])) rfl) ?_
     clear F ac
     intro ac F
     refine Y.pval F (X.w0 rfl) rfl (X.assign rfl (F.ev 60 (.int .i64 (worstV gr hold nd i ((t : Int) + 1))))) ?_
     clear F ac
     intro ac F
     refine Y.pval F (X.w0 rfl) rfl (X.assign rfl (F.ev 61 (.int .i64 (nodeE gr hold nd i ((t : Int) + 1))))) ?_
     clear F ac
     intro ac F
     refine Y.nil ?_
     replace F : Fr ac 153 [(0, .agg #[.int .i64 gr, .int .i64 hold, .slice na n nc]), (1, .int .i64 t), (2, .agg #[.int .i64 m0, .int .i64 m1, .int .i64 m2, .int .i64 m3]), (3, .pointer (some ⟨w.heap.size, 0, none⟩)), (5, .pointer (some ⟨w3.heap.size, 0, none⟩)), (6, .bool false), (7, .int .i64 i), (8, .int .i64 (worstV gr hold nd i t)), (9, .int .i64 (nodeE gr hold nd i t)), (10, .int .i64 (worstV gr hold nd i ((t : Int) + 1))), (11, .int .i64 (nodeE gr hold nd i ((t : Int) + 1))), (31, .bool false)] := F.sub _
     refine X.thenN ?_
     refine Y.seq ?_
     refine Y.seq ?_
     refine Y.lit (by kernel_rfl) ?_
     refine Y.pval F (X.w0 rfl) rfl (X.move rfl (F.ev 9 (.int .i64 (nodeE gr hold nd i t)))) ?_
     clear F ac
     intro ac F
     refine Y.pval F (X.w0 rfl) rfl (X.binop rfl (F.ev 62 (.int .i64 (nodeE gr hold nd i t))) (X.kc (.int .i64 0) rfl) (X.neqI Try.underlying26 rfl)) ?_
     clear F ac
     intro ac F
     refine Y.pval F (X.w0 rfl) rfl (X.move rfl (F.ev 63 (.bool ((nodeE gr hold nd i t : Int) != 0)))) ?_
     clear F ac
     intro ac F
     have h17 : ((nodeE gr hold nd i t : Int) != 0) = false := by rw [hw1.1]; rfl
     try rw [h17] at F
     refine Y.pval F (X.w1 rfl (F.yl (j := 2) (d := 64) (b := false) rfl (by kernel_rfl))) rfl (X.move rfl (F.ev 11 (.int .i64 (nodeE gr hold nd i ((t : Int) + 1))))) ?_
     clear F ac
     intro ac F
     refine Y.pval F (X.w1 rfl (F.yl (j := 2) (d := 64) (b := false) rfl (by kernel_rfl))) rfl (X.binop rfl (F.ev 65 (.int .i64 (nodeE gr hold nd i ((t : Int) + 1)))) (X.kc (.int .i64 0) rfl) (X.neqI Try.underlying26 rfl)) ?_
     clear F ac
     intro ac F
     refine Y.pval F (X.w0 rfl) rfl (X.pickF rfl (F.ev 64 (.bool false)) (F.ev 66 (.bool ((nodeE gr hold nd i ((t : Int) + 1) : Int) != 0)))) ?_
     clear F ac
     intro ac F
     refine Y.pval F (X.w0 rfl) rfl (X.move rfl (F.ev 67 (.bool ((nodeE gr hold nd i ((t : Int) + 1) : Int) != 0)))) ?_
     clear F ac
     intro ac F
     have h19 : ((nodeE gr hold nd i ((t : Int) + 1) : Int) != 0) = false := by rw [hw2.1]; rfl
     try rw [h19] at F
     refine Y.pval F (X.w1 rfl (F.yl (j := 6) (d := 68) (b := false) rfl (by kernel_rfl))) rfl (X.move rfl (F.ev 10 (.int .i64 (worstV gr hold nd i ((t : Int) + 1))))) ?_
     clear F ac
     intro ac F
     refine Y.pval F (X.w1 rfl (F.yl (j := 6) (d := 68) (b := false) rfl (by kernel_rfl))) rfl (X.move rfl (F.ev 8 (.int .i64 (worstV gr hold nd i t)))) ?_
     clear F ac
     intro ac F
     refine Y.pval F (X.w1 rfl (F.yl (j := 6) (d := 68) (b := false) rfl (by kernel_rfl))) rfl (X.binop rfl (F.ev 69 (.int .i64 (worstV gr hold nd i ((t : Int) + 1)))) (F.ev 70 (.int .i64 (worstV gr hold nd i t))) (X.subI Try.underlying3 rfl (by omega) (by omega))) ?_
     clear F ac
     intro ac F
     refine Y.pval F (X.w1 rfl (F.yl (j := 6) (d := 68) (b := false) rfl (by kernel_rfl))) rfl (X.field rfl (F.ev 3 (.pointer (some ⟨w.heap.size, 0, none⟩))) (X.fld Try.underlying24 rfl (Try.siz22 _) rfl rfl)) ?_
     clear F ac
     intro ac F
     refine Y.pval F (X.w1 rfl (F.yl (j := 6) (d := 68) (b := false) rfl (by kernel_rfl))) rfl (X.load rfl (F.ev 72 (.pointer (some ⟨w.heap.size, 2, none⟩))) (X.ld1 (Try.agg22 _) (hC.at 2 rfl))) ?_
     clear F ac
     intro ac F
     refine Y.pval F (X.w1 rfl (F.yl (j := 6) (d := 68) (b := false) rfl (by kernel_rfl))) rfl (X.move rfl (F.ev 7 (.int .i64 i))) ?_
     clear F ac
     intro ac F
     obtain ⟨pd20, pe20, -, -, pc20⟩ := hnd.at (j := i) (by omega)
     subst pe20
     replace hC : RCells w15 [(⟨w.heap.size, 0, none⟩, .int .i64 gr), (⟨w.heap.size, 1, none⟩, .int .i64 hold), (⟨w.heap.size, 2, none⟩, .slice (some pd20) n nc), (⟨w3.heap.size, 0, none⟩, .int .i64 m0), (⟨w3.heap.size, 1, none⟩, .int .i64 m1), (⟨w3.heap.size, 2, none⟩, .int .i64 m2), (⟨w3.heap.size, 3, none⟩, .int .i64 m3), (pd20.add (i * 5), .int .i64 (cv nd i 0)), (⟨(pd20.add (i * 5)).block, (pd20.add (i * 5)).off + 1, none⟩, .int .i64 (cv nd i 1)), (⟨(pd20.add (i * 5)).block, (pd20.add (i * 5)).off + 2, none⟩, .int .i64 (cv nd i 2)), (⟨(pd20.add (i * 5)).block, (pd20.add (i * 5)).off + 3, none⟩, .int .i64 (cv nd i 3)), (⟨(pd20.add (i * 5)).block, (pd20.add (i * 5)).off + 4, none⟩, .int .i64 (cv nd i 4))] := hC.append ((RCells.cons (pc20 0 (by decide)) (RCells.cons (pc20 1 (by decide)) (RCells.cons (pc20 2 (by decide)) (RCells.cons (pc20 3 (by decide)) (RCells.cons (pc20 4 (by decide)) (RCells.nil _)))))))
     clear pc20
     refine Y.pval F (X.w1 rfl (F.yl (j := 6) (d := 68) (b := false) rfl (by kernel_rfl))) rfl (X.index rfl (F.ev 73 (.slice (some pd20) n nc)) (F.ev 74 (.int .i64 i)) (X.idx (k := i) Try.underlying22 (Try.siz31 _) (by omega) (by omega) rfl)) ?_
     clear F ac
     intro ac F
     refine Y.pval F (X.w1 rfl (F.yl (j := 6) (d := 68) (b := false) rfl (by kernel_rfl))) rfl (X.field rfl (F.ev 75 (.pointer (some (pd20.add (i * 5))))) (X.fld Try.underlying31 rfl (Try.siz3 _) rfl rfl)) ?_
     clear F ac
     intro ac F
     refine Y.pval F (X.w1 rfl (F.yl (j := 6) (d := 68) (b := false) rfl (by kernel_rfl))) rfl (X.load rfl (F.ev 76 (.pointer (some (⟨(pd20.add (i * 5)).block, (pd20.add (i * 5)).off + 2, none⟩)))) (X.ld1 (Try.agg3 _) (hC.at 9 rfl))) ?_
     clear F ac
     intro ac F
     refine Y.pval F (X.w1 rfl (F.yl (j := 6) (d := 68) (b := false) rfl (by kernel_rfl))) rfl (X.binop rfl (F.ev 71 (.int .i64 ((worstV gr hold nd i ((t : Int) + 1) : Int) - (worstV gr hold nd i t)))) (F.ev 77 (.int .i64 (cv nd i 2))) (X.lssI Try.underlying3 rfl)) ?_
     clear F ac
     intro ac F
     refine Y.pval F (X.w0 rfl) rfl (X.pickF rfl (F.ev 68 (.bool false)) (F.ev 78 (.bool (decide (((worstV gr hold nd i ((t : Int) + 1) : Int) - (worstV gr hold nd i t) : Int) < (cv nd i 2)))))) ?_
     clear F ac
     intro ac F
     refine Y.pval F (X.w0 rfl) rfl (X.move rfl (F.ev 79 (.bool (decide (((worstV gr hold nd i ((t : Int) + 1) : Int) - (worstV gr hold nd i t) : Int) < (cv nd i 2)))))) ?_
     clear F ac
     intro ac F
     have h22 : decide (((worstV gr hold nd i ((t : Int) + 1) : Int) - (worstV gr hold nd i t) : Int) < (cv nd i 2)) = false := decide_eq_false (by omega)
     have h22p : ¬ (((worstV gr hold nd i ((t : Int) + 1) : Int) - (worstV gr hold nd i t) : Int) < (cv nd i 2)) := of_decide_eq_false h22
     try rw [h22] at F
     refine Y.pval F (X.w1 rfl (F.yl (j := 18) (d := 80) (b := false) rfl (by kernel_rfl))) rfl (X.move rfl (F.ev 10 (.int .i64 (worstV gr hold nd i ((t : Int) + 1))))) ?_
     clear F ac
     intro ac F
     refine Y.pval F (X.w1 rfl (F.yl (j := 18) (d := 80) (b := false) rfl (by kernel_rfl))) rfl (X.move rfl (F.ev 8 (.int .i64 (worstV gr hold nd i t)))) ?_
     clear F ac
     intro ac F
     refine Y.pval F (X.w1 rfl (F.yl (j := 18) (d := 80) (b := false) rfl (by kernel_rfl))) rfl (X.binop rfl (F.ev 81 (.int .i64 (worstV gr hold nd i ((t : Int) + 1)))) (F.ev 82 (.int .i64 (worstV gr hold nd i t))) (X.subI Try.underlying3 rfl (by omega) (by omega))) ?_
     clear F ac
     intro ac F
     refine Y.pval F (X.w1 rfl (F.yl (j := 18) (d := 80) (b := false) rfl (by kernel_rfl))) rfl (X.field rfl (F.ev 3 (.pointer (some ⟨w.heap.size, 0, none⟩))) (X.fld Try.underlying24 rfl (Try.siz22 _) rfl rfl)) ?_
     clear F ac
     intro ac F
     refine Y.pval F (X.w1 rfl (F.yl (j := 18) (d := 80) (b := false) rfl (by kernel_rfl))) rfl (X.load rfl (F.ev 84 (.pointer (some ⟨w.heap.size, 2, none⟩))) (X.ld1 (Try.agg22 _) (hC.at 2 rfl))) ?_
     clear F ac
     intro ac F
     refine Y.pval F (X.w1 rfl (F.yl (j := 18) (d := 80) (b := false) rfl (by kernel_rfl))) rfl (X.move rfl (F.ev 7 (.int .i64 i))) ?_
     clear F ac
     intro ac F
     refine Y.pval F (X.w1 rfl (F.yl (j := 18) (d := 80) (b := false) rfl (by kernel_rfl))) rfl (X.index rfl (F.ev 85 (.slice (some pd20) n nc)) (F.ev 86 (.int .i64 i)) (X.idx (k := i) Try.underlying22 (Try.siz31 _) (by omega) (by omega) rfl)) ?_
     clear F ac
     intro ac F
     refine Y.pval F (X.w1 rfl (F.yl (j := 18) (d := 80) (b := false) rfl (by kernel_rfl))) rfl (X.field rfl (F.ev 87 (.pointer (some (pd20.add (i * 5))))) (X.fld Try.underlying31 rfl (Try.siz3 _) rfl rfl)) ?_
     clear F ac
     intro ac F
     refine Y.pval F (X.w1 rfl (F.yl (j := 18) (d := 80) (b := false) rfl (by kernel_rfl))) rfl (X.load rfl (F.ev 88 (.pointer (some (⟨(pd20.add (i * 5)).block, (pd20.add (i * 5)).off + 1, none⟩)))) (X.ld1 (Try.agg3 _) (hC.at 8 rfl))) ?_
     clear F ac
     intro ac F
     refine Y.pval F (X.w1 rfl (F.yl (j := 18) (d := 80) (b := false) rfl (by kernel_rfl))) rfl (X.binop rfl (F.ev 83 (.int .i64 ((worstV gr hold nd i ((t : Int) + 1) : Int) - (worstV gr hold nd i t)))) (F.ev 89 (.int .i64 (cv nd i 1))) (X.gtrI Try.underlying3 rfl)) ?_
     clear F ac
     intro ac F
     refine Y.pval F (X.w0 rfl) rfl (X.pickF rfl (F.ev 80 (.bool false)) (F.ev 90 (.bool (decide ((cv nd i 1 : Int) < ((worstV gr hold nd i ((t : Int) + 1) : Int) - (worstV gr hold nd i t))))))) ?_
     clear F ac
     intro ac F
     refine Y.nil ?_
     replace F : Fr ac 153 [(0, .agg #[.int .i64 gr, .int .i64 hold, .slice (some pd20) n nc]), (1, .int .i64 t), (2, .agg #[.int .i64 m0, .int .i64 m1, .int .i64 m2, .int .i64 m3]), (3, .pointer (some ⟨w.heap.size, 0, none⟩)), (5, .pointer (some ⟨w3.heap.size, 0, none⟩)), (6, .bool false), (7, .int .i64 i), (8, .int .i64 (worstV gr hold nd i t)), (9, .int .i64 (nodeE gr hold nd i t)), (10, .int .i64 (worstV gr hold nd i ((t : Int) + 1))), (11, .int .i64 (nodeE gr hold nd i ((t : Int) + 1))), (31, .bool false), (91, .bool (decide ((cv nd i 1 : Int) < ((worstV gr hold nd i ((t : Int) + 1) : Int) - (worstV gr hold nd i t)))))] := F.sub _
     refine X.thenN ?_
     have h24 : decide ((cv nd i 1 : Int) < ((worstV gr hold nd i ((t : Int) + 1) : Int) - (worstV gr hold nd i t))) = false := decide_eq_false (by omega)
     have h24p : ¬ ((cv nd i 1 : Int) < ((worstV gr hold nd i ((t : Int) + 1) : Int) - (worstV gr hold nd i t))) := of_decide_eq_false h24
     try rw [h24] at F
     refine Y.condF (F.ev 91 (.bool false)) ?_
     refine Y.skip ?_
     refine X.thenN ?_
     refine Y.seq ?_
     refine Y.lit (by kernel_rfl) ?_
     refine Y.pval F (X.w0 rfl) rfl (X.load rfl (F.ev 3 (.pointer (some ⟨w.heap.size, 0, none⟩))) (X.ldN (Try.agg24 _) (Try.siz24 _) (Y.atz (⟨w.heap.size, 0, none⟩) (Y.AtFrom.cons (hC.at 0 rfl) (Y.AtFrom.cons (hC.at 1 rfl) (Y.AtFrom.cons (hC.at 2 rfl) (Y.AtFrom.nil _ _ _))))))) ?_
     clear F ac
     intro ac F
     refine Y.pval F (X.w0 rfl) rfl (Y.al rfl (Try.new24 _)) ?_
     clear F ac
     intro ac F
     refine Y.punit F (X.w0 rfl) rfl (X.store rfl (F.ev 12 (.pointer (some ⟨w15.heap.size, 0, none⟩))) (F.ev 92 (.agg #[.int .i64 gr, .int .i64 hold, .slice (some pd20) n nc])) (Y.stNew [.int .i64 gr, .int .i64 hold, .slice (some pd20) n nc] [.int .i64 0, .int .i64 0, .slice none 0 0] (Try.siz24 _) rfl rfl)) ?_
     clear F ac
     intro ac F
     have hq0_ : w.heap.size < w15.heap.size := lt_cell (hC.at 0 rfl)
     have hq3_ : w3.heap.size < w15.heap.size := lt_cell (hC.at 3 rfl)
     have G0w := G
     have hq25 : w.heap.size < w15.heap.size := lt_cell (hC.at 0 rfl)
     have hq26 : w3.heap.size < w15.heap.size := lt_cell (hC.at 3 rfl)
     have g := Gr.alloc w15 (.cells #[.int .i64 gr, .int .i64 hold, .slice (some pd20) n nc] 24)
     have hb := heap_alloc_new w15 (.cells #[.int .i64 gr, .int .i64 hold, .slice (some pd20) n nc] 24)
     have hbl : w15.heap.size < (w15.alloc (.cells #[.int .i64 gr, .int .i64 hold, .slice (some pd20) n nc] 24)).heap.size := by simp
     have hC2 : RCells (w15.alloc (.cells #[.int .i64 gr, .int .i64 hold, .slice (some pd20) n nc] 24)) [(⟨w.heap.size, 0, none⟩, .int .i64 gr), (⟨w.heap.size, 1, none⟩, .int .i64 hold), (⟨w.heap.size, 2, none⟩, .slice (some pd20) n nc), (⟨w3.heap.size, 0, none⟩, .int .i64 m0), (⟨w3.heap.size, 1, none⟩, .int .i64 m1), (⟨w3.heap.size, 2, none⟩, .int .i64 m2), (⟨w3.heap.size, 3, none⟩, .int .i64 m3), (pd20.add (i * 5), .int .i64 (cv nd i 0)), (⟨(pd20.add (i * 5)).block, (pd20.add (i * 5)).off + 1, none⟩, .int .i64 (cv nd i 1)), (⟨(pd20.add (i * 5)).block, (pd20.add (i * 5)).off + 2, none⟩, .int .i64 (cv nd i 2)), (⟨(pd20.add (i * 5)).block, (pd20.add (i * 5)).off + 3, none⟩, .int .i64 (cv nd i 3)), (⟨(pd20.add (i * 5)).block, (pd20.add (i * 5)).off + 4, none⟩, .int .i64 (cv nd i 4)), (⟨w15.heap.size, 0, none⟩, .int .i64 gr), (⟨w15.heap.size, 1, none⟩, .int .i64 hold), (⟨w15.heap.size, 2, none⟩, .slice (some pd20) n nc)] := hC.box (b := w15.heap.size) #[.int .i64 gr, .int .i64 hold, .slice (some pd20) n nc] 24 rfl
     generalize w15.alloc (.cells #[.int .i64 gr, .int .i64 hold, .slice (some pd20) n nc] 24) = w27 at *
     replace G := G.trans g
     replace hC := hC2
     clear hC2
     replace hnd := hnd.gr g
     have hM := ownP_3 hb
     clear g hb hbl
     obtain ⟨mb, hmb⟩ : ∃ mb, w15.heap.size = mb := ⟨_, rfl⟩
     rw [hmb] at F hC hM hq0_ hq3_
     have hmw : w.heap.size ≤ mb := by have := G0w.size; omega
     clear G0w hmb
     refine Y.nil ?_
     replace F : Fr ac 153 [(0, .agg #[.int .i64 gr, .int .i64 hold, .slice (some pd20) n nc]), (1, .int .i64 t), (2, .agg #[.int .i64 m0, .int .i64 m1, .int .i64 m2, .int .i64 m3]), (3, .pointer (some ⟨w.heap.size, 0, none⟩)), (5, .pointer (some ⟨w3.heap.size, 0, none⟩)), (6, .bool false), (7, .int .i64 i), (8, .int .i64 (worstV gr hold nd i t)), (9, .int .i64 (nodeE gr hold nd i t)), (10, .int .i64 (worstV gr hold nd i ((t : Int) + 1))), (11, .int .i64 (nodeE gr hold nd i ((t : Int) + 1))), (12, .pointer (some ⟨mb, 0, none⟩)), (31, .bool false), (91, .bool false)] := F.sub _
     refine X.thenN ?_
     refine Y.seq ?_
     refine Y.lit (by kernel_rfl) ?_
     refine Y.pval F (X.w0 rfl) rfl (X.field rfl (F.ev 3 (.pointer (some ⟨w.heap.size, 0, none⟩))) (X.fld Try.underlying24 rfl (Try.siz22 _) rfl rfl)) ?_
     clear F ac
     intro ac F
     refine Y.pval F (X.w0 rfl) rfl (X.load rfl (F.ev 93 (.pointer (some ⟨w.heap.size, 2, none⟩))) (X.ld1 (Try.agg22 _) (hC.at 2 rfl))) ?_
     clear F ac
     intro ac F
     have hgs := G.size
     have hMl := hM.lt
     have hsrc := flat5_src hnd rfl
     refine Y.wpL_plain rfl fun _ hK => wp_pushV Try.underlying22 Try.info31 rfl (by decide) rfl (X.kc (.slice none 0 0) rfl) (F.ev 94 (.slice (some pd20) n nc)) (OwnR.nil _ w27.heap.size 31 5) (m := n) (news := flat5 nd n) (flat5_len _ _) hsrc (flat5_one _ _) (by omega) (by decide) (Nat.le_refl _) (fun v2 w28 hO hon hat => hK _ _ ?_)
     refine Y.pput F rfl ?_
     clear F ac hsrc hat
     intro ac F
     have g := (Gr.refl w27).own hon (fun b e => by simp [Value.ownBlock] at e)
     rw [Nat.zero_add] at hO
     obtain ⟨go, gc, rfl, hgo, hS⟩ := hO.some5 (by omega)
     have hgm : ¬ mb = go := by omega
     clear hO hon
     replace G := G.trans g
     replace hC := hC.gr g
     replace hnd := hnd.gr g
     replace hM := hM.gr g
     clear g
     have hgw9 : w.heap.size ≤ go := by omega
     refine Y.pval F (X.w0 rfl) rfl (X.field rfl (F.ev 12 (.pointer (some ⟨mb, 0, none⟩))) (X.fld Try.underlying24 rfl (Try.siz22 _) rfl rfl)) ?_
     clear F ac
     intro ac F
     refine Y.punit F (X.w0 rfl) rfl (X.store rfl (F.ev 96 (.pointer (some ⟨mb, 2, none⟩))) (F.ev 95 (.slice (some ⟨go, 0, none⟩) n gc)) (hM.st1 (Try.siz22 _) rfl rfl (by decide))) ?_
     clear F ac
     intro ac F
     have hon := Y.set_only w28 mb 2 (.slice (some ⟨go, 0, none⟩) n gc)
     have hM2 := (hM.set (k := 2) (.slice (some ⟨go, 0, none⟩) n gc)).congr (VL3_set2 _ _ _ _)
     generalize w28.setCell ⟨mb, 2, none⟩ (.slice (some ⟨go, 0, none⟩) n gc) = w29 at *
     replace hM := hM2
     clear hM2
     have hgm2 : ¬ go = mb := by omega
     replace G := Y.Only.up G hon (by omega)
     replace hnd := hnd0.gr G
     replace hS := hS.only hon (by show ¬ _ = _; omega)
     replace hC : RCells w29 [(⟨w.heap.size, 0, none⟩, .int .i64 gr), (⟨w.heap.size, 1, none⟩, .int .i64 hold), (⟨w.heap.size, 2, none⟩, .slice (some pd20) n nc), (⟨w3.heap.size, 0, none⟩, .int .i64 m0), (⟨w3.heap.size, 1, none⟩, .int .i64 m1), (⟨w3.heap.size, 2, none⟩, .int .i64 m2), (⟨w3.heap.size, 3, none⟩, .int .i64 m3)] := (RCells.cons (hon.cell (hC.at 0 rfl) (by show ¬ w.heap.size = mb; omega)) (RCells.cons (hon.cell (hC.at 1 rfl) (by show ¬ w.heap.size = mb; omega)) (RCells.cons (hon.cell (hC.at 2 rfl) (by show ¬ w.heap.size = mb; omega)) (RCells.cons (hon.cell (hC.at 3 rfl) (by show ¬ w3.heap.size = mb; omega)) (RCells.cons (hon.cell (hC.at 4 rfl) (by show ¬ w3.heap.size = mb; omega)) (RCells.cons (hon.cell (hC.at 5 rfl) (by show ¬ w3.heap.size = mb; omega)) (RCells.cons (hon.cell (hC.at 6 rfl) (by show ¬ w3.heap.size = mb; omega)) (RCells.nil _))))))))
     clear hon
     replace hC : RCells w29 [(⟨w.heap.size, 0, none⟩, .int .i64 gr), (⟨w.heap.size, 1, none⟩, .int .i64 hold), (⟨w.heap.size, 2, none⟩, .slice (some pd20) n nc), (⟨w3.heap.size, 0, none⟩, .int .i64 m0), (⟨w3.heap.size, 1, none⟩, .int .i64 m1), (⟨w3.heap.size, 2, none⟩, .int .i64 m2), (⟨w3.heap.size, 3, none⟩, .int .i64 m3), (⟨mb, 0, none⟩, .int .i64 gr), (⟨mb, 1, none⟩, .int .i64 hold), (⟨mb, 2, none⟩, .slice (some ⟨go, 0, none⟩) n gc)] := hC.append ((RCells.cons (hM.cell (k := 0) (by decide)) (RCells.cons (hM.cell (k := 1) (by decide)) (RCells.cons (hM.cell (k := 2) (by decide)) (RCells.nil _)))))
     refine Y.nil ?_
     replace F : Fr ac 153 [(0, .agg #[.int .i64 gr, .int .i64 hold, .slice (some pd20) n nc]), (1, .int .i64 t), (2, .agg #[.int .i64 m0, .int .i64 m1, .int .i64 m2, .int .i64 m3]), (3, .pointer (some ⟨w.heap.size, 0, none⟩)), (5, .pointer (some ⟨w3.heap.size, 0, none⟩)), (6, .bool false), (7, .int .i64 i), (8, .int .i64 (worstV gr hold nd i t)), (9, .int .i64 (nodeE gr hold nd i t)), (10, .int .i64 (worstV gr hold nd i ((t : Int) + 1))), (11, .int .i64 (nodeE gr hold nd i ((t : Int) + 1))), (12, .pointer (some ⟨mb, 0, none⟩)), (31, .bool false), (91, .bool false)] := F.sub _
     refine X.thenN ?_
     refine Y.seq ?_
     refine Y.lit (by kernel_rfl) ?_
     refine Y.pval F (X.w0 rfl) rfl (X.field rfl (F.ev 12 (.pointer (some ⟨mb, 0, none⟩))) (X.fld Try.underlying24 rfl (Try.siz22 _) rfl rfl)) ?_
     clear F ac
     intro ac F
     refine Y.pval F (X.w0 rfl) rfl (X.load rfl (F.ev 97 (.pointer (some ⟨mb, 2, none⟩))) (X.ld1 (Try.agg22 _) (hC.at 9 rfl))) ?_
     clear F ac
     intro ac F
     refine Y.pval F (X.w0 rfl) rfl (X.move rfl (F.ev 7 (.int .i64 i))) ?_
     clear F ac
     intro ac F
     refine Y.pval F (X.w0 rfl) rfl (X.index rfl (F.ev 98 (.slice (some ⟨go, 0, none⟩) n gc)) (F.ev 99 (.int .i64 i)) (X.idx (k := i) Try.underlying22 (Try.siz31 _) (by omega) (by omega) (addr_add0 _ _))) ?_
     clear F ac
     intro ac F
     refine Y.pval F (X.w0 rfl) rfl (X.assign rfl (F.ev 100 (.pointer (some ⟨go, i * 5, none⟩)))) ?_
     clear F ac
     intro ac F
     refine Y.nil ?_
     replace F : Fr ac 153 [(0, .agg #[.int .i64 gr, .int .i64 hold, .slice (some pd20) n nc]), (1, .int .i64 t), (2, .agg #[.int .i64 m0, .int .i64 m1, .int .i64 m2, .int .i64 m3]), (3, .pointer (some ⟨w.heap.size, 0, none⟩)), (5, .pointer (some ⟨w3.heap.size, 0, none⟩)), (6, .bool false), (7, .int .i64 i), (8, .int .i64 (worstV gr hold nd i t)), (9, .int .i64 (nodeE gr hold nd i t)), (10, .int .i64 (worstV gr hold nd i ((t : Int) + 1))), (11, .int .i64 (nodeE gr hold nd i ((t : Int) + 1))), (12, .pointer (some ⟨mb, 0, none⟩)), (13, .pointer (some ⟨go, i * 5, none⟩)), (31, .bool false), (91, .bool false)] := F.sub _
     refine X.thenN ?_
     refine Y.seq ?_
     replace hC : RCells w29 [(⟨w.heap.size, 0, none⟩, .int .i64 gr), (⟨w.heap.size, 1, none⟩, .int .i64 hold), (⟨w.heap.size, 2, none⟩, .slice (some pd20) n nc), (⟨w3.heap.size, 0, none⟩, .int .i64 m0), (⟨w3.heap.size, 1, none⟩, .int .i64 m1), (⟨w3.heap.size, 2, none⟩, .int .i64 m2), (⟨w3.heap.size, 3, none⟩, .int .i64 m3), (⟨mb, 0, none⟩, .int .i64 gr), (⟨mb, 1, none⟩, .int .i64 hold), (⟨mb, 2, none⟩, .slice (some ⟨go, 0, none⟩) n gc), (⟨go, i * 5 + 3, none⟩, .int .i64 (cv nd i 3))] := hC.append ((RCells.cons (F5_at3 (hS.cell (k := i * 5 + 3) (by omega))) (RCells.nil _)))
     refine Y.regionS F [some (.pointer (some ⟨go, i * 5, none⟩)), some (.pointer (some ⟨go, i * 5, none⟩)), some (.pointer (some ⟨go, i * 5, none⟩)), some (.pointer (some ⟨go, i * 5 + 3, none⟩)), some (.int .i64 (cv nd i 3)), some (.pointer (some ⟨w3.heap.size, 1, none⟩)), some (.int .i64 m1), some (.int .i64 (min (m1 : Int) (3 : Int))), some (.int .i64 (max (0 : Int) ((min (m1 : Int) (3 : Int)) : Int))), some (.int .i64 ((cv nd i 3 : Int) + (max (0 : Int) ((min (m1 : Int) (3 : Int)) : Int)))), some (.int .i64 (min (20 : Int) ((cv nd i 3 : Int) + (max (0 : Int) ((min (m1 : Int) (3 : Int)) : Int)) : Int))), some (.pointer (some ⟨go, i * 5, none⟩)), some (.pointer (some ⟨go, i * 5 + 3, none⟩)), none] [] 13 (fun _ W => Only (fun x => x = go) w29 W ∧ OwnP W go (n * 5) (EV ((fun z_ => if z_ = i * 5 + 3 then (min (20 : Int) ((cv nd i 3 : Int) + (max (0 : Int) ((min (m1 : Int) (3 : Int)) : Int)) : Int)) else (F5 nd) z_)))) rfl ⟨by kernel_rfl, of_decide_eq_true (by kernel_rfl), by kernel_rfl, by kernel_rfl, by kernel_rfl⟩ (of_decide_eq_true (by kernel_rfl)) ⟨?_, ?_, ?_, ?_, ?_, ?_, ?_, ?_, ?_, ?_, ?_, ?_, ?_, ?_, trivial⟩ ?_
     ·intro ac done u W Sx hT
      have hs := Sx.no 13 (by kernel_rfl)
      have hR := hT.1 hs
      exact X.val (X.w0 rfl) rfl (X.move rfl (Sx.ev 13 (.pointer (some ⟨go, i * 5, none⟩)))) (Y.RT.of hs rfl (hR.step (Gr.refl _) rfl))
     ·intro ac done u W Sx hT
      have hs := Sx.no 13 (by kernel_rfl)
      have hR := hT.1 hs
      exact X.val (X.w0 rfl) rfl (X.move rfl (Sx.ev 13 (.pointer (some ⟨go, i * 5, none⟩)))) (Y.RT.of hs rfl (hR.step (Gr.refl _) rfl))
     ·intro ac done u W Sx hT
      have hs := Sx.no 13 (by kernel_rfl)
      have hR := hT.1 hs
      exact X.val (X.w0 rfl) rfl (Y.nilC rfl (Sx.ev 102 (.pointer (some ⟨go, i * 5, none⟩)))) (Y.RT.of hs rfl (hR.step (Gr.refl _) rfl))
     ·intro ac done u W Sx hT
      have hs := Sx.no 13 (by kernel_rfl)
      have hR := hT.1 hs
      exact X.val (X.w0 rfl) rfl (X.field rfl (Sx.ev 103 (.pointer (some ⟨go, i * 5, none⟩))) (X.fld Try.underlying31 rfl (Try.siz3 _) rfl rfl)) (Y.RT.of hs rfl (hR.step (Gr.refl _) rfl))
     ·intro ac done u W Sx hT
      have hs := Sx.no 13 (by kernel_rfl)
      have hR := hT.1 hs
      have g : Gr w29 W := hR.1
      exact X.val (X.w0 rfl) rfl (X.load rfl (Sx.ev 104 (.pointer (some ⟨go, i * 5 + 3, none⟩))) (X.ld1 (Try.agg3 _) ((hC.gr g).at 10 rfl))) (Y.RT.of hs rfl (hR.step (Gr.refl _) rfl))
     ·intro ac done u W Sx hT
      have hs := Sx.no 13 (by kernel_rfl)
      have hR := hT.1 hs
      exact X.val (X.w0 rfl) rfl (X.field rfl (Sx.ev 5 (.pointer (some ⟨w3.heap.size, 0, none⟩))) (X.fld Try.underlying41 rfl (Try.siz3 _) rfl rfl)) (Y.RT.of hs rfl (hR.step (Gr.refl _) rfl))
     ·intro ac done u W Sx hT
      have hs := Sx.no 13 (by kernel_rfl)
      have hR := hT.1 hs
      have g : Gr w29 W := hR.1
      exact X.val (X.w0 rfl) rfl (X.load rfl (Sx.ev 106 (.pointer (some ⟨w3.heap.size, 1, none⟩))) (X.ld1 (Try.agg3 _) ((hC.gr g).at 4 rfl))) (Y.RT.of hs rfl (hR.step (Gr.refl _) rfl))
     ·intro ac done u W Sx hT
      have hs := Sx.no 13 (by kernel_rfl)
      have hR := hT.1 hs
      exact X.val (X.w0 rfl) rfl (Y.min2 rfl (Sx.ev 107 (.int .i64 m1)) (X.kc (.int .i64 3) rfl)) (Y.RT.of hs rfl (hR.step (Gr.refl _) rfl))
     ·intro ac done u W Sx hT
      have hs := Sx.no 13 (by kernel_rfl)
      have hR := hT.1 hs
      exact X.val (X.w0 rfl) rfl (Y.max2 rfl (X.kc (.int .i64 0) rfl) (Sx.ev 108 (.int .i64 (min (m1 : Int) (3 : Int))))) (Y.RT.of hs rfl (hR.step (Gr.refl _) rfl))
     ·intro ac done u W Sx hT
      have hs := Sx.no 13 (by kernel_rfl)
      have hR := hT.1 hs
      exact X.val (X.w0 rfl) rfl (X.binop rfl (Sx.ev 105 (.int .i64 (cv nd i 3))) (Sx.ev 109 (.int .i64 (max (0 : Int) ((min (m1 : Int) (3 : Int)) : Int)))) (X.addI Try.underlying3 rfl (by omega) (by omega))) (Y.RT.of hs rfl (hR.step (Gr.refl _) rfl))
     ·intro ac done u W Sx hT
      have hs := Sx.no 13 (by kernel_rfl)
      have hR := hT.1 hs
      exact X.val (X.w0 rfl) rfl (Y.min2 rfl (X.kc (.int .i64 20) rfl) (Sx.ev 110 (.int .i64 ((cv nd i 3 : Int) + (max (0 : Int) ((min (m1 : Int) (3 : Int)) : Int)))))) (Y.RT.of hs rfl (hR.step (Gr.refl _) rfl))
     ·intro ac done u W Sx hT
      have hs := Sx.no 13 (by kernel_rfl)
      have hR := hT.1 hs
      exact X.val (X.w0 rfl) rfl (Y.nilC rfl (Sx.ev 101 (.pointer (some ⟨go, i * 5, none⟩)))) (Y.RT.of hs rfl (hR.step (Gr.refl _) rfl))
     ·intro ac done u W Sx hT
      have hs := Sx.no 13 (by kernel_rfl)
      have hR := hT.1 hs
      exact X.val (X.w0 rfl) rfl (X.field rfl (Sx.ev 112 (.pointer (some ⟨go, i * 5, none⟩))) (X.fld Try.underlying31 rfl (Try.siz3 _) rfl rfl)) (Y.RT.of hs rfl (hR.step (Gr.refl _) rfl))
     ·intro ac done u W Sx hT
      have hR := hT.1 Sx.nd
      have g : Gr w29 W := hR.1
      have hS2 := (hS.gr g).set (k := i * 5 + 3) (.int .i64 (min (20 : Int) ((cv nd i 3 : Int) + (max (0 : Int) ((min (m1 : Int) (3 : Int)) : Int)) : Int)))
      rw [EV_up] at hS2
      exact X.unit (X.w0 rfl) rfl (X.store rfl (Sx.ev 113 (.pointer (some ⟨go, i * 5 + 3, none⟩))) (Sx.ev 111 (.int .i64 (min (20 : Int) ((cv nd i 3 : Int) + (max (0 : Int) ((min (m1 : Int) (3 : Int)) : Int)) : Int)))) ((hS.gr g).st1 (Try.siz3 _) rfl rfl (by omega))) (Y.RT.fin ⟨(g.only _).trans (Y.set_only _ _ _ _), hS2⟩)
     rintro ac u w30 hs hd hl_ ho ⟨hon, hS2⟩
     replace F : Fr ac 153 [(0, .agg #[.int .i64 gr, .int .i64 hold, .slice (some pd20) n nc]), (1, .int .i64 t), (2, .agg #[.int .i64 m0, .int .i64 m1, .int .i64 m2, .int .i64 m3]), (3, .pointer (some ⟨w.heap.size, 0, none⟩)), (5, .pointer (some ⟨w3.heap.size, 0, none⟩)), (6, .bool false), (7, .int .i64 i), (8, .int .i64 (worstV gr hold nd i t)), (9, .int .i64 (nodeE gr hold nd i t)), (10, .int .i64 (worstV gr hold nd i ((t : Int) + 1))), (11, .int .i64 (nodeE gr hold nd i ((t : Int) + 1))), (12, .pointer (some ⟨mb, 0, none⟩)), (13, .pointer (some ⟨go, i * 5, none⟩)), (31, .bool false), (91, .bool false)] := X.fr hs hd hl_ _ (by kernel_rfl)
     clear hs hd hl_ ho
     replace G := Y.Only.up G hon (by omega)
     replace hnd := hnd0.gr G
     replace hM := hM.only hon (by show ¬ _ = _; omega)
     replace hC : RCells w30 [(⟨w.heap.size, 0, none⟩, .int .i64 gr), (⟨w.heap.size, 1, none⟩, .int .i64 hold), (⟨w.heap.size, 2, none⟩, .slice (some pd20) n nc), (⟨w3.heap.size, 0, none⟩, .int .i64 m0), (⟨w3.heap.size, 1, none⟩, .int .i64 m1), (⟨w3.heap.size, 2, none⟩, .int .i64 m2), (⟨w3.heap.size, 3, none⟩, .int .i64 m3), (⟨mb, 0, none⟩, .int .i64 gr), (⟨mb, 1, none⟩, .int .i64 hold), (⟨mb, 2, none⟩, .slice (some ⟨go, 0, none⟩) n gc)] := (RCells.cons (hon.cell (hC.at 0 rfl) (by show ¬ w.heap.size = go; omega)) (RCells.cons (hon.cell (hC.at 1 rfl) (by show ¬ w.heap.size = go; omega)) (RCells.cons (hon.cell (hC.at 2 rfl) (by show ¬ w.heap.size = go; omega)) (RCells.cons (hon.cell (hC.at 3 rfl) (by show ¬ w3.heap.size = go; omega)) (RCells.cons (hon.cell (hC.at 4 rfl) (by show ¬ w3.heap.size = go; omega)) (RCells.cons (hon.cell (hC.at 5 rfl) (by show ¬ w3.heap.size = go; omega)) (RCells.cons (hon.cell (hC.at 6 rfl) (by show ¬ w3.heap.size = go; omega)) (RCells.cons (hon.cell (hC.at 7 rfl) (by show ¬ mb = go; omega)) (RCells.cons (hon.cell (hC.at 8 rfl) (by show ¬ mb = go; omega)) (RCells.cons (hon.cell (hC.at 9 rfl) (by show ¬ mb = go; omega)) (RCells.nil _)))))))))))
     replace hS : OwnP w30 go (n * 5) (EV ((fun z_ => if z_ = i * 5 + 3 then (min (20 : Int) ((cv nd i 3 : Int) + (max (0 : Int) ((min (m1 : Int) (3 : Int)) : Int)) : Int)) else (F5 nd) z_))) := hS2
     clear hS2 hon
     refine X.thenN ?_
     refine Y.seq ?_
     replace hC : RCells w30 [(⟨w.heap.size, 0, none⟩, .int .i64 gr), (⟨w.heap.size, 1, none⟩, .int .i64 hold), (⟨w.heap.size, 2, none⟩, .slice (some pd20) n nc), (⟨w3.heap.size, 0, none⟩, .int .i64 m0), (⟨w3.heap.size, 1, none⟩, .int .i64 m1), (⟨w3.heap.size, 2, none⟩, .int .i64 m2), (⟨w3.heap.size, 3, none⟩, .int .i64 m3), (⟨mb, 0, none⟩, .int .i64 gr), (⟨mb, 1, none⟩, .int .i64 hold), (⟨mb, 2, none⟩, .slice (some ⟨go, 0, none⟩) n gc), (⟨go, i * 5 + 4, none⟩, .int .i64 (cv nd i 4))] := hC.append ((RCells.cons (F5_at4 _ (hS.cell (k := i * 5 + 4) (by omega))) (RCells.nil _)))
     refine Y.regionS F [some (.pointer (some ⟨go, i * 5, none⟩)), some (.pointer (some ⟨go, i * 5, none⟩)), some (.pointer (some ⟨go, i * 5, none⟩)), some (.pointer (some ⟨go, i * 5 + 4, none⟩)), some (.int .i64 (cv nd i 4)), some (.pointer (some ⟨w3.heap.size, 2, none⟩)), some (.int .i64 m2), some (.int .i64 (min (m2 : Int) (5 : Int))), some (.int .i64 (max (0 : Int) ((min (m2 : Int) (5 : Int)) : Int))), some (.int .i64 ((cv nd i 4 : Int) - (max (0 : Int) ((min (m2 : Int) (5 : Int)) : Int)))), some (.int .i64 (max (1 : Int) ((cv nd i 4 : Int) - (max (0 : Int) ((min (m2 : Int) (5 : Int)) : Int)) : Int))), some (.pointer (some ⟨go, i * 5, none⟩)), some (.pointer (some ⟨go, i * 5 + 4, none⟩)), none] [] 13 (fun _ W => Only (fun x => x = go) w30 W ∧ OwnP W go (n * 5) (EV ((fun z_ => if z_ = i * 5 + 4 then (max (1 : Int) ((cv nd i 4 : Int) - (max (0 : Int) ((min (m2 : Int) (5 : Int)) : Int)) : Int)) else ((fun z_ => if z_ = i * 5 + 3 then (min (20 : Int) ((cv nd i 3 : Int) + (max (0 : Int) ((min (m1 : Int) (3 : Int)) : Int)) : Int)) else (F5 nd) z_)) z_)))) rfl ⟨by kernel_rfl, of_decide_eq_true (by kernel_rfl), by kernel_rfl, by kernel_rfl, by kernel_rfl⟩ (of_decide_eq_true (by kernel_rfl)) ⟨?_, ?_, ?_, ?_, ?_, ?_, ?_, ?_, ?_, ?_, ?_, ?_, ?_, ?_, trivial⟩ ?_
     ·intro ac done u W Sx hT
      have hs := Sx.no 13 (by kernel_rfl)
      have hR := hT.1 hs
      exact X.val (X.w0 rfl) rfl (X.move rfl (Sx.ev 13 (.pointer (some ⟨go, i * 5, none⟩)))) (Y.RT.of hs rfl (hR.step (Gr.refl _) rfl))
     ·intro ac done u W Sx hT
      have hs := Sx.no 13 (by kernel_rfl)
      have hR := hT.1 hs
      exact X.val (X.w0 rfl) rfl (X.move rfl (Sx.ev 13 (.pointer (some ⟨go, i * 5, none⟩)))) (Y.RT.of hs rfl (hR.step (Gr.refl _) rfl))
     ·intro ac done u W Sx hT
      have hs := Sx.no 13 (by kernel_rfl)
      have hR := hT.1 hs
      exact X.val (X.w0 rfl) rfl (Y.nilC rfl (Sx.ev 115 (.pointer (some ⟨go, i * 5, none⟩)))) (Y.RT.of hs rfl (hR.step (Gr.refl _) rfl))
     ·intro ac done u W Sx hT
      have hs := Sx.no 13 (by kernel_rfl)
      have hR := hT.1 hs
      exact X.val (X.w0 rfl) rfl (X.field rfl (Sx.ev 116 (.pointer (some ⟨go, i * 5, none⟩))) (X.fld Try.underlying31 rfl (Try.siz3 _) rfl rfl)) (Y.RT.of hs rfl (hR.step (Gr.refl _) rfl))
     ·intro ac done u W Sx hT
      have hs := Sx.no 13 (by kernel_rfl)
      have hR := hT.1 hs
      have g : Gr w30 W := hR.1
      exact X.val (X.w0 rfl) rfl (X.load rfl (Sx.ev 117 (.pointer (some ⟨go, i * 5 + 4, none⟩))) (X.ld1 (Try.agg3 _) ((hC.gr g).at 10 rfl))) (Y.RT.of hs rfl (hR.step (Gr.refl _) rfl))
     ·intro ac done u W Sx hT
      have hs := Sx.no 13 (by kernel_rfl)
      have hR := hT.1 hs
      exact X.val (X.w0 rfl) rfl (X.field rfl (Sx.ev 5 (.pointer (some ⟨w3.heap.size, 0, none⟩))) (X.fld Try.underlying41 rfl (Try.siz3 _) rfl rfl)) (Y.RT.of hs rfl (hR.step (Gr.refl _) rfl))
     ·intro ac done u W Sx hT
      have hs := Sx.no 13 (by kernel_rfl)
      have hR := hT.1 hs
      have g : Gr w30 W := hR.1
      exact X.val (X.w0 rfl) rfl (X.load rfl (Sx.ev 119 (.pointer (some ⟨w3.heap.size, 2, none⟩))) (X.ld1 (Try.agg3 _) ((hC.gr g).at 5 rfl))) (Y.RT.of hs rfl (hR.step (Gr.refl _) rfl))
     ·intro ac done u W Sx hT
      have hs := Sx.no 13 (by kernel_rfl)
      have hR := hT.1 hs
      exact X.val (X.w0 rfl) rfl (Y.min2 rfl (Sx.ev 120 (.int .i64 m2)) (X.kc (.int .i64 5) rfl)) (Y.RT.of hs rfl (hR.step (Gr.refl _) rfl))
     ·intro ac done u W Sx hT
      have hs := Sx.no 13 (by kernel_rfl)
      have hR := hT.1 hs
      exact X.val (X.w0 rfl) rfl (Y.max2 rfl (X.kc (.int .i64 0) rfl) (Sx.ev 121 (.int .i64 (min (m2 : Int) (5 : Int))))) (Y.RT.of hs rfl (hR.step (Gr.refl _) rfl))
     ·intro ac done u W Sx hT
      have hs := Sx.no 13 (by kernel_rfl)
      have hR := hT.1 hs
      exact X.val (X.w0 rfl) rfl (X.binop rfl (Sx.ev 118 (.int .i64 (cv nd i 4))) (Sx.ev 122 (.int .i64 (max (0 : Int) ((min (m2 : Int) (5 : Int)) : Int)))) (X.subI Try.underlying3 rfl (by omega) (by omega))) (Y.RT.of hs rfl (hR.step (Gr.refl _) rfl))
     ·intro ac done u W Sx hT
      have hs := Sx.no 13 (by kernel_rfl)
      have hR := hT.1 hs
      exact X.val (X.w0 rfl) rfl (Y.max2 rfl (X.kc (.int .i64 1) rfl) (Sx.ev 123 (.int .i64 ((cv nd i 4 : Int) - (max (0 : Int) ((min (m2 : Int) (5 : Int)) : Int)))))) (Y.RT.of hs rfl (hR.step (Gr.refl _) rfl))
     ·intro ac done u W Sx hT
      have hs := Sx.no 13 (by kernel_rfl)
      have hR := hT.1 hs
      exact X.val (X.w0 rfl) rfl (Y.nilC rfl (Sx.ev 114 (.pointer (some ⟨go, i * 5, none⟩)))) (Y.RT.of hs rfl (hR.step (Gr.refl _) rfl))
     ·intro ac done u W Sx hT
      have hs := Sx.no 13 (by kernel_rfl)
      have hR := hT.1 hs
      exact X.val (X.w0 rfl) rfl (X.field rfl (Sx.ev 125 (.pointer (some ⟨go, i * 5, none⟩))) (X.fld Try.underlying31 rfl (Try.siz3 _) rfl rfl)) (Y.RT.of hs rfl (hR.step (Gr.refl _) rfl))
     ·intro ac done u W Sx hT
      have hR := hT.1 Sx.nd
      have g : Gr w30 W := hR.1
      have hS2 := (hS.gr g).set (k := i * 5 + 4) (.int .i64 (max (1 : Int) ((cv nd i 4 : Int) - (max (0 : Int) ((min (m2 : Int) (5 : Int)) : Int)) : Int)))
      rw [EV_up] at hS2
      exact X.unit (X.w0 rfl) rfl (X.store rfl (Sx.ev 126 (.pointer (some ⟨go, i * 5 + 4, none⟩))) (Sx.ev 124 (.int .i64 (max (1 : Int) ((cv nd i 4 : Int) - (max (0 : Int) ((min (m2 : Int) (5 : Int)) : Int)) : Int)))) ((hS.gr g).st1 (Try.siz3 _) rfl rfl (by omega))) (Y.RT.fin ⟨(g.only _).trans (Y.set_only _ _ _ _), hS2⟩)
     rintro ac u w31 hs hd hl_ ho ⟨hon, hS2⟩
     replace F : Fr ac 153 [(0, .agg #[.int .i64 gr, .int .i64 hold, .slice (some pd20) n nc]), (1, .int .i64 t), (2, .agg #[.int .i64 m0, .int .i64 m1, .int .i64 m2, .int .i64 m3]), (3, .pointer (some ⟨w.heap.size, 0, none⟩)), (5, .pointer (some ⟨w3.heap.size, 0, none⟩)), (6, .bool false), (7, .int .i64 i), (8, .int .i64 (worstV gr hold nd i t)), (9, .int .i64 (nodeE gr hold nd i t)), (10, .int .i64 (worstV gr hold nd i ((t : Int) + 1))), (11, .int .i64 (nodeE gr hold nd i ((t : Int) + 1))), (12, .pointer (some ⟨mb, 0, none⟩)), (13, .pointer (some ⟨go, i * 5, none⟩)), (31, .bool false), (91, .bool false)] := X.fr hs hd hl_ _ (by kernel_rfl)
     clear hs hd hl_ ho
     replace G := Y.Only.up G hon (by omega)
     replace hnd := hnd0.gr G
     replace hM := hM.only hon (by show ¬ _ = _; omega)
     replace hC : RCells w31 [(⟨w.heap.size, 0, none⟩, .int .i64 gr), (⟨w.heap.size, 1, none⟩, .int .i64 hold), (⟨w.heap.size, 2, none⟩, .slice (some pd20) n nc), (⟨w3.heap.size, 0, none⟩, .int .i64 m0), (⟨w3.heap.size, 1, none⟩, .int .i64 m1), (⟨w3.heap.size, 2, none⟩, .int .i64 m2), (⟨w3.heap.size, 3, none⟩, .int .i64 m3), (⟨mb, 0, none⟩, .int .i64 gr), (⟨mb, 1, none⟩, .int .i64 hold), (⟨mb, 2, none⟩, .slice (some ⟨go, 0, none⟩) n gc)] := (RCells.cons (hon.cell (hC.at 0 rfl) (by show ¬ w.heap.size = go; omega)) (RCells.cons (hon.cell (hC.at 1 rfl) (by show ¬ w.heap.size = go; omega)) (RCells.cons (hon.cell (hC.at 2 rfl) (by show ¬ w.heap.size = go; omega)) (RCells.cons (hon.cell (hC.at 3 rfl) (by show ¬ w3.heap.size = go; omega)) (RCells.cons (hon.cell (hC.at 4 rfl) (by show ¬ w3.heap.size = go; omega)) (RCells.cons (hon.cell (hC.at 5 rfl) (by show ¬ w3.heap.size = go; omega)) (RCells.cons (hon.cell (hC.at 6 rfl) (by show ¬ w3.heap.size = go; omega)) (RCells.cons (hon.cell (hC.at 7 rfl) (by show ¬ mb = go; omega)) (RCells.cons (hon.cell (hC.at 8 rfl) (by show ¬ mb = go; omega)) (RCells.cons (hon.cell (hC.at 9 rfl) (by show ¬ mb = go; omega)) (RCells.nil _)))))))))))
     replace hS : OwnP w31 go (n * 5) (EV ((fun z_ => if z_ = i * 5 + 4 then (max (1 : Int) ((cv nd i 4 : Int) - (max (0 : Int) ((min (m2 : Int) (5 : Int)) : Int)) : Int)) else ((fun z_ => if z_ = i * 5 + 3 then (min (20 : Int) ((cv nd i 3 : Int) + (max (0 : Int) ((min (m1 : Int) (3 : Int)) : Int)) : Int)) else (F5 nd) z_)) z_))) := hS2
     clear hS2 hon
     refine X.thenN ?_
     refine Y.seq ?_
     refine Y.lit (by kernel_rfl) ?_
     refine Y.pval F (X.w0 rfl) rfl (X.field rfl (F.ev 3 (.pointer (some ⟨w.heap.size, 0, none⟩))) (X.fld Try.underlying24 rfl (Try.siz3 _) rfl rfl)) ?_
     clear F ac
     intro ac F
     refine Y.pval F (X.w0 rfl) rfl (X.load rfl (F.ev 127 (.pointer (some ⟨w.heap.size, 1, none⟩))) (X.ld1 (Try.agg3 _) (hC.at 1 rfl))) ?_
     clear F ac
     intro ac F
     refine Y.pval F (X.w0 rfl) rfl (X.field rfl (F.ev 5 (.pointer (some ⟨w3.heap.size, 0, none⟩))) (X.fld Try.underlying41 rfl (Try.siz3 _) rfl rfl)) ?_
     clear F ac
     intro ac F
     refine Y.pval F (X.w0 rfl) rfl (X.load rfl (F.ev 129 (.pointer (some ⟨w3.heap.size, 3, none⟩))) (X.ld1 (Try.agg3 _) (hC.at 6 rfl))) ?_
     clear F ac
     intro ac F
     refine Y.pval F (X.w0 rfl) rfl (Y.min2 rfl (F.ev 130 (.int .i64 m3)) (X.kc (.int .i64 3) rfl)) ?_
     clear F ac
     intro ac F
     refine Y.pval F (X.w0 rfl) rfl (Y.max2 rfl (X.kc (.int .i64 0) rfl) (F.ev 131 (.int .i64 (min (m3 : Int) (3 : Int))))) ?_
     clear F ac
     intro ac F
     refine Y.pval F (X.w0 rfl) rfl (X.binop rfl (F.ev 128 (.int .i64 hold)) (F.ev 132 (.int .i64 (max (0 : Int) ((min (m3 : Int) (3 : Int)) : Int)))) (X.addI Try.underlying3 rfl (by omega) (by omega))) ?_
     clear F ac
     intro ac F
     refine Y.pval F (X.w0 rfl) rfl (Y.min2 rfl (X.kc (.int .i64 100) rfl) (F.ev 133 (.int .i64 ((hold : Int) + (max (0 : Int) ((min (m3 : Int) (3 : Int)) : Int)))))) ?_
     clear F ac
     intro ac F
     refine Y.pval F (X.w0 rfl) rfl (X.field rfl (F.ev 12 (.pointer (some ⟨mb, 0, none⟩))) (X.fld Try.underlying24 rfl (Try.siz3 _) rfl rfl)) ?_
     clear F ac
     intro ac F
     refine Y.punit F (X.w0 rfl) rfl (X.store rfl (F.ev 135 (.pointer (some ⟨mb, 1, none⟩))) (F.ev 134 (.int .i64 (min (100 : Int) ((hold : Int) + (max (0 : Int) ((min (m3 : Int) (3 : Int)) : Int)) : Int)))) (hM.st1 (Try.siz3 _) rfl rfl (by decide))) ?_
     clear F ac
     intro ac F
     have hon := Y.set_only w31 mb 1 (.int .i64 (min (100 : Int) ((hold : Int) + (max (0 : Int) ((min (m3 : Int) (3 : Int)) : Int)) : Int)))
     have hM2 := (hM.set (k := 1) (.int .i64 (min (100 : Int) ((hold : Int) + (max (0 : Int) ((min (m3 : Int) (3 : Int)) : Int)) : Int)))).congr (VL3_set1 _ _ _ _)
     generalize w31.setCell ⟨mb, 1, none⟩ (.int .i64 (min (100 : Int) ((hold : Int) + (max (0 : Int) ((min (m3 : Int) (3 : Int)) : Int)) : Int))) = w32 at *
     replace hM := hM2
     clear hM2
     have hgm2 : ¬ go = mb := by omega
     replace G := Y.Only.up G hon (by omega)
     replace hnd := hnd0.gr G
     replace hS := hS.only hon (by show ¬ _ = _; omega)
     replace hC : RCells w32 [(⟨w.heap.size, 0, none⟩, .int .i64 gr), (⟨w.heap.size, 1, none⟩, .int .i64 hold), (⟨w.heap.size, 2, none⟩, .slice (some pd20) n nc), (⟨w3.heap.size, 0, none⟩, .int .i64 m0), (⟨w3.heap.size, 1, none⟩, .int .i64 m1), (⟨w3.heap.size, 2, none⟩, .int .i64 m2), (⟨w3.heap.size, 3, none⟩, .int .i64 m3)] := (RCells.cons (hon.cell (hC.at 0 rfl) (by show ¬ w.heap.size = mb; omega)) (RCells.cons (hon.cell (hC.at 1 rfl) (by show ¬ w.heap.size = mb; omega)) (RCells.cons (hon.cell (hC.at 2 rfl) (by show ¬ w.heap.size = mb; omega)) (RCells.cons (hon.cell (hC.at 3 rfl) (by show ¬ w3.heap.size = mb; omega)) (RCells.cons (hon.cell (hC.at 4 rfl) (by show ¬ w3.heap.size = mb; omega)) (RCells.cons (hon.cell (hC.at 5 rfl) (by show ¬ w3.heap.size = mb; omega)) (RCells.cons (hon.cell (hC.at 6 rfl) (by show ¬ w3.heap.size = mb; omega)) (RCells.nil _))))))))
     clear hon
     replace hC : RCells w32 [(⟨w.heap.size, 0, none⟩, .int .i64 gr), (⟨w.heap.size, 1, none⟩, .int .i64 hold), (⟨w.heap.size, 2, none⟩, .slice (some pd20) n nc), (⟨w3.heap.size, 0, none⟩, .int .i64 m0), (⟨w3.heap.size, 1, none⟩, .int .i64 m1), (⟨w3.heap.size, 2, none⟩, .int .i64 m2), (⟨w3.heap.size, 3, none⟩, .int .i64 m3), (⟨mb, 0, none⟩, .int .i64 gr), (⟨mb, 1, none⟩, .int .i64 (min (100 : Int) ((hold : Int) + (max (0 : Int) ((min (m3 : Int) (3 : Int)) : Int)) : Int))), (⟨mb, 2, none⟩, .slice (some ⟨go, 0, none⟩) n gc)] := hC.append ((RCells.cons (hM.cell (k := 0) (by decide)) (RCells.cons (hM.cell (k := 1) (by decide)) (RCells.cons (hM.cell (k := 2) (by decide)) (RCells.nil _)))))
     refine Y.nil ?_
     replace F : Fr ac 153 [(0, .agg #[.int .i64 gr, .int .i64 hold, .slice (some pd20) n nc]), (1, .int .i64 t), (2, .agg #[.int .i64 m0, .int .i64 m1, .int .i64 m2, .int .i64 m3]), (3, .pointer (some ⟨w.heap.size, 0, none⟩)), (5, .pointer (some ⟨w3.heap.size, 0, none⟩)), (6, .bool false), (7, .int .i64 i), (8, .int .i64 (worstV gr hold nd i t)), (9, .int .i64 (nodeE gr hold nd i t)), (10, .int .i64 (worstV gr hold nd i ((t : Int) + 1))), (11, .int .i64 (nodeE gr hold nd i ((t : Int) + 1))), (12, .pointer (some ⟨mb, 0, none⟩)), (13, .pointer (some ⟨go, i * 5, none⟩)), (31, .bool false), (91, .bool false)] := F.sub _
     refine X.thenN ?_
     refine Y.seq ?_
     have hS3 := hS.congr (F5_set ((min (20 : Int) ((cv nd i 3 : Int) + (max (0 : Int) ((min (m1 : Int) (3 : Int)) : Int)) : Int))) ((max (1 : Int) ((cv nd i 4 : Int) - (max (0 : Int) ((min (m2 : Int) (5 : Int)) : Int)) : Int))) hin hlen)
     have hnd2 : StAt w32 5 (some ⟨go, 0, none⟩) n (setN nd i ((min (20 : Int) ((cv nd i 3 : Int) + (max (0 : Int) ((min (m1 : Int) (3 : Int)) : Int)) : Int))) ((max (1 : Int) ((cv nd i 4 : Int) - (max (0 : Int) ((min (m2 : Int) (5 : Int)) : Int)) : Int)))) := stAt_own hS3 ((setN_len _ _ _ _).trans hlen) (setN_row _ _ hlen (fun j hj => by obtain ⟨_, _, _, h5, _⟩ := hnd.at hj; exact h5)) (by omega)
     have hgw := worst_grow (h2 := (min (100 : Int) ((hold : Int) + (max (0 : Int) ((min (m3 : Int) (3 : Int)) : Int)) : Int))) (b := (min (20 : Int) ((cv nd i 3 : Int) + (max (0 : Int) ((min (m1 : Int) (3 : Int)) : Int)) : Int))) (r := (max (1 : Int) ((cv nd i 4 : Int) - (max (0 : Int) ((min (m2 : Int) (5 : Int)) : Int)) : Int))) hE hil hT0 (by omega) (by omega) (by omega) (by omega) (by omega) (by omega) (by omega)
     clear hS hS3
     refine Y.lit (by kernel_rfl) ?_
     refine Y.pval F (X.w0 rfl) rfl (X.load rfl (F.ev 12 (.pointer (some ⟨mb, 0, none⟩))) (X.ldN (Try.agg24 _) (Try.siz24 _) (Y.atz (⟨mb, 0, none⟩) (Y.AtFrom.cons (hC.at 7 rfl) (Y.AtFrom.cons (hC.at 8 rfl) (Y.AtFrom.cons (hC.at 9 rfl) (Y.AtFrom.nil _ _ _))))))) ?_
     clear F ac
     intro ac F
     refine Y.pval F (X.w0 rfl) rfl (X.move rfl (F.ev 7 (.int .i64 i))) ?_
     clear F ac
     intro ac F
     refine Y.pval F (X.w0 rfl) rfl (X.move rfl (F.ev 1 (.int .i64 t))) ?_
     clear F ac
     intro ac F
     refine Y.pcall F (X.w0 rfl) rfl (X.enter (F := 20) rfl (X.kc (.func (.func 20) #[] #[]) rfl) (X.a3 (F.ev 137 (.agg #[.int .i64 gr, .int .i64 (min (100 : Int) ((hold : Int) + (max (0 : Int) ((min (m3 : Int) (3 : Int)) : Int)) : Int)), .slice (some ⟨go, 0, none⟩) n gc])) (F.ev 138 (.int .i64 i)) (F.ev 139 (.int .i64 t))) (enters_of Try.func20 (by kernel_rfl) rfl _)) (worst_any (some ⟨go, 0, none⟩) n gc gr (min (100 : Int) ((hold : Int) + (max (0 : Int) ((min (m3 : Int) (3 : Int)) : Int)) : Int)) i t (setN nd i ((min (20 : Int) ((cv nd i 3 : Int) + (max (0 : Int) ((min (m1 : Int) (3 : Int)) : Int)) : Int))) ((max (1 : Int) ((cv nd i 4 : Int) - (max (0 : Int) ((min (m2 : Int) (5 : Int)) : Int)) : Int)))) w32 hnd2) ?_
     clear F ac
     rintro e w34 ⟨rfl, g⟩
     refine ⟨_, rfl, ?_⟩
     intro ac F
     replace G := G.trans g
     replace hC := hC.gr g
     replace hnd := hnd.gr g
     replace hnd2 := hnd2.gr g
     clear g
     refine Y.pval F (X.w0 rfl) rfl (X.move rfl (F.ev 140 (.tuple #[.int .i64 (worstV gr (min (100 : Int) ((hold : Int) + (max (0 : Int) ((min (m3 : Int) (3 : Int)) : Int)) : Int)) (setN nd i ((min (20 : Int) ((cv nd i 3 : Int) + (max (0 : Int) ((min (m1 : Int) (3 : Int)) : Int)) : Int))) ((max (1 : Int) ((cv nd i 4 : Int) - (max (0 : Int) ((min (m2 : Int) (5 : Int)) : Int)) : Int)))) i t), .int .i64 (nodeE gr (min (100 : Int) ((hold : Int) + (max (0 : Int) ((min (m3 : Int) (3 : Int)) : Int)) : Int)) (setN nd i ((min (20 : Int) ((cv nd i 3 : Int) + (max (0 : Int) ((min (m1 : Int) (3 : Int)) : Int)) : Int))) ((max (1 : Int) ((cv nd i 4 : Int) - (max (0 : Int) ((min (m2 : Int) (5 : Int)) : Int)) : Int)))) i t)]))) ?_
     clear F ac
     intro ac F
     refine Y.pval F (X.w0 rfl) rfl (X.extract rfl (F.ev 136 (.tuple #[.int .i64 (worstV gr (min (100 : Int) ((hold : Int) + (max (0 : Int) ((min (m3 : Int) (3 : Int)) : Int)) : Int)) (setN nd i ((min (20 : Int) ((cv nd i 3 : Int) + (max (0 : Int) ((min (m1 : Int) (3 : Int)) : Int)) : Int))) ((max (1 : Int) ((cv nd i 4 : Int) - (max (0 : Int) ((min (m2 : Int) (5 : Int)) : Int)) : Int)))) i t), .int .i64 (nodeE gr (min (100 : Int) ((hold : Int) + (max (0 : Int) ((min (m3 : Int) (3 : Int)) : Int)) : Int)) (setN nd i ((min (20 : Int) ((cv nd i 3 : Int) + (max (0 : Int) ((min (m1 : Int) (3 : Int)) : Int)) : Int))) ((max (1 : Int) ((cv nd i 4 : Int) - (max (0 : Int) ((min (m2 : Int) (5 : Int)) : Int)) : Int)))) i t)])) rfl) ?_
     clear F ac
     intro ac F
     refine Y.pval F (X.w0 rfl) rfl (X.extract rfl (F.ev 136 (.tuple #[.int .i64 (worstV gr (min (100 : Int) ((hold : Int) + (max (0 : Int) ((min (m3 : Int) (3 : Int)) : Int)) : Int)) (setN nd i ((min (20 : Int) ((cv nd i 3 : Int) + (max (0 : Int) ((min (m1 : Int) (3 : Int)) : Int)) : Int))) ((max (1 : Int) ((cv nd i 4 : Int) - (max (0 : Int) ((min (m2 : Int) (5 : Int)) : Int)) : Int)))) i t), .int .i64 (nodeE gr (min (100 : Int) ((hold : Int) + (max (0 : Int) ((min (m3 : Int) (3 : Int)) : Int)) : Int)) (setN nd i ((min (20 : Int) ((cv nd i 3 : Int) + (max (0 : Int) ((min (m1 : Int) (3 : Int)) : Int)) : Int))) ((max (1 : Int) ((cv nd i 4 : Int) - (max (0 : Int) ((min (m2 : Int) (5 : Int)) : Int)) : Int)))) i t)])) rfl) ?_
     clear F ac
     intro ac F
     refine Y.pval F (X.w0 rfl) rfl (X.assign rfl (F.ev 141 (.int .i64 (worstV gr (min (100 : Int) ((hold : Int) + (max (0 : Int) ((min (m3 : Int) (3 : Int)) : Int)) : Int)) (setN nd i ((min (20 : Int) ((cv nd i 3 : Int) + (max (0 : Int) ((min (m1 : Int) (3 : Int)) : Int)) : Int))) ((max (1 : Int) ((cv nd i 4 : Int) - (max (0 : Int) ((min (m2 : Int) (5 : Int)) : Int)) : Int)))) i t)))) ?_
     clear F ac
     intro ac F
     refine Y.pval F (X.w0 rfl) rfl (X.assign rfl (F.ev 142 (.int .i64 (nodeE gr (min (100 : Int) ((hold : Int) + (max (0 : Int) ((min (m3 : Int) (3 : Int)) : Int)) : Int)) (setN nd i ((min (20 : Int) ((cv nd i 3 : Int) + (max (0 : Int) ((min (m1 : Int) (3 : Int)) : Int)) : Int))) ((max (1 : Int) ((cv nd i 4 : Int) - (max (0 : Int) ((min (m2 : Int) (5 : Int)) : Int)) : Int)))) i t)))) ?_
     clear F ac
     intro ac F
     refine Y.nil ?_
     replace F : Fr ac 153 [(0, .agg #[.int .i64 gr, .int .i64 hold, .slice (some pd20) n nc]), (1, .int .i64 t), (2, .agg #[.int .i64 m0, .int .i64 m1, .int .i64 m2, .int .i64 m3]), (3, .pointer (some ⟨w.heap.size, 0, none⟩)), (5, .pointer (some ⟨w3.heap.size, 0, none⟩)), (6, .bool false), (7, .int .i64 i), (8, .int .i64 (worstV gr hold nd i t)), (9, .int .i64 (nodeE gr (min (100 : Int) ((hold : Int) + (max (0 : Int) ((min (m3 : Int) (3 : Int)) : Int)) : Int)) (setN nd i ((min (20 : Int) ((cv nd i 3 : Int) + (max (0 : Int) ((min (m1 : Int) (3 : Int)) : Int)) : Int))) ((max (1 : Int) ((cv nd i 4 : Int) - (max (0 : Int) ((min (m2 : Int) (5 : Int)) : Int)) : Int)))) i t)), (10, .int .i64 (worstV gr hold nd i ((t : Int) + 1))), (11, .int .i64 (nodeE gr hold nd i ((t : Int) + 1))), (12, .pointer (some ⟨mb, 0, none⟩)), (13, .pointer (some ⟨go, i * 5, none⟩)), (14, .int .i64 (worstV gr (min (100 : Int) ((hold : Int) + (max (0 : Int) ((min (m3 : Int) (3 : Int)) : Int)) : Int)) (setN nd i ((min (20 : Int) ((cv nd i 3 : Int) + (max (0 : Int) ((min (m1 : Int) (3 : Int)) : Int)) : Int))) ((max (1 : Int) ((cv nd i 4 : Int) - (max (0 : Int) ((min (m2 : Int) (5 : Int)) : Int)) : Int)))) i t)), (31, .bool false), (91, .bool false)] := F.sub _
     refine X.thenN ?_
     refine Y.seq ?_
     refine Y.lit (by kernel_rfl) ?_
     refine Y.pval F (X.w0 rfl) rfl (X.move rfl (F.ev 9 (.int .i64 (nodeE gr (min (100 : Int) ((hold : Int) + (max (0 : Int) ((min (m3 : Int) (3 : Int)) : Int)) : Int)) (setN nd i ((min (20 : Int) ((cv nd i 3 : Int) + (max (0 : Int) ((min (m1 : Int) (3 : Int)) : Int)) : Int))) ((max (1 : Int) ((cv nd i 4 : Int) - (max (0 : Int) ((min (m2 : Int) (5 : Int)) : Int)) : Int)))) i t)))) ?_
     clear F ac
     intro ac F
     refine Y.pval F (X.w0 rfl) rfl (X.binop rfl (F.ev 143 (.int .i64 (nodeE gr (min (100 : Int) ((hold : Int) + (max (0 : Int) ((min (m3 : Int) (3 : Int)) : Int)) : Int)) (setN nd i ((min (20 : Int) ((cv nd i 3 : Int) + (max (0 : Int) ((min (m1 : Int) (3 : Int)) : Int)) : Int))) ((max (1 : Int) ((cv nd i 4 : Int) - (max (0 : Int) ((min (m2 : Int) (5 : Int)) : Int)) : Int)))) i t))) (X.kc (.int .i64 0) rfl) (X.eqlI Try.underlying26 rfl)) ?_
     clear F ac
     intro ac F
     refine Y.pval F (X.w0 rfl) rfl (X.move rfl (F.ev 144 (.bool ((nodeE gr (min (100 : Int) ((hold : Int) + (max (0 : Int) ((min (m3 : Int) (3 : Int)) : Int)) : Int)) (setN nd i ((min (20 : Int) ((cv nd i 3 : Int) + (max (0 : Int) ((min (m1 : Int) (3 : Int)) : Int)) : Int))) ((max (1 : Int) ((cv nd i 4 : Int) - (max (0 : Int) ((min (m2 : Int) (5 : Int)) : Int)) : Int)))) i t : Int) == 0)))) ?_
     clear F ac
     intro ac F
     have h36 : ((nodeE gr (min (100 : Int) ((hold : Int) + (max (0 : Int) ((min (m3 : Int) (3 : Int)) : Int)) : Int)) (setN nd i ((min (20 : Int) ((cv nd i 3 : Int) + (max (0 : Int) ((min (m1 : Int) (3 : Int)) : Int)) : Int))) ((max (1 : Int) ((cv nd i 4 : Int) - (max (0 : Int) ((min (m2 : Int) (5 : Int)) : Int)) : Int)))) i t : Int) == 0) = true := by rw [hgw.1]; rfl
     try rw [h36] at F
     refine Y.pval F (X.w1 rfl (F.yl (j := 2) (d := 145) (b := true) rfl (by kernel_rfl))) rfl (X.move rfl (F.ev 14 (.int .i64 (worstV gr (min (100 : Int) ((hold : Int) + (max (0 : Int) ((min (m3 : Int) (3 : Int)) : Int)) : Int)) (setN nd i ((min (20 : Int) ((cv nd i 3 : Int) + (max (0 : Int) ((min (m1 : Int) (3 : Int)) : Int)) : Int))) ((max (1 : Int) ((cv nd i 4 : Int) - (max (0 : Int) ((min (m2 : Int) (5 : Int)) : Int)) : Int)))) i t)))) ?_
     clear F ac
     intro ac F
     refine Y.pval F (X.w1 rfl (F.yl (j := 2) (d := 145) (b := true) rfl (by kernel_rfl))) rfl (X.move rfl (F.ev 8 (.int .i64 (worstV gr hold nd i t)))) ?_
     clear F ac
     intro ac F
     refine Y.pval F (X.w1 rfl (F.yl (j := 2) (d := 145) (b := true) rfl (by kernel_rfl))) rfl (X.binop rfl (F.ev 146 (.int .i64 (worstV gr (min (100 : Int) ((hold : Int) + (max (0 : Int) ((min (m3 : Int) (3 : Int)) : Int)) : Int)) (setN nd i ((min (20 : Int) ((cv nd i 3 : Int) + (max (0 : Int) ((min (m1 : Int) (3 : Int)) : Int)) : Int))) ((max (1 : Int) ((cv nd i 4 : Int) - (max (0 : Int) ((min (m2 : Int) (5 : Int)) : Int)) : Int)))) i t))) (F.ev 147 (.int .i64 (worstV gr hold nd i t))) (X.geqI Try.underlying3 rfl)) ?_
     clear F ac
     intro ac F
     refine Y.pval F (X.w0 rfl) rfl (X.pickT rfl (F.ev 145 (.bool true)) (F.ev 148 (.bool (decide ((worstV gr hold nd i t : Int) ≤ (worstV gr (min (100 : Int) ((hold : Int) + (max (0 : Int) ((min (m3 : Int) (3 : Int)) : Int)) : Int)) (setN nd i ((min (20 : Int) ((cv nd i 3 : Int) + (max (0 : Int) ((min (m1 : Int) (3 : Int)) : Int)) : Int))) ((max (1 : Int) ((cv nd i 4 : Int) - (max (0 : Int) ((min (m2 : Int) (5 : Int)) : Int)) : Int)))) i t)))))) ?_
     clear F ac
     intro ac F
     refine Y.pval F (X.w0 rfl) rfl (X.move rfl (F.ev 149 (.bool (decide ((worstV gr hold nd i t : Int) ≤ (worstV gr (min (100 : Int) ((hold : Int) + (max (0 : Int) ((min (m3 : Int) (3 : Int)) : Int)) : Int)) (setN nd i ((min (20 : Int) ((cv nd i 3 : Int) + (max (0 : Int) ((min (m1 : Int) (3 : Int)) : Int)) : Int))) ((max (1 : Int) ((cv nd i 4 : Int) - (max (0 : Int) ((min (m2 : Int) (5 : Int)) : Int)) : Int)))) i t)))))) ?_
     clear F ac
     intro ac F
     have h38 : decide ((worstV gr hold nd i t : Int) ≤ (worstV gr (min (100 : Int) ((hold : Int) + (max (0 : Int) ((min (m3 : Int) (3 : Int)) : Int)) : Int)) (setN nd i ((min (20 : Int) ((cv nd i 3 : Int) + (max (0 : Int) ((min (m1 : Int) (3 : Int)) : Int)) : Int))) ((max (1 : Int) ((cv nd i 4 : Int) - (max (0 : Int) ((min (m2 : Int) (5 : Int)) : Int)) : Int)))) i t)) = true := decide_eq_true hgw.2
     have h38p : ((worstV gr hold nd i t : Int) ≤ (worstV gr (min (100 : Int) ((hold : Int) + (max (0 : Int) ((min (m3 : Int) (3 : Int)) : Int)) : Int)) (setN nd i ((min (20 : Int) ((cv nd i 3 : Int) + (max (0 : Int) ((min (m1 : Int) (3 : Int)) : Int)) : Int))) ((max (1 : Int) ((cv nd i 4 : Int) - (max (0 : Int) ((min (m2 : Int) (5 : Int)) : Int)) : Int)))) i t)) := of_decide_eq_true h38
     try rw [h38] at F
     refine Y.pcall F (X.w1 rfl (F.yl (j := 7) (d := 150) (b := true) rfl (by kernel_rfl))) rfl (X.enter (F := 16) rfl (X.kc (.func (.func 16) #[] #[]) rfl) rfl (enters_of Try.func16 (by kernel_rfl) rfl _)) (works_any w34) ?_
     clear F ac
     rintro e w40 ⟨rfl, g⟩
     refine ⟨_, rfl, ?_⟩
     intro ac F
     replace G := G.trans g
     replace hC := hC.gr g
     replace hnd := hnd.gr g
     replace hnd2 := hnd2.gr g
     clear g
     refine Y.pval F (X.w0 rfl) rfl (X.pickT rfl (F.ev 150 (.bool true)) (F.ev 151 (.bool true))) ?_
     clear F ac
     intro ac F
     refine Y.pval F (X.w0 rfl) rfl (X.assign rfl (F.ev 152 (.bool true))) ?_
     clear F ac
     intro ac F
     refine Y.nil ?_
     replace F : Fr ac 153 [(0, .agg #[.int .i64 gr, .int .i64 hold, .slice (some pd20) n nc]), (1, .int .i64 t), (2, .agg #[.int .i64 m0, .int .i64 m1, .int .i64 m2, .int .i64 m3]), (3, .pointer (some ⟨w.heap.size, 0, none⟩)), (5, .pointer (some ⟨w3.heap.size, 0, none⟩)), (6, .bool true), (7, .int .i64 i), (8, .int .i64 (worstV gr hold nd i t)), (9, .int .i64 (nodeE gr (min (100 : Int) ((hold : Int) + (max (0 : Int) ((min (m3 : Int) (3 : Int)) : Int)) : Int)) (setN nd i ((min (20 : Int) ((cv nd i 3 : Int) + (max (0 : Int) ((min (m1 : Int) (3 : Int)) : Int)) : Int))) ((max (1 : Int) ((cv nd i 4 : Int) - (max (0 : Int) ((min (m2 : Int) (5 : Int)) : Int)) : Int)))) i t)), (10, .int .i64 (worstV gr hold nd i ((t : Int) + 1))), (11, .int .i64 (nodeE gr hold nd i ((t : Int) + 1))), (12, .pointer (some ⟨mb, 0, none⟩)), (13, .pointer (some ⟨go, i * 5, none⟩)), (14, .int .i64 (worstV gr (min (100 : Int) ((hold : Int) + (max (0 : Int) ((min (m3 : Int) (3 : Int)) : Int)) : Int)) (setN nd i ((min (20 : Int) ((cv nd i 3 : Int) + (max (0 : Int) ((min (m1 : Int) (3 : Int)) : Int)) : Int))) ((max (1 : Int) ((cv nd i 4 : Int) - (max (0 : Int) ((min (m2 : Int) (5 : Int)) : Int)) : Int)))) i t)), (31, .bool false), (91, .bool false)] := F.sub _
     refine X.thenN ?_
     refine Y.ret ?_
     exact Y.ret0 (v := .bool true) F (Y.rs1 F rfl (by kernel_rfl)) ⟨rfl, G⟩
    | true =>
     try rw [h10] at F
     have h10p : ¬ (cluE gr hold nd : Int) = 0 := by simpa using h10
     refine Y.condT (F.ev 31 (.bool true)) ?_
     refine Y.seq ?_
     refine Y.lit (by kernel_rfl) ?_
     refine Y.pcall F (X.w0 rfl) rfl (X.enter (F := 16) rfl (X.kc (.func (.func 16) #[] #[]) rfl) rfl (enters_of Try.func16 (by kernel_rfl) rfl _)) (works_any w9) ?_
     clear F ac
     rintro e w42 ⟨rfl, g⟩
     refine ⟨_, rfl, ?_⟩
     intro ac F
     replace G := G.trans g
     replace hC := hC.gr g
     replace hnd := hnd.gr g
     clear g
     refine Y.pval F (X.w0 rfl) rfl (X.assign rfl (F.ev 32 (.bool true))) ?_
     clear F ac
     intro ac F
     refine Y.nil ?_
     replace F : Fr ac 153 [(0, .agg #[.int .i64 gr, .int .i64 hold, .slice na n nc]), (1, .int .i64 t), (2, .agg #[.int .i64 m0, .int .i64 m1, .int .i64 m2, .int .i64 m3]), (3, .pointer (some ⟨w.heap.size, 0, none⟩)), (5, .pointer (some ⟨w3.heap.size, 0, none⟩)), (6, .bool true), (31, .bool true)] := F.sub _
     refine X.thenN ?_
     refine Y.ret ?_
     refine X.thenR ?_
     exact Y.ret0 (v := .bool true) F (Y.rs1 F rfl (by kernel_rfl)) ⟨rfl, G⟩
   | true =>
    try rw [h8] at F
    have h8p : (n : Int) = 0 := by simpa using h8
    refine Y.pskip F (X.w2 rfl (F.yl (j := 12) (d := 27) (b := true) rfl (by kernel_rfl)) rfl) rfl ?_
    clear F ac
    intro ac F
    refine Y.pskip F (X.w2 rfl (F.yl (j := 12) (d := 27) (b := true) rfl (by kernel_rfl)) rfl) rfl ?_
    clear F ac
    intro ac F
    refine Y.pskip F (X.w2 rfl (F.yl (j := 12) (d := 27) (b := true) rfl (by kernel_rfl)) rfl) rfl ?_
    clear F ac
    intro ac F
    refine Y.pval F (X.w0 rfl) rfl (X.pickT rfl (F.ev 27 (.bool true)) (X.kc (.bool true) rfl)) ?_
    clear F ac
    intro ac F
    refine Y.nil ?_
    replace F : Fr ac 153 [(0, .agg #[.int .i64 gr, .int .i64 hold, .slice na n nc]), (1, .int .i64 t), (2, .agg #[.int .i64 m0, .int .i64 m1, .int .i64 m2, .int .i64 m3]), (3, .pointer (some ⟨w.heap.size, 0, none⟩)), (5, .pointer (some ⟨w3.heap.size, 0, none⟩)), (6, .bool false), (31, .bool true)] := F.sub _
    refine X.thenN ?_
    refine Y.condT (F.ev 31 (.bool true)) ?_
    refine Y.seq ?_
    refine Y.lit (by kernel_rfl) ?_
    refine Y.pcall F (X.w0 rfl) rfl (X.enter (F := 16) rfl (X.kc (.func (.func 16) #[] #[]) rfl) rfl (enters_of Try.func16 (by kernel_rfl) rfl _)) (works_any w5) ?_
    clear F ac
    rintro e w44 ⟨rfl, g⟩
    refine ⟨_, rfl, ?_⟩
    intro ac F
    replace G := G.trans g
    replace hC := hC.gr g
    replace hnd := hnd.gr g
    clear g
    refine Y.pval F (X.w0 rfl) rfl (X.assign rfl (F.ev 32 (.bool true))) ?_
    clear F ac
    intro ac F
    refine Y.nil ?_
    replace F : Fr ac 153 [(0, .agg #[.int .i64 gr, .int .i64 hold, .slice na n nc]), (1, .int .i64 t), (2, .agg #[.int .i64 m0, .int .i64 m1, .int .i64 m2, .int .i64 m3]), (3, .pointer (some ⟨w.heap.size, 0, none⟩)), (5, .pointer (some ⟨w3.heap.size, 0, none⟩)), (6, .bool true), (31, .bool true)] := F.sub _
    refine X.thenN ?_
    refine Y.ret ?_
    refine X.thenR ?_
    exact Y.ret0 (v := .bool true) F (Y.rs1 F rfl (by kernel_rfl)) ⟨rfl, G⟩
  | true =>
   try rw [h7] at F
   have h7p : ((t : Int) < 0) := of_decide_eq_true h7
   refine Y.pskip F (X.w2 rfl (F.yl (j := 6) (d := 21) (b := true) rfl (by kernel_rfl)) rfl) rfl ?_
   clear F ac
   intro ac F
   refine Y.pskip F (X.w2 rfl (F.yl (j := 6) (d := 21) (b := true) rfl (by kernel_rfl)) rfl) rfl ?_
   clear F ac
   intro ac F
   refine Y.pskip F (X.w2 rfl (F.yl (j := 6) (d := 21) (b := true) rfl (by kernel_rfl)) rfl) rfl ?_
   clear F ac
   intro ac F
   refine Y.pskip F (X.w2 rfl (F.yl (j := 6) (d := 21) (b := true) rfl (by kernel_rfl)) rfl) rfl ?_
   clear F ac
   intro ac F
   refine Y.pval F (X.w0 rfl) rfl (X.pickT rfl (F.ev 21 (.bool true)) (X.kc (.bool true) rfl)) ?_
   clear F ac
   intro ac F
   refine Y.pval F (X.w0 rfl) rfl (X.move rfl (F.ev 26 (.bool true))) ?_
   clear F ac
   intro ac F
   refine Y.pskip F (X.w2 rfl (F.yl (j := 12) (d := 27) (b := true) rfl (by kernel_rfl)) rfl) rfl ?_
   clear F ac
   intro ac F
   refine Y.pskip F (X.w2 rfl (F.yl (j := 12) (d := 27) (b := true) rfl (by kernel_rfl)) rfl) rfl ?_
   clear F ac
   intro ac F
   refine Y.pskip F (X.w2 rfl (F.yl (j := 12) (d := 27) (b := true) rfl (by kernel_rfl)) rfl) rfl ?_
   clear F ac
   intro ac F
   refine Y.pval F (X.w0 rfl) rfl (X.pickT rfl (F.ev 27 (.bool true)) (X.kc (.bool true) rfl)) ?_
   clear F ac
   intro ac F
   refine Y.nil ?_
   replace F : Fr ac 153 [(0, .agg #[.int .i64 gr, .int .i64 hold, .slice na n nc]), (1, .int .i64 t), (2, .agg #[.int .i64 m0, .int .i64 m1, .int .i64 m2, .int .i64 m3]), (3, .pointer (some ⟨w.heap.size, 0, none⟩)), (5, .pointer (some ⟨w3.heap.size, 0, none⟩)), (6, .bool false), (31, .bool true)] := F.sub _
   refine X.thenN ?_
   refine Y.condT (F.ev 31 (.bool true)) ?_
   refine Y.seq ?_
   refine Y.lit (by kernel_rfl) ?_
   refine Y.pcall F (X.w0 rfl) rfl (X.enter (F := 16) rfl (X.kc (.func (.func 16) #[] #[]) rfl) rfl (enters_of Try.func16 (by kernel_rfl) rfl _)) (works_any w5) ?_
   clear F ac
   rintro e w46 ⟨rfl, g⟩
   refine ⟨_, rfl, ?_⟩
   intro ac F
   replace G := G.trans g
   replace hC := hC.gr g
   replace hnd := hnd.gr g
   clear g
   refine Y.pval F (X.w0 rfl) rfl (X.assign rfl (F.ev 32 (.bool true))) ?_
   clear F ac
   intro ac F
   refine Y.nil ?_
   replace F : Fr ac 153 [(0, .agg #[.int .i64 gr, .int .i64 hold, .slice na n nc]), (1, .int .i64 t), (2, .agg #[.int .i64 m0, .int .i64 m1, .int .i64 m2, .int .i64 m3]), (3, .pointer (some ⟨w.heap.size, 0, none⟩)), (5, .pointer (some ⟨w3.heap.size, 0, none⟩)), (6, .bool true), (31, .bool true)] := F.sub _
   refine X.thenN ?_
   refine Y.ret ?_
   refine X.thenR ?_
   exact Y.ret0 (v := .bool true) F (Y.rs1 F rfl (by kernel_rfl)) ⟨rfl, G⟩
 | true =>
  try rw [h6] at F
  have h6p : ((80 : Int) < t) := of_decide_eq_true h6
  refine Y.pskip F (X.w2 rfl (F.yl (j := 2) (d := 17) (b := true) rfl (by kernel_rfl)) rfl) rfl ?_
  clear F ac
  intro ac F
  refine Y.pskip F (X.w2 rfl (F.yl (j := 2) (d := 17) (b := true) rfl (by kernel_rfl)) rfl) rfl ?_
  clear F ac
  intro ac F
  refine Y.pval F (X.w0 rfl) rfl (X.pickT rfl (F.ev 17 (.bool true)) (X.kc (.bool true) rfl)) ?_
  clear F ac
  intro ac F
  refine Y.pval F (X.w0 rfl) rfl (X.move rfl (F.ev 20 (.bool true))) ?_
  clear F ac
  intro ac F
  refine Y.pskip F (X.w2 rfl (F.yl (j := 6) (d := 21) (b := true) rfl (by kernel_rfl)) rfl) rfl ?_
  clear F ac
  intro ac F
  refine Y.pskip F (X.w2 rfl (F.yl (j := 6) (d := 21) (b := true) rfl (by kernel_rfl)) rfl) rfl ?_
  clear F ac
  intro ac F
  refine Y.pskip F (X.w2 rfl (F.yl (j := 6) (d := 21) (b := true) rfl (by kernel_rfl)) rfl) rfl ?_
  clear F ac
  intro ac F
  refine Y.pskip F (X.w2 rfl (F.yl (j := 6) (d := 21) (b := true) rfl (by kernel_rfl)) rfl) rfl ?_
  clear F ac
  intro ac F
  refine Y.pval F (X.w0 rfl) rfl (X.pickT rfl (F.ev 21 (.bool true)) (X.kc (.bool true) rfl)) ?_
  clear F ac
  intro ac F
  refine Y.pval F (X.w0 rfl) rfl (X.move rfl (F.ev 26 (.bool true))) ?_
  clear F ac
  intro ac F
  refine Y.pskip F (X.w2 rfl (F.yl (j := 12) (d := 27) (b := true) rfl (by kernel_rfl)) rfl) rfl ?_
  clear F ac
  intro ac F
  refine Y.pskip F (X.w2 rfl (F.yl (j := 12) (d := 27) (b := true) rfl (by kernel_rfl)) rfl) rfl ?_
  clear F ac
  intro ac F
  refine Y.pskip F (X.w2 rfl (F.yl (j := 12) (d := 27) (b := true) rfl (by kernel_rfl)) rfl) rfl ?_
  clear F ac
  intro ac F
  refine Y.pval F (X.w0 rfl) rfl (X.pickT rfl (F.ev 27 (.bool true)) (X.kc (.bool true) rfl)) ?_
  clear F ac
  intro ac F
  refine Y.nil ?_
  replace F : Fr ac 153 [(0, .agg #[.int .i64 gr, .int .i64 hold, .slice na n nc]), (1, .int .i64 t), (2, .agg #[.int .i64 m0, .int .i64 m1, .int .i64 m2, .int .i64 m3]), (3, .pointer (some ⟨w.heap.size, 0, none⟩)), (5, .pointer (some ⟨w3.heap.size, 0, none⟩)), (6, .bool false), (31, .bool true)] := F.sub _
  refine X.thenN ?_
  refine Y.condT (F.ev 31 (.bool true)) ?_
  refine Y.seq ?_
  refine Y.lit (by kernel_rfl) ?_
  refine Y.pcall F (X.w0 rfl) rfl (X.enter (F := 16) rfl (X.kc (.func (.func 16) #[] #[]) rfl) rfl (enters_of Try.func16 (by kernel_rfl) rfl _)) (works_any w5) ?_
  clear F ac
  rintro e w48 ⟨rfl, g⟩
  refine ⟨_, rfl, ?_⟩
  intro ac F
  replace G := G.trans g
  replace hC := hC.gr g
  replace hnd := hnd.gr g
  clear g
  refine Y.pval F (X.w0 rfl) rfl (X.assign rfl (F.ev 32 (.bool true))) ?_
  clear F ac
  intro ac F
  refine Y.nil ?_
  replace F : Fr ac 153 [(0, .agg #[.int .i64 gr, .int .i64 hold, .slice na n nc]), (1, .int .i64 t), (2, .agg #[.int .i64 m0, .int .i64 m1, .int .i64 m2, .int .i64 m3]), (3, .pointer (some ⟨w.heap.size, 0, none⟩)), (5, .pointer (some ⟨w3.heap.size, 0, none⟩)), (6, .bool true), (31, .bool true)] := F.sub _
  refine X.thenN ?_
  refine Y.ret ?_
  refine X.thenR ?_
  exact Y.ret0 (v := .bool true) F (Y.rs1 F rfl (by kernel_rfl)) ⟨rfl, G⟩
end
section
set_option linter.unusedVariables false
open Go.ChangeShapes Go.WideShapes Go.RowKit Go.Deep Go.Joins
section
variable {H : Type} {enc : TypeId × Value → H} {w : World} {base : Nat} {spare : Nat → Bool} {held : Bool}
set_option maxRecDepth 100000 in
theorem open_more {r : Reach} {b0 : Nat} {v : Value} {d : DataW H} {p : List MemPlace} (hv : Value.okWide Try.prog w r b0 41 v) (h : DataW.Trod enc Try.prog w base spare held 41 v d p) :
    ∃ m0 m1 m2 m3 : Int, v = .agg #[.int .i64 m0, .int .i64 m1, .int .i64 m2, .int .i64 m3] := by
  obtain ⟨v0, v1, v2, v3, y0, y1, y2, y3, n, rfl, rfl, _, h0, h1, h2, h3⟩ := open_agg4 Try.underlying41 (by kernel_rfl) (by kernel_rfl) hv h
  obtain ⟨i0, e0, _⟩ := DataW.trod_int Try.underlying3 h0
  obtain ⟨i1, e1, _⟩ := DataW.trod_int Try.underlying3 h1
  obtain ⟨i2, e2, _⟩ := DataW.trod_int Try.underlying3 h2
  obtain ⟨i3, e3, _⟩ := DataW.trod_int Try.underlying3 h3
  simp at e0 e1 e2 e3
  subst e0 e1 e2 e3
  exact ⟨_, _, _, _, rfl⟩
end
end
end Go.Proofs.Ytoalamakhjbedaa
