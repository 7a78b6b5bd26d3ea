/- Contract: the reference Reach. -/
import Derived.Test.YtlilojpnhmfnaaaBd9
import Derived.Test.YtlilojpnhmfnaaaBd14
namespace Go.Proofs.Ytlilojpnhmfnaaa
open Go.RowKit

theorem addr_add1 (g j : Nat) : (⟨g, 0, none⟩ : Addr).add (j * 1) = ⟨g, j, none⟩ := by rw [Nat.mul_one]; exact addr_add0 g j
/-- what Reach returns -/
def reachE (f : Fl) (xs : List Int) (bu : Int) : Int := plannedE f xs xs bu
def reachR (f : Fl) (xs : List Int) (bu : Int) : List (List Int) := if plannedE f xs xs bu = 0 then reachV f xs bu else []
def canP (f : Fl) (xs : List Int) (bu : Int) (i m k : Nat) : Bool := if k < i + 1 + m then canV f xs bu (i + 1) k else canV f xs bu i k
theorem canP_start {f : Fl} {xs : List Int} {bu : Int} {i k N : Nat} (_hok : FlOk f) (hi : i < (allV f).length) (hN : k < N) (hNl : N = (allV f).length := by omega) : canV f xs bu i k = canP f xs bu i 0 k := by
  unfold canP
  by_cases h : k < i + 1 + 0
  · rw [if_pos h, canV_succ]
    have : (isR f bu xs ((allV f)[i]?.getD []) && stepsB f.times ((allV f)[i]?.getD []) ((allV f)[k]?.getD []) bu) = false := by
      cases h1 : stepsB f.times ((allV f)[i]?.getD []) ((allV f)[k]?.getD []) bu with
      | false => simp
      | true => have := step_later hi (by omega) h1; omega
    rw [this, Bool.or_false]
  · rw [if_neg h]
theorem canP_on {f : Fl} {xs : List Int} {bu : Int} {i m k N : Nat} (_h : i + 1 + m ≤ N) (hc : isR f bu xs ((allV f)[i]?.getD []) = true) (hs : stepsB f.times ((allV f)[i]?.getD []) ((allV f)[i + 1 + m]?.getD []) bu = true) : (if k = i + 1 + m then true else canP f xs bu i m k) = canP f xs bu i (m + 1) k := by
  unfold canP
  by_cases e : k = i + 1 + m
  · subst e; rw [if_pos rfl, if_pos (by omega), canV_succ, hc, hs]; simp
  · rw [if_neg e]
    by_cases h2 : k < i + 1 + m
    · rw [if_pos h2, if_pos (by omega)]
    · rw [if_neg h2, if_neg (by omega)]
theorem canP_off {f : Fl} {xs : List Int} {bu : Int} {i m k N : Nat} (_h : i + 1 + m ≤ N) (hc : isR f bu xs ((allV f)[i]?.getD []) = true) (hs : stepsB f.times ((allV f)[i]?.getD []) ((allV f)[i + 1 + m]?.getD []) bu = false) : canP f xs bu i m k = canP f xs bu i (m + 1) k := by
  unfold canP
  by_cases e : k = i + 1 + m
  · subst e; rw [if_neg (by omega), if_pos (by omega), canV_succ, hc, hs]; simp
  · by_cases h2 : k < i + 1 + m
    · rw [if_pos h2, if_pos (by omega)]
    · rw [if_neg h2, if_neg (by omega)]
theorem take_filter1 {f : Fl} {xs : List Int} {bu : Int} {i : Nat} (hi : i < (allV f).length) (h : isR f bu xs ((allV f)[i]?.getD []) = true) : ((allV f).take (i + 1)).filter (isR f bu xs) = ((allV f).take i).filter (isR f bu xs) ++ [(allV f)[i]?.getD []] := by
  rw [List.take_succ_eq_append_getElem hi, List.filter_append]
  rw [List.getElem?_eq_getElem hi] at h ⊢
  simp only [Option.getD_some] at h ⊢
  simp [h]
theorem take_filter0 {f : Fl} {xs : List Int} {bu : Int} {i : Nat} (hi : i < (allV f).length) (h : isR f bu xs ((allV f)[i]?.getD []) = false) : ((allV f).take (i + 1)).filter (isR f bu xs) = ((allV f).take i).filter (isR f bu xs) := by
  rw [List.take_succ_eq_append_getElem hi, List.filter_append]
  rw [List.getElem?_eq_getElem hi] at h
  simp only [Option.getD_some] at h
  simp [h]

set_option maxRecDepth 100000 in
set_option maxHeartbeats 4000000 in
theorem reach2_any (ta ca a : Option Addr) (tn tc cn cc sn c : Nat) (f : Fl) (xs : List Int) (bu : Int) (w : World) (hf : FlAt w ta tn ca cn f) (hx : Ints w a sn xs) :
    Calls Try.prog 45 #[.agg #[.slice ta tn tc, .slice ca cn cc], .slice a sn c, .int .i64 bu] w fun e w' => ∃ ra rn rc, e = .returned (.tuple #[.slice ra rn rc, .int .i64 (reachE f xs bu)]) ∧ RowsAt w' ra rn (reachR f xs bu) ∧ Gr w w' := by
  have G := Gr.refl w
  refine Y.calls 80 Try.func45 rfl rfl ?_
  intro ac F0
  have F : Fr ac 80 [(0, .agg #[.slice ta tn tc, .slice ca cn cc]), (1, .slice a sn c), (2, .int .i64 bu)] := F0.sub _ (by kernel_rfl)
  clear F0
  refine Y.seq ?_
  refine Y.lit (by kernel_rfl) ?_
  refine Y.pval F (X.w0 rfl) rfl (X.box rfl (F.ev 0 (.agg #[.slice ta tn tc, .slice ca cn cc]) (by kernel_rfl)) X.bx) ?_
  clear F ac
  intro ac F
  have g := Gr.alloc w (.cells #[.slice ta tn tc, .slice ca cn cc] 25)
  have hb := heap_alloc_new w (.cells #[.slice ta tn tc, .slice ca cn cc] 25)
  have hbl : w.heap.size < (w.alloc (.cells #[.slice ta tn tc, .slice ca cn cc] 25)).heap.size := by simp
  have hC2 : RCells (w.alloc (.cells #[.slice ta tn tc, .slice ca cn cc] 25)) [(⟨w.heap.size, 0, none⟩, .slice ta tn tc), (⟨w.heap.size, 1, none⟩, .slice ca cn cc)] := (RCells.nil w).box (b := w.heap.size) #[.slice ta tn tc, .slice ca cn cc] 25 rfl
  generalize w.alloc (.cells #[.slice ta tn tc, .slice ca cn cc] 25) = w3 at *
  replace G := G.trans g
  have hC := hC2
  clear hC2
  replace hf := hf.gr g
  replace hx := hx.gr g
  clear g hb hbl
  refine Y.pval F (X.w0 rfl) rfl (X.assign rfl (X.kc (.slice none 0 0) rfl)) ?_
  clear F ac
  intro ac F
  refine Y.pval F (X.w0 rfl) rfl (X.assign rfl (X.kc (.int .i64 0) rfl)) ?_
  clear F ac
  intro ac F
  refine Y.nil ?_
  replace F : Fr ac 80 [(0, .agg #[.slice ta tn tc, .slice ca cn cc]), (1, .slice a sn c), (2, .int .i64 bu), (3, .pointer (some ⟨w.heap.size, 0, none⟩)), (6, .slice none 0 0), (7, .int .i64 0)] := F.sub _ (by kernel_rfl)
  refine X.thenN ?_
  refine Y.seq ?_
  refine Y.seq ?_
  refine Y.lit (by kernel_rfl) ?_
  refine Y.pval F (X.w0 rfl) rfl (X.load rfl (F.ev 3 (.pointer (some ⟨w.heap.size, 0, none⟩)) (by kernel_rfl)) (X.ldN (Try.agg25 _) (Try.siz25 _) (X.c2 (hC.at 0 rfl) (hC.at 1 rfl)))) ?_
  clear F ac
  intro ac F
  refine Y.pval F (X.w0 rfl) rfl (X.move rfl (F.ev 1 (.slice a sn c) (by kernel_rfl))) ?_
  clear F ac
  intro ac F
  refine Y.pval F (X.w0 rfl) rfl (X.move rfl (F.ev 1 (.slice a sn c) (by kernel_rfl))) ?_
  clear F ac
  intro ac F
  refine Y.pval F (X.w0 rfl) rfl (X.move rfl (F.ev 2 (.int .i64 bu) (by kernel_rfl))) ?_
  clear F ac
  intro ac F
  refine Y.pcall F (X.w0 rfl) rfl (X.enter (F := 52) rfl (X.kc (.func (.func 52) #[] #[]) rfl) (X.a4 (F.ev 15 (.agg #[.slice ta tn tc, .slice ca cn cc]) (by kernel_rfl)) (F.ev 16 (.slice a sn c) (by kernel_rfl)) (F.ev 17 (.slice a sn c) (by kernel_rfl)) (F.ev 18 (.int .i64 bu) (by kernel_rfl))) (enters_of Try.func52 (by kernel_rfl) rfl _)) (planned_any ta ca a a tn tc cn cc sn c sn c f xs xs bu w3 hf hx hx) ?_
  clear F ac
  rintro e w4 ⟨rfl, g⟩
  refine ⟨_, rfl, ?_⟩
  intro ac F
  replace G := G.trans g
  replace hC := hC.gr g
  replace hf := hf.gr g
  replace hx := hx.gr g
  clear g
  refine Y.pval F (X.w0 rfl) rfl (X.assign rfl (F.ev 19 (.int .i64 (plannedE f xs xs bu)) (by kernel_rfl))) ?_
  clear F ac
  intro ac F
  refine Y.nil ?_
  replace F : Fr ac 80 [(0, .agg #[.slice ta tn tc, .slice ca cn cc]), (1, .slice a sn c), (2, .int .i64 bu), (3, .pointer (some ⟨w.heap.size, 0, none⟩)), (6, .slice none 0 0), (7, .int .i64 0), (8, .int .i64 (plannedE f xs xs bu))] := F.sub _ (by kernel_rfl)
  refine X.thenN ?_
  refine Y.seq ?_
  refine Y.lit (by kernel_rfl) ?_
  refine Y.pval F (X.w0 rfl) rfl (X.move rfl (F.ev 8 (.int .i64 (plannedE f xs xs bu)) (by kernel_rfl))) ?_
  clear F ac
  intro ac F
  refine Y.pval F (X.w0 rfl) rfl (X.binop rfl (F.ev 20 (.int .i64 (plannedE f xs xs bu)) (by kernel_rfl)) (X.kc (.int .i64 0) rfl) (X.neqI Try.underlying31 rfl)) ?_
  clear F ac
  intro ac F
  refine Y.nil ?_
  replace F : Fr ac 80 [(0, .agg #[.slice ta tn tc, .slice ca cn cc]), (1, .slice a sn c), (2, .int .i64 bu), (3, .pointer (some ⟨w.heap.size, 0, none⟩)), (6, .slice none 0 0), (7, .int .i64 0), (8, .int .i64 (plannedE f xs xs bu)), (21, .bool ((plannedE f xs xs bu : Int) != 0))] := F.sub _ (by kernel_rfl)
  refine X.thenN ?_
  cases h5 : ((plannedE f xs xs bu : Int) != 0) with
  | false =>
    try rw [h5] at F
    have h5p : (plannedE f xs xs bu : Int) = 0 := by simpa using h5
    obtain ⟨hbe, hwx, _⟩ := plannedE_ok h5p
    obtain ⟨hok, hsx, _⟩ := beginE_ok hbe
    have hbu := (beginE_bu hbe).2
    have hm := allV_has hsx hwx
    have HE : reachE f xs bu = 0 := h5p
    have HV : reachR f xs bu = reachV f xs bu := if_pos h5p
    have hsn : sn = f.times.length := by rw [← hsx.len, hx.len]
    refine Y.condF (F.ev 21 (.bool false) (by kernel_rfl)) ?_
    refine Y.skip ?_
    refine X.thenN ?_
    refine Y.seq ?_
    refine Y.lit (by kernel_rfl) ?_
    refine Y.pval F (X.w0 rfl) rfl (X.load rfl (F.ev 3 (.pointer (some ⟨w.heap.size, 0, none⟩)) (by kernel_rfl)) (X.ldN (Try.agg25 _) (Try.siz25 _) (X.c2 (hC.at 0 rfl) (hC.at 1 rfl)))) ?_
    clear F ac
    intro ac F
    refine Y.pcall F (X.w0 rfl) rfl (X.enter (F := 81) rfl (X.kc (.func (.func 81) #[] #[]) rfl) (X.a2 (F.ev 23 (.agg #[.slice ta tn tc, .slice ca cn cc]) (by kernel_rfl)) (X.kc (.slice none 0 0) rfl)) (enters_of Try.func81 (by kernel_rfl) rfl _)) (states2_nil ta ca tn tc cn cc f w4 hok hf) ?_
    clear F ac
    rintro e w6 ⟨la, N, lc, rfl, hR, g⟩
    have hRl := hR.len
    have hRt := hR.lt
    have hal := allV_len hok
    obtain ⟨ix, hix⟩ : ∃ ix, idxV (allV f) xs = ix := ⟨_, rfl⟩
    have hxa := idxV_at hm
    rw [hix] at hxa
    have hx1 := hxa.1
    refine ⟨_, rfl, ?_⟩
    intro ac F
    replace G := G.trans g
    replace hC := hC.gr g
    replace hf := hf.gr g
    replace hx := hx.gr g
    clear g
    refine Y.pval F (X.w0 rfl) rfl (X.assign rfl (F.ev 24 (.slice la N lc) (by kernel_rfl))) ?_
    clear F ac
    intro ac F
    refine Y.nil ?_
    replace F : Fr ac 80 [(0, .agg #[.slice ta tn tc, .slice ca cn cc]), (1, .slice a sn c), (2, .int .i64 bu), (3, .pointer (some ⟨w.heap.size, 0, none⟩)), (6, .slice none 0 0), (7, .int .i64 0), (8, .int .i64 (plannedE f xs xs bu)), (9, .slice la N lc), (21, .bool false)] := F.sub _ (by kernel_rfl)
    refine X.thenN ?_
    refine Y.seq ?_
    refine Y.lit (by kernel_rfl) ?_
    refine Y.pval F (X.w0 rfl) rfl (X.move rfl (F.ev 9 (.slice la N lc) (by kernel_rfl))) ?_
    clear F ac
    intro ac F
    refine Y.pval F (X.w0 rfl) rfl (X.len1 Try.underlying22 rfl (F.ev 25 (.slice la N lc) (by kernel_rfl))) ?_
    clear F ac
    intro ac F
    have hfA := hf
    have hxA := hx
    have hRA := hR
    have hCA := hC
    have G0A := G
    have GA := Gr.refl w6
    obtain ⟨w7, hmk, hO, g⟩ := make111 w6 N (by omega)
    refine Y.pval F (X.w0 rfl) rfl (Y.mk rfl (F.ev 26 (.int .i64 N) (by kernel_rfl)) (F.ev 26 (.int .i64 N) (by kernel_rfl)) hmk) ?_
    clear F ac hmk
    intro ac F
    replace G := G.trans g
    replace hC := hC.gr g
    replace GA := GA.trans g
    replace hf := hf.gr g
    replace hx := hx.gr g
    replace hR := hR.gr g
    clear g
    have hb0 : w6.heap.size ≤ w6.heap.size := Nat.le_refl _
    refine Y.pval F (X.w0 rfl) rfl (X.assign rfl (F.ev 27 (.slice (some ⟨w6.heap.size, 0, none⟩) N N) (by kernel_rfl))) ?_
    clear F ac
    intro ac F
    refine Y.nil ?_
    replace F : Fr ac 80 [(0, .agg #[.slice ta tn tc, .slice ca cn cc]), (1, .slice a sn c), (2, .int .i64 bu), (3, .pointer (some ⟨w.heap.size, 0, none⟩)), (6, .slice none 0 0), (7, .int .i64 0), (8, .int .i64 (plannedE f xs xs bu)), (9, .slice la N lc), (10, .slice (some ⟨w6.heap.size, 0, none⟩) N N), (21, .bool false)] := F.sub _ (by kernel_rfl)
    refine X.thenN ?_
    refine Y.seq ?_
    refine Y.lit (by kernel_rfl) ?_
    refine Y.pval F (X.w0 rfl) rfl (X.move rfl (F.ev 10 (.slice (some ⟨w6.heap.size, 0, none⟩) N N) (by kernel_rfl))) ?_
    clear F ac
    intro ac F
    refine Y.pval F (X.w0 rfl) rfl (X.move rfl (F.ev 9 (.slice la N lc) (by kernel_rfl))) ?_
    clear F ac
    intro ac F
    refine Y.pval F (X.w0 rfl) rfl (X.move rfl (F.ev 1 (.slice a sn c) (by kernel_rfl))) ?_
    clear F ac
    intro ac F
    refine Y.pcall F (X.w0 rfl) rfl (X.enter (F := 88) rfl (X.kc (.func (.func 88) #[] #[]) rfl) (X.a2 (F.ev 29 (.slice la N lc) (by kernel_rfl)) (F.ev 30 (.slice a sn c) (by kernel_rfl))) (enters_of Try.func88 (by kernel_rfl) rfl _)) (index_any la a N lc sn c f xs w7 hR hx hm hsn hok) ?_
    clear F ac
    rintro e w8 ⟨rfl, g⟩
    refine ⟨_, rfl, ?_⟩
    intro ac F
    replace G := G.trans g
    replace hC := hC.gr g
    replace GA := GA.trans g
    replace hf := hf.gr g
    replace hx := hx.gr g
    replace hR := hR.gr g
    replace hO := hO.gr g
    clear g
    refine Y.pval F (X.w0 rfl) rfl (X.index rfl (F.ev 28 (.slice (some ⟨w6.heap.size, 0, none⟩) N N) (by kernel_rfl)) (F.ev 31 (.int .i64 (idxV (allV f) xs : Nat)) (by kernel_rfl)) (X.idx (k := ix) Try.underlying111 (Try.siz4 _) (by omega) (by rw [← hix]) (addr_add1 _ _))) ?_
    clear F ac
    intro ac F
    obtain ⟨w9, hrun, hO2, hon⟩ := hO.st (k := ix) true (by omega)
    refine Y.punit F (X.w0 rfl) rfl (X.store rfl (F.ev 32 (.pointer (some ⟨w6.heap.size, ix, none⟩)) (by kernel_rfl)) (X.kc (.bool true) rfl) hrun) ?_
    clear F ac hrun
    intro ac F
    replace GA := Y.Only.up GA hon hb0
    replace G := G0A.trans GA
    replace hf := hfA.gr GA
    replace hx := hxA.gr GA
    replace hR := hRA.gr GA
    replace hC := hCA.gr GA
    have hO := hO2
    clear hO2 hon
    refine Y.nil ?_
    replace F : Fr ac 80 [(0, .agg #[.slice ta tn tc, .slice ca cn cc]), (1, .slice a sn c), (2, .int .i64 bu), (3, .pointer (some ⟨w.heap.size, 0, none⟩)), (6, .slice none 0 0), (7, .int .i64 0), (8, .int .i64 (plannedE f xs xs bu)), (9, .slice la N lc), (10, .slice (some ⟨w6.heap.size, 0, none⟩) N N), (21, .bool false)] := F.sub _ (by kernel_rfl)
    refine X.thenN ?_
    refine Y.seq ?_
    refine Y.lit (by kernel_rfl) ?_
    refine Y.pval F (X.w0 rfl) rfl (X.assign rfl (X.kc (.slice none 0 0) rfl)) ?_
    clear F ac
    intro ac F
    refine Y.nil ?_
    replace F : Fr ac 80 [(0, .agg #[.slice ta tn tc, .slice ca cn cc]), (1, .slice a sn c), (2, .int .i64 bu), (3, .pointer (some ⟨w.heap.size, 0, none⟩)), (6, .slice none 0 0), (7, .int .i64 0), (8, .int .i64 (plannedE f xs xs bu)), (9, .slice la N lc), (10, .slice (some ⟨w6.heap.size, 0, none⟩) N N), (11, .slice none 0 0), (21, .bool false)] := F.sub _ (by kernel_rfl)
    refine X.thenN ?_
    refine Y.seq ?_
    refine Y.seq ?_
    refine Y.lit (by kernel_rfl) ?_
    refine Y.pval F (X.w0 rfl) rfl (X.assign rfl (X.kc (.int .i64 0) rfl)) ?_
    clear F ac
    intro ac F
    refine Y.nil ?_
    replace F : Fr ac 80 [(0, .agg #[.slice ta tn tc, .slice ca cn cc]), (1, .slice a sn c), (2, .int .i64 bu), (3, .pointer (some ⟨w.heap.size, 0, none⟩)), (6, .slice none 0 0), (7, .int .i64 0), (8, .int .i64 (plannedE f xs xs bu)), (9, .slice la N lc), (10, .slice (some ⟨w6.heap.size, 0, none⟩) N N), (11, .slice none 0 0), (12, .int .i64 0), (21, .bool false)] := F.sub _ (by kernel_rfl)
    refine X.thenN ?_
    refine Y.block ?_
    replace hO := hO.congr (C' := canV f xs bu 0) (fun k hk => by unfold canV; rw [hix]; by_cases h : k = ix <;> simp [h])
    refine Y.loop (fun me_ ac wr => ∃ (i : Nat) (vv : Value), me_ = N - i ∧ Gr w6 wr ∧ i ≤ N ∧ OwnBo wr (w6.heap.size) N (canV f xs bu i) ∧ OutB w6 wr vv (((allV f).take i).filter (isR f bu xs)) ∧ Fr ac 80 [(0, .agg #[.slice ta tn tc, .slice ca cn cc]), (1, .slice a sn c), (2, .int .i64 bu), (3, .pointer (some ⟨w.heap.size, 0, none⟩)), (6, .slice none 0 0), (7, .int .i64 0), (8, .int .i64 (plannedE f xs xs bu)), (9, .slice la N lc), (10, .slice (some ⟨w6.heap.size, 0, none⟩) N N), (11, vv), (12, .int .i64 i), (21, .bool false)]) _ ⟨0, _, rfl, GA, Nat.zero_le _, hO, OutB.nil _ |>.gr GA, F.sub _ (by kernel_rfl)⟩ ?_
    clear F
    intro me_ ac w10 hI
    clear hO
    obtain ⟨i, vv, rfl, gr, hi, hO, hV, F⟩ := hI
    replace GA := gr
    clear gr
    replace G := G0A.trans GA
    replace hC := hCA.gr GA
    replace hf := hfA.gr GA
    replace hx := hxA.gr GA
    replace hR := hRA.gr GA
    refine Y.seq ?_
    refine Y.seq ?_
    refine Y.lit (by kernel_rfl) ?_
    refine Y.pval F (X.w0 rfl) rfl (X.move rfl (F.ev 12 (.int .i64 i) (by kernel_rfl))) ?_
    clear F ac
    intro ac F
    refine Y.pval F (X.w0 rfl) rfl (X.move rfl (F.ev 9 (.slice la N lc) (by kernel_rfl))) ?_
    clear F ac
    intro ac F
    refine Y.pval F (X.w0 rfl) rfl (X.len1 Try.underlying22 rfl (F.ev 34 (.slice la N lc) (by kernel_rfl))) ?_
    clear F ac
    intro ac F
    refine Y.pval F (X.w0 rfl) rfl (X.binop rfl (F.ev 33 (.int .i64 i) (by kernel_rfl)) (F.ev 35 (.int .i64 N) (by kernel_rfl)) (X.lssI Try.underlying3 rfl)) ?_
    clear F ac
    intro ac F
    refine Y.nil ?_
    replace F : Fr ac 80 [(0, .agg #[.slice ta tn tc, .slice ca cn cc]), (1, .slice a sn c), (2, .int .i64 bu), (3, .pointer (some ⟨w.heap.size, 0, none⟩)), (6, .slice none 0 0), (7, .int .i64 0), (8, .int .i64 (plannedE f xs xs bu)), (9, .slice la N lc), (10, .slice (some ⟨w6.heap.size, 0, none⟩) N N), (11, vv), (12, .int .i64 i), (21, .bool false), (36, .bool (decide ((i : Int) < N)))] := F.sub _ (by kernel_rfl)
    refine X.thenN ?_
    cases h11 : decide ((i : Int) < N) with
    | false =>
      try rw [h11] at F
      have h11p : ¬ ((i : Int) < N) := of_decide_eq_false h11
      obtain rfl : N = i := by omega
      refine Y.condF (F.ev 36 (.bool false) (by kernel_rfl)) ?_
      refine Y.exit ?_
      refine X.thenX ?_
      refine X.thenX ?_
      refine X.blockX ?_
      refine X.thenN ?_
      refine Y.seq ?_
      refine Y.lit (by kernel_rfl) ?_
      refine Y.pval F (X.w0 rfl) rfl (X.move rfl (F.ev 11 (vv) (by kernel_rfl))) ?_
      clear F ac
      intro ac F
      refine Y.pval F (X.w0 rfl) rfl (X.assign rfl (F.ev 79 (vv) (by kernel_rfl))) ?_
      clear F ac
      intro ac F
      refine Y.pval F (X.w0 rfl) rfl (X.assign rfl (X.kc (.int .i64 0) rfl)) ?_
      clear F ac
      intro ac F
      refine Y.nil ?_
      replace F : Fr ac 80 [(0, .agg #[.slice ta tn tc, .slice ca cn cc]), (1, .slice a sn c), (2, .int .i64 bu), (3, .pointer (some ⟨w.heap.size, 0, none⟩)), (6, vv), (7, .int .i64 0), (8, .int .i64 (plannedE f xs xs bu)), (9, .slice la N lc), (10, .slice (some ⟨w6.heap.size, 0, none⟩) N N), (11, vv), (12, .int .i64 N), (21, .bool false), (36, .bool false)] := F.sub _ (by kernel_rfl)
      refine X.thenN ?_
      refine Y.ret ?_
      rw [List.take_of_length_le (by omega)] at hV
      have hle := List.length_filter_le (isR f bu xs) (allV f)
      obtain ⟨oa, oc, rfl, hOr⟩ := hV.rows (by omega)
      exact Y.ret0 (v := .tuple #[.slice oa _ oc, .int .i64 0]) F (Y.rs2 F rfl (by kernel_rfl) (by kernel_rfl)) ⟨oa, _, oc, by rw [HE], by rw [HV]; exact hOr, G⟩
    | true =>
      try rw [h11] at F
      have h11p : ((i : Int) < N) := of_decide_eq_true h11
      have hil : i < (allV f).length := by omega
      have HS : StOk f ((allV f)[i]?.getD []) := (allV_ok (all_mem hil)).1
      have hcs := canV_self (bu := bu) hok hsx hm hil
      refine Y.condT (F.ev 36 (.bool true) (by kernel_rfl)) ?_
      refine Y.skip ?_
      refine X.thenN ?_
      refine Y.seq ?_
      refine Y.block ?_
      refine Y.seq ?_
      refine Y.seq ?_
      refine Y.lit (by kernel_rfl) ?_
      refine Y.pval F (X.w0 rfl) rfl (X.move rfl (F.ev 10 (.slice (some ⟨w6.heap.size, 0, none⟩) N N) (by kernel_rfl))) ?_
      clear F ac
      intro ac F
      refine Y.pval F (X.w0 rfl) rfl (X.move rfl (F.ev 12 (.int .i64 i) (by kernel_rfl))) ?_
      clear F ac
      intro ac F
      refine Y.pval F (X.w0 rfl) rfl (X.index rfl (F.ev 39 (.slice (some ⟨w6.heap.size, 0, none⟩) N N) (by kernel_rfl)) (F.ev 40 (.int .i64 i) (by kernel_rfl)) (X.idx (k := i) Try.underlying111 (Try.siz4 _) (by omega) (by omega) (addr_add1 _ _))) ?_
      clear F ac
      intro ac F
      replace hC : RCells w10 [(⟨w.heap.size, 0, none⟩, .slice ta tn tc), (⟨w.heap.size, 1, none⟩, .slice ca cn cc), (⟨w6.heap.size, i, none⟩, .bool (canV f xs bu i i))] := hC.append ((RCells.cons (hO.cell (k := i) (by omega)) (RCells.nil _)))
      refine Y.pval F (X.w0 rfl) rfl (X.load rfl (F.ev 41 (.pointer (some ⟨w6.heap.size, i, none⟩)) (by kernel_rfl)) (X.ld1 (Try.agg4 _) (hC.at 2 rfl))) ?_
      clear F ac
      intro ac F
      refine Y.pval F (X.w0 rfl) rfl (X.notB rfl (F.ev 42 (.bool (canV f xs bu i i)) (by kernel_rfl)) rfl) ?_
      clear F ac
      intro ac F
      refine Y.nil ?_
      replace F : Fr ac 80 [(0, .agg #[.slice ta tn tc, .slice ca cn cc]), (1, .slice a sn c), (2, .int .i64 bu), (3, .pointer (some ⟨w.heap.size, 0, none⟩)), (6, .slice none 0 0), (7, .int .i64 0), (8, .int .i64 (plannedE f xs xs bu)), (9, .slice la N lc), (10, .slice (some ⟨w6.heap.size, 0, none⟩) N N), (11, vv), (12, .int .i64 i), (21, .bool false), (36, .bool true), (43, .bool (!(canV f xs bu i i)))] := F.sub _ (by kernel_rfl)
      refine X.thenN ?_
      cases h12 : canV f xs bu i i with
      | false =>
        try rw [h12] at F
        have hcan := hcs.symm.trans h12
        refine Y.condT (F.ev 43 (.bool true) (by kernel_rfl)) ?_
        refine Y.exit ?_
        refine X.thenX ?_
        refine X.blockX ?_
        refine X.thenN ?_
        refine Y.lit (by kernel_rfl) ?_
        refine Y.pval F (X.w0 rfl) rfl (X.move rfl (F.ev 12 (.int .i64 i) (by kernel_rfl))) ?_
        clear F ac
        intro ac F
        refine Y.pval F (X.w0 rfl) rfl (X.binop rfl (F.ev 37 (.int .i64 i) (by kernel_rfl)) (X.kc (.int .i64 1) rfl) (X.addI Try.underlying3 rfl (by omega) (by omega))) ?_
        clear F ac
        intro ac F
        refine Y.pval F (X.w0 rfl) rfl (X.assign rfl (F.ev 38 (.int .i64 ((i : Int) + 1)) (by kernel_rfl))) ?_
        clear F ac
        intro ac F
        refine Y.nil ?_
        replace F : Fr ac 80 [(0, .agg #[.slice ta tn tc, .slice ca cn cc]), (1, .slice a sn c), (2, .int .i64 bu), (3, .pointer (some ⟨w.heap.size, 0, none⟩)), (6, .slice none 0 0), (7, .int .i64 0), (8, .int .i64 (plannedE f xs xs bu)), (9, .slice la N lc), (10, .slice (some ⟨w6.heap.size, 0, none⟩) N N), (11, vv), (12, .int .i64 ((i : Int) + 1)), (21, .bool false), (36, .bool true), (43, .bool true)] := F.sub _ (by kernel_rfl)
        refine X.thenN ?_
        refine ⟨_, ?_, i + 1, _, rfl, GA, by omega, hO.congr (fun k hk => by rw [canV_succ, hcan]; simp), by rw [take_filter0 hil hcan]; exact hV, F.sub _ (by kernel_rfl)⟩
        omega
      | true =>
        try rw [h12] at F
        have hcan := hcs.symm.trans h12
        refine Y.condF (F.ev 43 (.bool false) (by kernel_rfl)) ?_
        refine Y.skip ?_
        refine X.thenN ?_
        refine Y.seq ?_
        refine Y.lit (by kernel_rfl) ?_
        refine Y.pval F (X.w0 rfl) rfl (X.move rfl (F.ev 11 (vv) (by kernel_rfl))) ?_
        clear F ac
        intro ac F
        refine Y.pval F (X.w0 rfl) rfl (X.move rfl (F.ev 9 (.slice la N lc) (by kernel_rfl))) ?_
        clear F ac
        intro ac F
        refine Y.pval F (X.w0 rfl) rfl (X.move rfl (F.ev 12 (.int .i64 i) (by kernel_rfl))) ?_
        clear F ac
        intro ac F
        obtain ⟨pd13, pa13, rn13, pq13, pe13, -, pc13, pi13⟩ := hRA.at (j := i) (by omega)
        subst pe13
        replace hCA : RCells w6 [(⟨w.heap.size, 0, none⟩, .slice ta tn tc), (⟨w.heap.size, 1, none⟩, .slice ca cn cc), (pd13.add i, .slice pa13 rn13 pq13)] := hCA.append ((RCells.cons pc13 (RCells.nil _)))
        replace hC : RCells w10 [(⟨w.heap.size, 0, none⟩, .slice ta tn tc), (⟨w.heap.size, 1, none⟩, .slice ca cn cc), (⟨w6.heap.size, i, none⟩, .bool (canV f xs bu i i)), (pd13.add i, .slice pa13 rn13 pq13)] := hC.append ((RCells.cons ((GA.cell (lt_cell pc13)).trans pc13) (RCells.nil _)))
        clear pc13
        have pi13A := pi13
        replace pi13 := pi13.gr GA
        obtain rfl : sn = rn13 := by rw [← pi13.len, hsn]; exact (HS.len).symm
        refine Y.pval F (X.w0 rfl) rfl (X.index rfl (F.ev 45 (.slice (some pd13) N lc) (by kernel_rfl)) (F.ev 46 (.int .i64 i) (by kernel_rfl)) (X.idx (k := i) Try.underlying22 (Try.siz26 _) (by omega) (by omega) (by rw [Nat.mul_one]))) ?_
        clear F ac
        intro ac F
        refine Y.pval F (X.w0 rfl) rfl (X.load rfl (F.ev 47 (.pointer (some (pd13.add i))) (by kernel_rfl)) (X.ld1 (Try.agg26 _) (hC.at 3 rfl))) ?_
        clear F ac
        intro ac F
        refine Y.pval F (X.w0 rfl) rfl (X.bs rfl (X.b1 (F.ev 48 (.slice pa13 sn pq13) (by kernel_rfl))) (Try.bs22a _ _ _ _)) ?_
        clear F ac
        intro ac F
        have g := Gr.alloc w10 (.cells #[.slice pa13 sn pq13] 26)
        have hb := heap_alloc_new w10 (.cells #[.slice pa13 sn pq13] 26)
        have hbl : w10.heap.size < (w10.alloc (.cells #[.slice pa13 sn pq13] 26)).heap.size := by simp
        generalize w10.alloc (.cells #[.slice pa13 sn pq13] 26) = w14 at *
        replace G := G.trans g
        replace hC := hC.gr g
        replace GA := GA.trans g
        replace hf := hf.gr g
        replace hx := hx.gr g
        replace hR := hR.gr g
        replace hO := hO.gr g
        replace hV := hV.gr g
        replace pi13 := pi13.gr g
        have hbk := hb
        clear g hb hbl
        refine Y.ppushC rfl rfl (F.ev 44 (vv) (by kernel_rfl)) (F.ev 49 (.slice (some ⟨w10.heap.size, 0, none⟩) 1 1) (by kernel_rfl)) hbk hV pi13A (by have := List.length_filter_le (isR f bu xs) ((allV f).take i); rw [List.length_take] at this; omega) ?_
        intro v' w15 hV' hoG GA'
        refine Y.pput F rfl ?_
        clear F ac
        intro ac F
        replace hO := hO.only hoG (hO.ne26 hV)
        replace GA := GA'
        replace G := G0A.trans GA
        replace hf := hfA.gr GA
        replace hx := hxA.gr GA
        replace hR := hRA.gr GA
        replace pi13 := pi13A.gr GA
        replace hC := hCA.gr GA
        refine Y.pval F (X.w0 rfl) rfl (X.assign rfl (F.ev 50 (v') (by kernel_rfl))) ?_
        clear F ac
        intro ac F
        refine Y.nil ?_
        replace F : Fr ac 80 [(0, .agg #[.slice ta tn tc, .slice ca cn cc]), (1, .slice a sn c), (2, .int .i64 bu), (3, .pointer (some ⟨w.heap.size, 0, none⟩)), (6, .slice none 0 0), (7, .int .i64 0), (8, .int .i64 (plannedE f xs xs bu)), (9, .slice (some pd13) N lc), (10, .slice (some ⟨w6.heap.size, 0, none⟩) N N), (11, v'), (12, .int .i64 i), (21, .bool false), (36, .bool true), (43, .bool false)] := F.sub _ (by kernel_rfl)
        refine X.thenN ?_
        refine Y.seq ?_
        refine Y.lit (by kernel_rfl) ?_
        refine Y.pval F (X.w0 rfl) rfl (X.move rfl (F.ev 12 (.int .i64 i) (by kernel_rfl))) ?_
        clear F ac
        intro ac F
        refine Y.pval F (X.w0 rfl) rfl (X.binop rfl (F.ev 51 (.int .i64 i) (by kernel_rfl)) (X.kc (.int .i64 1) rfl) (X.addI Try.underlying3 rfl (by omega) (by omega))) ?_
        clear F ac
        intro ac F
        refine Y.pval F (X.w0 rfl) rfl (X.assign rfl (F.ev 52 (.int .i64 ((i : Int) + 1)) (by kernel_rfl))) ?_
        clear F ac
        intro ac F
        refine Y.nil ?_
        replace F : Fr ac 80 [(0, .agg #[.slice ta tn tc, .slice ca cn cc]), (1, .slice a sn c), (2, .int .i64 bu), (3, .pointer (some ⟨w.heap.size, 0, none⟩)), (6, .slice none 0 0), (7, .int .i64 0), (8, .int .i64 (plannedE f xs xs bu)), (9, .slice (some pd13) N lc), (10, .slice (some ⟨w6.heap.size, 0, none⟩) N N), (11, v'), (12, .int .i64 i), (13, .int .i64 ((i : Int) + 1)), (21, .bool false), (36, .bool true), (43, .bool false)] := F.sub _ (by kernel_rfl)
        refine X.thenN ?_
        refine Y.block ?_
        refine Y.loop (fun me_ ac wr => ∃ (m : Nat), me_ = N - (i + 1 + m) ∧ Gr w6 wr ∧ i + 1 + m ≤ N ∧ OwnBo wr (w6.heap.size) N (canP f xs bu i m) ∧ OutB w6 wr v' ((((allV f).take i).filter (isR f bu xs)) ++ [(allV f)[i]?.getD []]) ∧ Fr ac 80 [(0, .agg #[.slice ta tn tc, .slice ca cn cc]), (1, .slice a sn c), (2, .int .i64 bu), (3, .pointer (some ⟨w.heap.size, 0, none⟩)), (6, .slice none 0 0), (7, .int .i64 0), (8, .int .i64 (plannedE f xs xs bu)), (9, .slice (some pd13) N lc), (10, .slice (some ⟨w6.heap.size, 0, none⟩) N N), (11, v'), (12, .int .i64 i), (13, .int .i64 (i + 1 + m : Nat)), (21, .bool false), (36, .bool true), (43, .bool false)]) _ ⟨0, rfl, GA, by omega, hO.congr (fun k hk => canP_start hok hil hk), hV', F.sub _ (by kernel_rfl)⟩ ?_
        clear F
        intro me_ ac w16 hI
        clear hV'
        clear hO
        obtain ⟨m, rfl, gr, hm, hO, hV', F⟩ := hI
        replace GA := gr
        clear gr
        replace G := G0A.trans GA
        replace hC := hCA.gr GA
        replace hf := hfA.gr GA
        replace hx := hxA.gr GA
        replace hR := hRA.gr GA
        replace pi13 := pi13A.gr GA
        refine Y.seq ?_
        refine Y.seq ?_
        refine Y.lit (by kernel_rfl) ?_
        refine Y.pval F (X.w0 rfl) rfl (X.move rfl (F.ev 13 (.int .i64 (i + 1 + m : Nat)) (by kernel_rfl))) ?_
        clear F ac
        intro ac F
        refine Y.pval F (X.w0 rfl) rfl (X.move rfl (F.ev 9 (.slice (some pd13) N lc) (by kernel_rfl))) ?_
        clear F ac
        intro ac F
        refine Y.pval F (X.w0 rfl) rfl (X.len1 Try.underlying22 rfl (F.ev 54 (.slice (some pd13) N lc) (by kernel_rfl))) ?_
        clear F ac
        intro ac F
        refine Y.pval F (X.w0 rfl) rfl (X.binop rfl (F.ev 53 (.int .i64 (i + 1 + m : Nat)) (by kernel_rfl)) (F.ev 55 (.int .i64 N) (by kernel_rfl)) (X.lssI Try.underlying3 rfl)) ?_
        clear F ac
        intro ac F
        refine Y.nil ?_
        replace F : Fr ac 80 [(0, .agg #[.slice ta tn tc, .slice ca cn cc]), (1, .slice a sn c), (2, .int .i64 bu), (3, .pointer (some ⟨w.heap.size, 0, none⟩)), (6, .slice none 0 0), (7, .int .i64 0), (8, .int .i64 (plannedE f xs xs bu)), (9, .slice (some pd13) N lc), (10, .slice (some ⟨w6.heap.size, 0, none⟩) N N), (11, v'), (12, .int .i64 i), (13, .int .i64 (i + 1 + m : Nat)), (21, .bool false), (36, .bool true), (43, .bool false), (56, .bool (decide (((i + 1 + m : Nat) : Int) < N)))] := F.sub _ (by kernel_rfl)
        refine X.thenN ?_
        cases h17 : decide (((i + 1 + m : Nat) : Int) < N) with
        | false =>
          try rw [h17] at F
          have h17p : ¬ (((i + 1 + m : Nat) : Int) < N) := of_decide_eq_false h17
          have hmN : i + 1 + m = N := by omega
          refine Y.condF (F.ev 56 (.bool false) (by kernel_rfl)) ?_
          refine Y.exit ?_
          refine X.thenX ?_
          refine X.thenX ?_
          refine X.blockX ?_
          refine X.blockN ?_
          refine X.thenN ?_
          refine Y.lit (by kernel_rfl) ?_
          refine Y.pval F (X.w0 rfl) rfl (X.move rfl (F.ev 12 (.int .i64 i) (by kernel_rfl))) ?_
          clear F ac
          intro ac F
          refine Y.pval F (X.w0 rfl) rfl (X.binop rfl (F.ev 37 (.int .i64 i) (by kernel_rfl)) (X.kc (.int .i64 1) rfl) (X.addI Try.underlying3 rfl (by omega) (by omega))) ?_
          clear F ac
          intro ac F
          refine Y.pval F (X.w0 rfl) rfl (X.assign rfl (F.ev 38 (.int .i64 ((i : Int) + 1)) (by kernel_rfl))) ?_
          clear F ac
          intro ac F
          refine Y.nil ?_
          replace F : Fr ac 80 [(0, .agg #[.slice ta tn tc, .slice ca cn cc]), (1, .slice a sn c), (2, .int .i64 bu), (3, .pointer (some ⟨w.heap.size, 0, none⟩)), (6, .slice none 0 0), (7, .int .i64 0), (8, .int .i64 (plannedE f xs xs bu)), (9, .slice (some pd13) N lc), (10, .slice (some ⟨w6.heap.size, 0, none⟩) N N), (11, v'), (12, .int .i64 ((i : Int) + 1)), (13, .int .i64 (i + 1 + m : Nat)), (21, .bool false), (36, .bool true), (43, .bool false), (56, .bool false)] := F.sub _ (by kernel_rfl)
          refine X.thenN ?_
          refine ⟨_, ?_, i + 1, _, rfl, GA, by omega, hO.congr (fun k hk => if_pos (by omega)), by rw [take_filter1 hil hcan]; exact hV', F.sub _ (by kernel_rfl)⟩
          omega
        | true =>
          try rw [h17] at F
          have h17p : (((i + 1 + m : Nat) : Int) < N) := of_decide_eq_true h17
          have hkl : i + 1 + m < (allV f).length := by omega
          have HX : StOk f ((allV f)[(i + 1 + m)]?.getD []) := (allV_ok (all_mem hkl)).1
          refine Y.condT (F.ev 56 (.bool true) (by kernel_rfl)) ?_
          refine Y.skip ?_
          refine X.thenN ?_
          refine Y.seq ?_
          refine Y.block ?_
          refine Y.seq ?_
          obtain ⟨pd18, pa18, rn18, pq18, pe18, -, pc18, pi18⟩ := hRA.at (j := (i + 1 + m)) (by omega)
          injection pe18 with pe18
          subst pe18
          replace hCA : RCells w6 [(⟨w.heap.size, 0, none⟩, .slice ta tn tc), (⟨w.heap.size, 1, none⟩, .slice ca cn cc), (pd13.add i, .slice pa13 sn pq13), (pd13.add (i + 1 + m), .slice pa18 rn18 pq18)] := hCA.append ((RCells.cons pc18 (RCells.nil _)))
          replace hC : RCells w16 [(⟨w.heap.size, 0, none⟩, .slice ta tn tc), (⟨w.heap.size, 1, none⟩, .slice ca cn cc), (pd13.add i, .slice pa13 sn pq13), (pd13.add (i + 1 + m), .slice pa18 rn18 pq18)] := hC.append ((RCells.cons ((GA.cell (lt_cell pc18)).trans pc18) (RCells.nil _)))
          clear pc18
          have pi18A := pi18
          replace pi18 := pi18.gr GA
          obtain rfl : sn = rn18 := by rw [← pi18.len, hsn]; exact (HX.len).symm
          refine Y.region F [some (.agg #[.slice ta tn tc, .slice ca cn cc]), some (.slice (some pd13) N lc), some (.int .i64 i), some (.pointer (some (pd13.add i))), some (.slice pa13 sn pq13), some (.slice (some pd13) N lc), some (.int .i64 (i + 1 + m : Nat)), some (.pointer (some (pd13.add (i + 1 + m)))), some (.slice pa18 sn pq18), some (.int .i64 (stepV f.times ((allV f)[i]?.getD []) ((allV f)[(i + 1 + m)]?.getD []))), some (.int .i64 (stepV f.times ((allV f)[i]?.getD []) ((allV f)[(i + 1 + m)]?.getD [])))] [] rfl ⟨by kernel_rfl, of_decide_eq_true (by kernel_rfl), by kernel_rfl, by kernel_rfl, by kernel_rfl⟩ ⟨?_, ?_, ?_, ?_, ?_, ?_, ?_, ?_, ?_, ?_, ?_, trivial⟩ ?_
          · intro ac done u W Sx hR
            have g : Gr w16 W := hR.1
            exact X.val (X.w0 rfl) rfl (X.load rfl (Sx.ev 3 (.pointer (some ⟨w.heap.size, 0, none⟩)) (by kernel_rfl)) (X.ldN (Try.agg25 _) (Try.siz25 _) (X.c2 ((hC.gr g).at 0 rfl) ((hC.gr g).at 1 rfl)))) (hR.step (Gr.refl _) rfl)
          · intro ac done u W Sx hR
            have g : Gr w16 W := hR.1
            exact X.val (X.w0 rfl) rfl (X.move rfl (Sx.ev 9 (.slice (some pd13) N lc) (by kernel_rfl))) (hR.step (Gr.refl _) rfl)
          · intro ac done u W Sx hR
            have g : Gr w16 W := hR.1
            exact X.val (X.w0 rfl) rfl (X.move rfl (Sx.ev 12 (.int .i64 i) (by kernel_rfl))) (hR.step (Gr.refl _) rfl)
          · intro ac done u W Sx hR
            have g : Gr w16 W := hR.1
            exact X.val (X.w0 rfl) rfl (X.index rfl (Sx.ev 60 (.slice (some pd13) N lc) (by kernel_rfl)) (Sx.ev 61 (.int .i64 i) (by kernel_rfl)) (X.idx (k := i) Try.underlying22 (Try.siz26 _) (by omega) (by omega) (by rw [Nat.mul_one]))) (hR.step (Gr.refl _) rfl)
          · intro ac done u W Sx hR
            have g : Gr w16 W := hR.1
            exact X.val (X.w0 rfl) rfl (X.load rfl (Sx.ev 62 (.pointer (some (pd13.add i))) (by kernel_rfl)) (X.ld1 (Try.agg26 _) ((hC.gr g).at 2 rfl))) (hR.step (Gr.refl _) rfl)
          · intro ac done u W Sx hR
            have g : Gr w16 W := hR.1
            exact X.val (X.w0 rfl) rfl (X.move rfl (Sx.ev 9 (.slice (some pd13) N lc) (by kernel_rfl))) (hR.step (Gr.refl _) rfl)
          · intro ac done u W Sx hR
            have g : Gr w16 W := hR.1
            exact X.val (X.w0 rfl) rfl (X.move rfl (Sx.ev 13 (.int .i64 (i + 1 + m : Nat)) (by kernel_rfl))) (hR.step (Gr.refl _) rfl)
          · intro ac done u W Sx hR
            have g : Gr w16 W := hR.1
            exact X.val (X.w0 rfl) rfl (X.index rfl (Sx.ev 64 (.slice (some pd13) N lc) (by kernel_rfl)) (Sx.ev 65 (.int .i64 (i + 1 + m : Nat)) (by kernel_rfl)) (X.idx (k := (i + 1 + m)) Try.underlying22 (Try.siz26 _) (by omega) (by omega) (by rw [Nat.mul_one]))) (hR.step (Gr.refl _) rfl)
          · intro ac done u W Sx hR
            have g : Gr w16 W := hR.1
            exact X.val (X.w0 rfl) rfl (X.load rfl (Sx.ev 66 (.pointer (some (pd13.add (i + 1 + m)))) (by kernel_rfl)) (X.ld1 (Try.agg26 _) ((hC.gr g).at 3 rfl))) (hR.step (Gr.refl _) rfl)
          · intro ac done u W Sx hR
            have g : Gr w16 W := hR.1
            refine X.call (X.w0 rfl) (X.enter (F := 70) rfl (X.kc (.func (.func 70) #[] #[]) rfl) (X.a3 (Sx.ev 59 (.agg #[.slice ta tn tc, .slice ca cn cc]) (by kernel_rfl)) (Sx.ev 63 (.slice pa13 sn pq13) (by kernel_rfl)) (Sx.ev 67 (.slice pa18 sn pq18) (by kernel_rfl))) (enters_of Try.func70 (by kernel_rfl) rfl _)) (step_any ta ca pa13 pa18 tn tc cn cc sn pq13 pq18 f ((allV f)[i]?.getD []) ((allV f)[(i + 1 + m)]?.getD []) W (hf.gr g) hok (pi13.gr g) (pi18.gr g) HS HX) ?_
            rintro e W2 ⟨rfl, g2⟩
            exact ⟨_, rfl, X.kn rfl, hR.step g2 rfl⟩
          · intro ac done u W Sx hR
            have g : Gr w16 W := hR.1
            exact X.val (X.w0 rfl) rfl (X.assign rfl (Sx.ev 68 (.int .i64 (stepV f.times ((allV f)[i]?.getD []) ((allV f)[(i + 1 + m)]?.getD []))) (by kernel_rfl))) (hR.step (Gr.refl _) rfl)
          intro ac u w19 hs hd hl ho hR
          have g : Gr w16 w19 := hR.1
          replace F : Fr ac 80 [(0, .agg #[.slice ta tn tc, .slice ca cn cc]), (1, .slice a sn c), (2, .int .i64 bu), (3, .pointer (some ⟨w.heap.size, 0, none⟩)), (6, .slice none 0 0), (7, .int .i64 0), (8, .int .i64 (plannedE f xs xs bu)), (9, .slice (some pd13) N lc), (10, .slice (some ⟨w6.heap.size, 0, none⟩) N N), (11, v'), (12, .int .i64 i), (13, .int .i64 (i + 1 + m : Nat)), (14, .int .i64 (stepV f.times ((allV f)[i]?.getD []) ((allV f)[(i + 1 + m)]?.getD []))), (21, .bool false), (36, .bool true), (43, .bool false), (56, .bool true)] := X.fr hs hd hl _ (by kernel_rfl)
          clear hs hd hl ho hR
          replace G := G.trans g
          replace hC := hC.gr g
          replace GA := GA.trans g
          replace hf := hf.gr g
          replace hx := hx.gr g
          replace hR := hR.gr g
          replace pi13 := pi13.gr g
          replace hO := hO.gr g
          replace hV' := hV'.gr g
          replace pi18 := pi18.gr g
          clear g
          refine X.thenN ?_
          refine Y.seq ?_
          refine Y.lit (by kernel_rfl) ?_
          refine Y.pval F (X.w0 rfl) rfl (X.move rfl (F.ev 14 (.int .i64 (stepV f.times ((allV f)[i]?.getD []) ((allV f)[(i + 1 + m)]?.getD []))) (by kernel_rfl))) ?_
          clear F ac
          intro ac F
          refine Y.pval F (X.w0 rfl) rfl (X.binop rfl (F.ev 69 (.int .i64 (stepV f.times ((allV f)[i]?.getD []) ((allV f)[(i + 1 + m)]?.getD []))) (by kernel_rfl)) (X.kc (.int .i64 0) rfl) (X.geqI Try.underlying3 rfl)) ?_
          clear F ac
          intro ac F
          refine Y.pval F (X.w0 rfl) rfl (X.move rfl (F.ev 70 (.bool (decide ((0 : Int) ≤ (stepV f.times ((allV f)[i]?.getD []) ((allV f)[(i + 1 + m)]?.getD []))))) (by kernel_rfl))) ?_
          clear F ac
          intro ac F
          cases h20 : decide ((0 : Int) ≤ (stepV f.times ((allV f)[i]?.getD []) ((allV f)[(i + 1 + m)]?.getD []))) with
          | false =>
            try rw [h20] at F
            have h20p : ¬ ((0 : Int) ≤ (stepV f.times ((allV f)[i]?.getD []) ((allV f)[(i + 1 + m)]?.getD []))) := of_decide_eq_false h20
            have hst : stepsB f.times ((allV f)[i]?.getD []) ((allV f)[i + 1 + m]?.getD []) bu = false := Bool.eq_false_iff.2 (fun h => by have := stepsB_true2 hok HS HX h; omega)
            refine Y.pskip F (X.w2 rfl (F.yl (j := 2) (d := 71) (b := false) rfl (by kernel_rfl)) rfl) rfl ?_
            clear F ac
            intro ac F
            refine Y.pskip F (X.w2 rfl (F.yl (j := 2) (d := 71) (b := false) rfl (by kernel_rfl)) rfl) rfl ?_
            clear F ac
            intro ac F
            refine Y.pskip F (X.w2 rfl (F.yl (j := 2) (d := 71) (b := false) rfl (by kernel_rfl)) rfl) rfl ?_
            clear F ac
            intro ac F
            refine Y.pval F (X.w0 rfl) rfl (X.pickF rfl (F.ev 71 (.bool false) (by kernel_rfl)) (X.kc (.bool false) rfl)) ?_
            clear F ac
            intro ac F
            refine Y.nil ?_
            replace F : Fr ac 80 [(0, .agg #[.slice ta tn tc, .slice ca cn cc]), (1, .slice a sn c), (2, .int .i64 bu), (3, .pointer (some ⟨w.heap.size, 0, none⟩)), (6, .slice none 0 0), (7, .int .i64 0), (8, .int .i64 (plannedE f xs xs bu)), (9, .slice (some pd13) N lc), (10, .slice (some ⟨w6.heap.size, 0, none⟩) N N), (11, v'), (12, .int .i64 i), (13, .int .i64 (i + 1 + m : Nat)), (14, .int .i64 (stepV f.times ((allV f)[i]?.getD []) ((allV f)[(i + 1 + m)]?.getD []))), (21, .bool false), (36, .bool true), (43, .bool false), (56, .bool true), (75, .bool false)] := F.sub _ (by kernel_rfl)
            refine X.thenN ?_
            refine Y.condF (F.ev 75 (.bool false) (by kernel_rfl)) ?_
            refine Y.skip ?_
            refine X.blockN ?_
            refine X.thenN ?_
            refine Y.lit (by kernel_rfl) ?_
            refine Y.pval F (X.w0 rfl) rfl (X.move rfl (F.ev 13 (.int .i64 (i + 1 + m : Nat)) (by kernel_rfl))) ?_
            clear F ac
            intro ac F
            refine Y.pval F (X.w0 rfl) rfl (X.binop rfl (F.ev 57 (.int .i64 (i + 1 + m : Nat)) (by kernel_rfl)) (X.kc (.int .i64 1) rfl) (X.addI Try.underlying3 rfl (by omega) (by omega))) ?_
            clear F ac
            intro ac F
            refine Y.pval F (X.w0 rfl) rfl (X.assign rfl (F.ev 58 (.int .i64 (((i + 1 + m : Nat) : Int) + 1)) (by kernel_rfl))) ?_
            clear F ac
            intro ac F
            refine Y.nil ?_
            replace F : Fr ac 80 [(0, .agg #[.slice ta tn tc, .slice ca cn cc]), (1, .slice a sn c), (2, .int .i64 bu), (3, .pointer (some ⟨w.heap.size, 0, none⟩)), (6, .slice none 0 0), (7, .int .i64 0), (8, .int .i64 (plannedE f xs xs bu)), (9, .slice (some pd13) N lc), (10, .slice (some ⟨w6.heap.size, 0, none⟩) N N), (11, v'), (12, .int .i64 i), (13, .int .i64 (((i + 1 + m : Nat) : Int) + 1)), (14, .int .i64 (stepV f.times ((allV f)[i]?.getD []) ((allV f)[(i + 1 + m)]?.getD []))), (21, .bool false), (36, .bool true), (43, .bool false), (56, .bool true), (75, .bool false)] := F.sub _ (by kernel_rfl)
            refine X.thenN ?_
            refine ⟨_, ?_, m + 1, rfl, GA, by omega, hO.congr (fun k hk => canP_off (by omega) hcan hst), hV', F.sub _ (by kernel_rfl)⟩
            omega
          | true =>
            try rw [h20] at F
            have h20p : ((0 : Int) ≤ (stepV f.times ((allV f)[i]?.getD []) ((allV f)[(i + 1 + m)]?.getD []))) := of_decide_eq_true h20
            refine Y.pval F (X.w1 rfl (F.yl (j := 2) (d := 71) (b := true) rfl (by kernel_rfl))) rfl (X.move rfl (F.ev 14 (.int .i64 (stepV f.times ((allV f)[i]?.getD []) ((allV f)[(i + 1 + m)]?.getD []))) (by kernel_rfl))) ?_
            clear F ac
            intro ac F
            refine Y.pval F (X.w1 rfl (F.yl (j := 2) (d := 71) (b := true) rfl (by kernel_rfl))) rfl (X.move rfl (F.ev 2 (.int .i64 bu) (by kernel_rfl))) ?_
            clear F ac
            intro ac F
            refine Y.pval F (X.w1 rfl (F.yl (j := 2) (d := 71) (b := true) rfl (by kernel_rfl))) rfl (X.binop rfl (F.ev 72 (.int .i64 (stepV f.times ((allV f)[i]?.getD []) ((allV f)[(i + 1 + m)]?.getD []))) (by kernel_rfl)) (F.ev 73 (.int .i64 bu) (by kernel_rfl)) (X.leqI Try.underlying3 rfl)) ?_
            clear F ac
            intro ac F
            refine Y.pval F (X.w0 rfl) rfl (X.pickT rfl (F.ev 71 (.bool true) (by kernel_rfl)) (F.ev 74 (.bool (decide ((stepV f.times ((allV f)[i]?.getD []) ((allV f)[(i + 1 + m)]?.getD []) : Int) ≤ bu))) (by kernel_rfl))) ?_
            clear F ac
            intro ac F
            refine Y.nil ?_
            replace F : Fr ac 80 [(0, .agg #[.slice ta tn tc, .slice ca cn cc]), (1, .slice a sn c), (2, .int .i64 bu), (3, .pointer (some ⟨w.heap.size, 0, none⟩)), (6, .slice none 0 0), (7, .int .i64 0), (8, .int .i64 (plannedE f xs xs bu)), (9, .slice (some pd13) N lc), (10, .slice (some ⟨w6.heap.size, 0, none⟩) N N), (11, v'), (12, .int .i64 i), (13, .int .i64 (i + 1 + m : Nat)), (14, .int .i64 (stepV f.times ((allV f)[i]?.getD []) ((allV f)[(i + 1 + m)]?.getD []))), (21, .bool false), (36, .bool true), (43, .bool false), (56, .bool true), (75, .bool (decide ((stepV f.times ((allV f)[i]?.getD []) ((allV f)[(i + 1 + m)]?.getD []) : Int) ≤ bu)))] := F.sub _ (by kernel_rfl)
            refine X.thenN ?_
            cases h21 : decide ((stepV f.times ((allV f)[i]?.getD []) ((allV f)[(i + 1 + m)]?.getD []) : Int) ≤ bu) with
            | false =>
              try rw [h21] at F
              have h21p : ¬ ((stepV f.times ((allV f)[i]?.getD []) ((allV f)[(i + 1 + m)]?.getD []) : Int) ≤ bu) := of_decide_eq_false h21
              have hst : stepsB f.times ((allV f)[i]?.getD []) ((allV f)[i + 1 + m]?.getD []) bu = false := Bool.eq_false_iff.2 (fun h => by have := stepsB_true2 hok HS HX h; omega)
              refine Y.condF (F.ev 75 (.bool false) (by kernel_rfl)) ?_
              refine Y.skip ?_
              refine X.blockN ?_
              refine X.thenN ?_
              refine Y.lit (by kernel_rfl) ?_
              refine Y.pval F (X.w0 rfl) rfl (X.move rfl (F.ev 13 (.int .i64 (i + 1 + m : Nat)) (by kernel_rfl))) ?_
              clear F ac
              intro ac F
              refine Y.pval F (X.w0 rfl) rfl (X.binop rfl (F.ev 57 (.int .i64 (i + 1 + m : Nat)) (by kernel_rfl)) (X.kc (.int .i64 1) rfl) (X.addI Try.underlying3 rfl (by omega) (by omega))) ?_
              clear F ac
              intro ac F
              refine Y.pval F (X.w0 rfl) rfl (X.assign rfl (F.ev 58 (.int .i64 (((i + 1 + m : Nat) : Int) + 1)) (by kernel_rfl))) ?_
              clear F ac
              intro ac F
              refine Y.nil ?_
              replace F : Fr ac 80 [(0, .agg #[.slice ta tn tc, .slice ca cn cc]), (1, .slice a sn c), (2, .int .i64 bu), (3, .pointer (some ⟨w.heap.size, 0, none⟩)), (6, .slice none 0 0), (7, .int .i64 0), (8, .int .i64 (plannedE f xs xs bu)), (9, .slice (some pd13) N lc), (10, .slice (some ⟨w6.heap.size, 0, none⟩) N N), (11, v'), (12, .int .i64 i), (13, .int .i64 (((i + 1 + m : Nat) : Int) + 1)), (14, .int .i64 (stepV f.times ((allV f)[i]?.getD []) ((allV f)[(i + 1 + m)]?.getD []))), (21, .bool false), (36, .bool true), (43, .bool false), (56, .bool true), (75, .bool false)] := F.sub _ (by kernel_rfl)
              refine X.thenN ?_
              refine ⟨_, ?_, m + 1, rfl, GA, by omega, hO.congr (fun k hk => canP_off (by omega) hcan hst), hV', F.sub _ (by kernel_rfl)⟩
              omega
            | true =>
              try rw [h21] at F
              have h21p : ((stepV f.times ((allV f)[i]?.getD []) ((allV f)[(i + 1 + m)]?.getD []) : Int) ≤ bu) := of_decide_eq_true h21
              have hst : stepsB f.times ((allV f)[i]?.getD []) ((allV f)[i + 1 + m]?.getD []) bu = true := (stepsB_stepV hok HS HX).2 ⟨by omega, by omega⟩
              refine Y.condT (F.ev 75 (.bool true) (by kernel_rfl)) ?_
              refine Y.lit (by kernel_rfl) ?_
              refine Y.pval F (X.w0 rfl) rfl (X.move rfl (F.ev 10 (.slice (some ⟨w6.heap.size, 0, none⟩) N N) (by kernel_rfl))) ?_
              clear F ac
              intro ac F
              refine Y.pval F (X.w0 rfl) rfl (X.move rfl (F.ev 13 (.int .i64 (i + 1 + m : Nat)) (by kernel_rfl))) ?_
              clear F ac
              intro ac F
              refine Y.pval F (X.w0 rfl) rfl (X.index rfl (F.ev 76 (.slice (some ⟨w6.heap.size, 0, none⟩) N N) (by kernel_rfl)) (F.ev 77 (.int .i64 (i + 1 + m : Nat)) (by kernel_rfl)) (X.idx (k := (i + 1 + m)) Try.underlying111 (Try.siz4 _) (by omega) (by omega) (addr_add1 _ _))) ?_
              clear F ac
              intro ac F
              obtain ⟨w22, hrun, hO2, hon⟩ := hO.st (k := (i + 1 + m)) true (by omega)
              refine Y.punit F (X.w0 rfl) rfl (X.store rfl (F.ev 78 (.pointer (some ⟨w6.heap.size, (i + 1 + m), none⟩)) (by kernel_rfl)) (X.kc (.bool true) rfl) hrun) ?_
              clear F ac hrun
              intro ac F
              replace GA := Y.Only.up GA hon hb0
              replace G := G0A.trans GA
              replace hf := hfA.gr GA
              replace hx := hxA.gr GA
              replace hR := hRA.gr GA
              replace pi13 := pi13A.gr GA
              replace pi18 := pi18A.gr GA
              replace hC := hCA.gr GA
              replace hV' := hV'.only hon (fun x e h => hO.ne26 hV' (h ▸ e)) GA
              have hO := hO2
              clear hO2 hon
              refine Y.nil ?_
              replace F : Fr ac 80 [(0, .agg #[.slice ta tn tc, .slice ca cn cc]), (1, .slice a sn c), (2, .int .i64 bu), (3, .pointer (some ⟨w.heap.size, 0, none⟩)), (6, .slice none 0 0), (7, .int .i64 0), (8, .int .i64 (plannedE f xs xs bu)), (9, .slice (some pd13) N lc), (10, .slice (some ⟨w6.heap.size, 0, none⟩) N N), (11, v'), (12, .int .i64 i), (13, .int .i64 (i + 1 + m : Nat)), (14, .int .i64 (stepV f.times ((allV f)[i]?.getD []) ((allV f)[(i + 1 + m)]?.getD []))), (21, .bool false), (36, .bool true), (43, .bool false), (56, .bool true), (75, .bool true)] := F.sub _ (by kernel_rfl)
              refine X.blockN ?_
              refine X.thenN ?_
              refine Y.lit (by kernel_rfl) ?_
              refine Y.pval F (X.w0 rfl) rfl (X.move rfl (F.ev 13 (.int .i64 (i + 1 + m : Nat)) (by kernel_rfl))) ?_
              clear F ac
              intro ac F
              refine Y.pval F (X.w0 rfl) rfl (X.binop rfl (F.ev 57 (.int .i64 (i + 1 + m : Nat)) (by kernel_rfl)) (X.kc (.int .i64 1) rfl) (X.addI Try.underlying3 rfl (by omega) (by omega))) ?_
              clear F ac
              intro ac F
              refine Y.pval F (X.w0 rfl) rfl (X.assign rfl (F.ev 58 (.int .i64 (((i + 1 + m : Nat) : Int) + 1)) (by kernel_rfl))) ?_
              clear F ac
              intro ac F
              refine Y.nil ?_
              replace F : Fr ac 80 [(0, .agg #[.slice ta tn tc, .slice ca cn cc]), (1, .slice a sn c), (2, .int .i64 bu), (3, .pointer (some ⟨w.heap.size, 0, none⟩)), (6, .slice none 0 0), (7, .int .i64 0), (8, .int .i64 (plannedE f xs xs bu)), (9, .slice (some pd13) N lc), (10, .slice (some ⟨w6.heap.size, 0, none⟩) N N), (11, v'), (12, .int .i64 i), (13, .int .i64 (((i + 1 + m : Nat) : Int) + 1)), (14, .int .i64 (stepV f.times ((allV f)[i]?.getD []) ((allV f)[(i + 1 + m)]?.getD []))), (21, .bool false), (36, .bool true), (43, .bool false), (56, .bool true), (75, .bool true)] := F.sub _ (by kernel_rfl)
              refine X.thenN ?_
              refine ⟨_, ?_, m + 1, rfl, GA, by omega, hO.congr (fun k hk => canP_on (by omega) hcan hst), hV', F.sub _ (by kernel_rfl)⟩
              omega
  | true =>
    try rw [h5] at F
    have h5p : ¬ (plannedE f xs xs bu : Int) = 0 := by simpa using h5
    have HE : reachE f xs bu = plannedE f xs xs bu := rfl
    have HV : reachR f xs bu = [] := if_neg h5p
    refine Y.condT (F.ev 21 (.bool true) (by kernel_rfl)) ?_
    refine Y.seq ?_
    refine Y.lit (by kernel_rfl) ?_
    refine Y.pval F (X.w0 rfl) rfl (X.move rfl (F.ev 8 (.int .i64 (plannedE f xs xs bu)) (by kernel_rfl))) ?_
    clear F ac
    intro ac F
    refine Y.pval F (X.w0 rfl) rfl (X.assign rfl (X.kc (.slice none 0 0) rfl)) ?_
    clear F ac
    intro ac F
    refine Y.pval F (X.w0 rfl) rfl (X.assign rfl (F.ev 22 (.int .i64 (plannedE f xs xs bu)) (by kernel_rfl))) ?_
    clear F ac
    intro ac F
    refine Y.nil ?_
    replace F : Fr ac 80 [(0, .agg #[.slice ta tn tc, .slice ca cn cc]), (1, .slice a sn c), (2, .int .i64 bu), (3, .pointer (some ⟨w.heap.size, 0, none⟩)), (6, .slice none 0 0), (7, .int .i64 (plannedE f xs xs bu)), (8, .int .i64 (plannedE f xs xs bu)), (21, .bool true)] := F.sub _ (by kernel_rfl)
    refine X.thenN ?_
    refine Y.ret ?_
    refine X.thenR ?_
    exact Y.ret0 F (Y.rs2 F rfl (by kernel_rfl) (by kernel_rfl)) ⟨none, 0, 0, by rw [HE], by rw [HV]; exact RowsAt.nil _, G⟩
end Go.Proofs.Ytlilojpnhmfnaaa
