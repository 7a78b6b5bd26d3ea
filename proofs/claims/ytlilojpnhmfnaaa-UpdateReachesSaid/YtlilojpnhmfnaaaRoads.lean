/- Contract: the table of roads. -/
import Derived.Test.YtlilojpnhmfnaaaBd9
import Derived.Test.YtlilojpnhmfnaaaNews
namespace Go.Proofs.Ytlilojpnhmfnaaa
open Go.RowKit

set_option maxRecDepth 100000 in
set_option maxHeartbeats 4000000 in
theorem roads_any (ta ca la ya : Option Addr) (tn tc cn cc N lc sn yc : Nat) (f : Fl) (to : List Int) (bu : Int) (w : World) (hf : FlAt w ta tn ca cn f) (hR : RowsAt w la N (allV f)) (hy : Ints w ya sn to) (hok : FlOk f) (hto : StOk f to) (hsn : sn = f.times.length) (hbu : bu ≤ 1000000) :
    Calls Try.prog 89 #[.agg #[.slice ta tn tc, .slice ca cn cc], .slice la N lc, .slice ya sn yc, .int .i64 bu] w fun e w' => ∃ v, e = .returned v ∧ (MP.rds N (fun k => (roadsV f to bu)[k]?.getD Rd.no)).p v w' ∧ Gr w w' := by
  have hRl := hR.len
  have hRt := hR.lt
  have hal := allV_len hok
  have G := Gr.refl w
  refine Y.calls 127 Try.func89 rfl rfl ?_
  intro ac F0
  have F : Fr ac 127 [(0, .agg #[.slice ta tn tc, .slice ca cn cc]), (1, .slice la N lc), (2, .slice ya sn yc), (3, .int .i64 bu)] := F0.sub _ (by kernel_rfl)
  clear F0
  refine Y.seq ?_
  refine Y.lit (by kernel_rfl) ?_
  refine Y.pval F (X.w0 rfl) rfl (X.box rfl (F.ev 0 (.agg #[.slice ta tn tc, .slice ca cn cc]) (by kernel_rfl)) X.bx) ?_
  clear F ac
  intro ac F
  have g := Gr.alloc w (.cells #[.slice ta tn tc, .slice ca cn cc] 25)
  have hb := heap_alloc_new w (.cells #[.slice ta tn tc, .slice ca cn cc] 25)
  have hbl : w.heap.size < (w.alloc (.cells #[.slice ta tn tc, .slice ca cn cc] 25)).heap.size := by simp
  have hC2 : RCells (w.alloc (.cells #[.slice ta tn tc, .slice ca cn cc] 25)) [(⟨w.heap.size, 0, none⟩, .slice ta tn tc), (⟨w.heap.size, 1, none⟩, .slice ca cn cc)] := (RCells.nil w).box (b := w.heap.size) #[.slice ta tn tc, .slice ca cn cc] 25 rfl
  generalize w.alloc (.cells #[.slice ta tn tc, .slice ca cn cc] 25) = w3 at *
  replace G := G.trans g
  have hC := hC2
  clear hC2
  replace hf := hf.gr g
  replace hR := hR.gr g
  replace hy := hy.gr g
  clear g hb hbl
  refine Y.pval F (X.w0 rfl) rfl (X.assign rfl (X.kc (.slice none 0 0) rfl)) ?_
  clear F ac
  intro ac F
  refine Y.nil ?_
  replace F : Fr ac 127 [(0, .agg #[.slice ta tn tc, .slice ca cn cc]), (1, .slice la N lc), (2, .slice ya sn yc), (3, .int .i64 bu), (4, .pointer (some ⟨w.heap.size, 0, none⟩)), (8, .slice none 0 0)] := F.sub _ (by kernel_rfl)
  refine X.thenN ?_
  refine Y.seq ?_
  refine Y.lit (by kernel_rfl) ?_
  refine Y.pval F (X.w0 rfl) rfl (X.move rfl (F.ev 1 (.slice la N lc) (by kernel_rfl))) ?_
  clear F ac
  intro ac F
  refine Y.pval F (X.w0 rfl) rfl (X.len1 Try.underlying22 rfl (F.ev 14 (.slice la N lc) (by kernel_rfl))) ?_
  clear F ac
  intro ac F
  have hfA := hf
  have hRA := hR
  have hyA := hy
  have hCA := hC
  have G0A := G
  have GA := Gr.refl w3
  obtain ⟨w4, hmk, hO, g⟩ := make114 w3 N (by omega)
  refine Y.pval F (X.w0 rfl) rfl (Y.mk rfl (F.ev 15 (.int .i64 N) (by kernel_rfl)) (F.ev 15 (.int .i64 N) (by kernel_rfl)) hmk) ?_
  clear F ac hmk
  intro ac F
  replace G := G.trans g
  replace hC := hC.gr g
  replace GA := GA.trans g
  replace hf := hf.gr g
  replace hR := hR.gr g
  replace hy := hy.gr g
  clear g
  have hb0 : w3.heap.size ≤ w3.heap.size := Nat.le_refl _
  refine Y.pval F (X.w0 rfl) rfl (X.assign rfl (F.ev 16 (.slice (some ⟨w3.heap.size, 0, none⟩) N N) (by kernel_rfl))) ?_
  clear F ac
  intro ac F
  refine Y.nil ?_
  replace F : Fr ac 127 [(0, .agg #[.slice ta tn tc, .slice ca cn cc]), (1, .slice la N lc), (2, .slice ya sn yc), (3, .int .i64 bu), (4, .pointer (some ⟨w.heap.size, 0, none⟩)), (8, .slice none 0 0), (9, .slice (some ⟨w3.heap.size, 0, none⟩) N N)] := F.sub _ (by kernel_rfl)
  refine X.thenN ?_
  refine Y.seq ?_
  refine Y.seq ?_
  refine Y.lit (by kernel_rfl) ?_
  refine Y.pval F (X.w0 rfl) rfl (X.move rfl (F.ev 1 (.slice la N lc) (by kernel_rfl))) ?_
  clear F ac
  intro ac F
  refine Y.pval F (X.w0 rfl) rfl (X.len1 Try.underlying22 rfl (F.ev 17 (.slice la N lc) (by kernel_rfl))) ?_
  clear F ac
  intro ac F
  refine Y.pval F (X.w0 rfl) rfl (X.binop rfl (F.ev 18 (.int .i64 N) (by kernel_rfl)) (X.kc (.int .i64 1) rfl) (X.subI Try.underlying3 rfl (by omega) (by omega))) ?_
  clear F ac
  intro ac F
  refine Y.pval F (X.w0 rfl) rfl (X.assign rfl (F.ev 19 (.int .i64 ((N : Int) - 1)) (by kernel_rfl))) ?_
  clear F ac
  intro ac F
  refine Y.nil ?_
  replace F : Fr ac 127 [(0, .agg #[.slice ta tn tc, .slice ca cn cc]), (1, .slice la N lc), (2, .slice ya sn yc), (3, .int .i64 bu), (4, .pointer (some ⟨w.heap.size, 0, none⟩)), (8, .slice none 0 0), (9, .slice (some ⟨w3.heap.size, 0, none⟩) N N), (10, .int .i64 ((N : Int) - 1))] := F.sub _ (by kernel_rfl)
  refine X.thenN ?_
  refine Y.block ?_
  replace hO := hO.start (f := f) (to := to) (bu := bu)
  refine Y.loop (fun me_ ac wr => ∃ (z : Nat), me_ = z + 1 ∧ Gr w3 wr ∧ z ≤ N ∧ OwnRd wr (w3.heap.size) N (tabR f to bu z) ∧ Fr ac 127 [(0, .agg #[.slice ta tn tc, .slice ca cn cc]), (1, .slice la N lc), (2, .slice ya sn yc), (3, .int .i64 bu), (4, .pointer (some ⟨w.heap.size, 0, none⟩)), (8, .slice none 0 0), (9, .slice (some ⟨w3.heap.size, 0, none⟩) N N), (10, .int .i64 ((z : Int) - 1))]) _ ⟨N, rfl, GA, Nat.le_refl _, hO, F.sub _ (by kernel_rfl)⟩ ?_
  clear F
  intro me_ ac w5 hI
  clear hO
  obtain ⟨z, rfl, gr, hz, hO, F⟩ := hI
  replace GA := gr
  clear gr
  replace G := G0A.trans GA
  replace hC := hCA.gr GA
  replace hf := hfA.gr GA
  replace hR := hRA.gr GA
  replace hy := hyA.gr GA
  refine Y.seq ?_
  refine Y.seq ?_
  refine Y.lit (by kernel_rfl) ?_
  refine Y.pval F (X.w0 rfl) rfl (X.move rfl (F.ev 10 (.int .i64 ((z : Int) - 1)) (by kernel_rfl))) ?_
  clear F ac
  intro ac F
  refine Y.pval F (X.w0 rfl) rfl (X.binop rfl (F.ev 20 (.int .i64 ((z : Int) - 1)) (by kernel_rfl)) (X.kc (.int .i64 0) rfl) (X.geqI Try.underlying3 rfl)) ?_
  clear F ac
  intro ac F
  refine Y.nil ?_
  replace F : Fr ac 127 [(0, .agg #[.slice ta tn tc, .slice ca cn cc]), (1, .slice la N lc), (2, .slice ya sn yc), (3, .int .i64 bu), (4, .pointer (some ⟨w.heap.size, 0, none⟩)), (8, .slice none 0 0), (9, .slice (some ⟨w3.heap.size, 0, none⟩) N N), (10, .int .i64 ((z : Int) - 1)), (21, .bool (decide ((0 : Int) ≤ ((z : Int) - 1))))] := F.sub _ (by kernel_rfl)
  refine X.thenN ?_
  cases h6 : decide ((0 : Int) ≤ ((z : Int) - 1)) with
  | false =>
    try rw [h6] at F
    have h6p : ¬ ((0 : Int) ≤ ((z : Int) - 1)) := of_decide_eq_false h6
    obtain rfl : 0 = z := by omega
    refine Y.condF (F.ev 21 (.bool false) (by kernel_rfl)) ?_
    refine Y.exit ?_
    refine X.thenX ?_
    refine X.thenX ?_
    refine X.blockX ?_
    refine X.thenN ?_
    refine Y.seq ?_
    refine Y.lit (by kernel_rfl) ?_
    refine Y.pval F (X.w0 rfl) rfl (X.move rfl (F.ev 9 (.slice (some ⟨w3.heap.size, 0, none⟩) N N) (by kernel_rfl))) ?_
    clear F ac
    intro ac F
    refine Y.pval F (X.w0 rfl) rfl (X.assign rfl (F.ev 126 (.slice (some ⟨w3.heap.size, 0, none⟩) N N) (by kernel_rfl))) ?_
    clear F ac
    intro ac F
    refine Y.nil ?_
    replace F : Fr ac 127 [(0, .agg #[.slice ta tn tc, .slice ca cn cc]), (1, .slice la N lc), (2, .slice ya sn yc), (3, .int .i64 bu), (4, .pointer (some ⟨w.heap.size, 0, none⟩)), (8, .slice (some ⟨w3.heap.size, 0, none⟩) N N), (9, .slice (some ⟨w3.heap.size, 0, none⟩) N N), (10, .int .i64 ((0 : Int) - 1)), (21, .bool false)] := F.sub _ (by kernel_rfl)
    refine X.thenN ?_
    refine Y.ret ?_
    exact Y.ret0 F (Y.rs1 F rfl (by kernel_rfl)) ⟨_, rfl, ⟨_, rfl, hO.done⟩, G⟩
  | true =>
    try rw [h6] at F
    have h6p : ((0 : Int) ≤ ((z : Int) - 1)) := of_decide_eq_true h6
    obtain ⟨i, rfl⟩ : ∃ i, z = i + 1 := ⟨z - 1, by omega⟩
    have hzi : ((i + 1 : Nat) : Int) - 1 = (i : Int) := by omega
    rw [hzi] at F
    clear hzi
    have hil : i < (allV f).length := by omega
    have HS : StOk f ((allV f)[i]?.getD []) := (allV_ok (all_at hil)).1
    refine Y.condT (F.ev 21 (.bool true) (by kernel_rfl)) ?_
    refine Y.skip ?_
    refine X.thenN ?_
    refine Y.seq ?_
    refine Y.block ?_
    refine Y.seq ?_
    refine Y.lit (by kernel_rfl) ?_
    refine Y.pval F (X.w0 rfl) rfl (X.move rfl (F.ev 9 (.slice (some ⟨w3.heap.size, 0, none⟩) N N) (by kernel_rfl))) ?_
    clear F ac
    intro ac F
    refine Y.pval F (X.w0 rfl) rfl (X.move rfl (F.ev 10 (.int .i64 i) (by kernel_rfl))) ?_
    clear F ac
    intro ac F
    refine Y.pval F (X.w0 rfl) rfl (Y.bd rfl (Y.b3 (X.kc (.int .i64 (-1)) rfl) (X.kc (.int .i64 0) rfl) (X.kc (.int .i64 (-1)) rfl)) (Try.bd117 _ _ _ _)) ?_
    clear F ac
    intro ac F
    refine Y.pval F (X.w0 rfl) rfl (X.index rfl (F.ev 24 (.slice (some ⟨w3.heap.size, 0, none⟩) N N) (by kernel_rfl)) (F.ev 25 (.int .i64 i) (by kernel_rfl)) (X.idx (k := i) Try.underlying114 (Try.siz117 _) (by omega) (by omega) (addr_add0 _ _))) ?_
    clear F ac
    intro ac F
    obtain ⟨w7, hrun, hO2, hon⟩ := hO.st (j := i) (-1) 0 (-1) (by omega)
    refine Y.punit F (X.w0 rfl) rfl (X.store rfl (F.ev 27 (.pointer (some ⟨w3.heap.size, i * 3, none⟩)) (by kernel_rfl)) (F.ev 26 (.agg #[.int .i64 (-1), .int .i64 0, .int .i64 (-1)]) (by kernel_rfl)) hrun) ?_
    clear F ac hrun
    intro ac F
    replace GA := Y.Only.up GA hon hb0
    replace G := G0A.trans GA
    replace hf := hfA.gr GA
    replace hR := hRA.gr GA
    replace hy := hyA.gr GA
    replace hC := hCA.gr GA
    have hO := hO2
    clear hO2 hon
    refine Y.nil ?_
    replace F : Fr ac 127 [(0, .agg #[.slice ta tn tc, .slice ca cn cc]), (1, .slice la N lc), (2, .slice ya sn yc), (3, .int .i64 bu), (4, .pointer (some ⟨w.heap.size, 0, none⟩)), (8, .slice none 0 0), (9, .slice (some ⟨w3.heap.size, 0, none⟩) N N), (10, .int .i64 i), (21, .bool true)] := F.sub _ (by kernel_rfl)
    refine X.thenN ?_
    refine Y.seq ?_
    refine Y.seq ?_
    refine Y.lit (by kernel_rfl) ?_
    refine Y.pval F (X.w0 rfl) rfl (X.move rfl (F.ev 1 (.slice la N lc) (by kernel_rfl))) ?_
    clear F ac
    intro ac F
    refine Y.pval F (X.w0 rfl) rfl (X.move rfl (F.ev 10 (.int .i64 i) (by kernel_rfl))) ?_
    clear F ac
    intro ac F
    obtain ⟨pd8, pa8, rn8, pq8, pe8, -, pc8, pi8⟩ := hRA.at (j := i) (by omega)
    subst pe8
    replace hCA : RCells w3 [(⟨w.heap.size, 0, none⟩, .slice ta tn tc), (⟨w.heap.size, 1, none⟩, .slice ca cn cc), (pd8.add i, .slice pa8 rn8 pq8)] := hCA.append ((RCells.cons pc8 (RCells.nil _)))
    replace hC : RCells w7 [(⟨w.heap.size, 0, none⟩, .slice ta tn tc), (⟨w.heap.size, 1, none⟩, .slice ca cn cc), (pd8.add i, .slice pa8 rn8 pq8)] := hC.append ((RCells.cons ((GA.cell (lt_cell pc8)).trans pc8) (RCells.nil _)))
    clear pc8
    have pi8A := pi8
    replace pi8 := pi8.gr GA
    obtain rfl : sn = rn8 := by rw [← pi8.len, hsn]; exact (HS.len).symm
    refine Y.pval F (X.w0 rfl) rfl (X.index rfl (F.ev 28 (.slice (some pd8) N lc) (by kernel_rfl)) (F.ev 29 (.int .i64 i) (by kernel_rfl)) (X.idx (k := i) Try.underlying22 (Try.siz26 _) (by omega) (by omega) (by rw [Nat.mul_one]))) ?_
    clear F ac
    intro ac F
    refine Y.pval F (X.w0 rfl) rfl (X.load rfl (F.ev 30 (.pointer (some (pd8.add i))) (by kernel_rfl)) (X.ld1 (Try.agg26 _) (hC.at 2 rfl))) ?_
    clear F ac
    intro ac F
    refine Y.pval F (X.w0 rfl) rfl (X.move rfl (F.ev 2 (.slice ya sn yc) (by kernel_rfl))) ?_
    clear F ac
    intro ac F
    refine Y.pcall F (X.w0 rfl) rfl (X.enter (F := 100) rfl (X.kc (.func (.func 100) #[] #[]) rfl) (X.a2 (F.ev 31 (.slice pa8 sn pq8) (by kernel_rfl)) (F.ev 32 (.slice ya sn yc) (by kernel_rfl))) (enters_of Try.func100 (by kernel_rfl) rfl _)) (same_any pa8 ya sn pq8 yc ((allV f)[i]?.getD []) to w7 pi8 hy) ?_
    clear F ac
    rintro e w9 ⟨rfl, q, hq⟩
    have g : Gr w7 w9 := by rw [hq]; exact Gr.drewN _ _
    clear hq
    refine ⟨_, rfl, ?_⟩
    intro ac F
    replace G := G.trans g
    replace hC := hC.gr g
    replace GA := GA.trans g
    replace hf := hf.gr g
    replace hR := hR.gr g
    replace hy := hy.gr g
    replace hO := hO.gr g
    replace pi8 := pi8.gr g
    clear g
    refine Y.nil ?_
    replace F : Fr ac 127 [(0, .agg #[.slice ta tn tc, .slice ca cn cc]), (1, .slice (some pd8) N lc), (2, .slice ya sn yc), (3, .int .i64 bu), (4, .pointer (some ⟨w.heap.size, 0, none⟩)), (8, .slice none 0 0), (9, .slice (some ⟨w3.heap.size, 0, none⟩) N N), (10, .int .i64 i), (21, .bool true), (33, .bool (decide ((allV f)[i]?.getD [] = to)))] := F.sub _ (by kernel_rfl)
    refine X.thenN ?_
    cases h10 : decide ((allV f)[i]?.getD [] = to) with
    | false =>
      try rw [h10] at F
      refine Y.condF (F.ev 33 (.bool false) (by kernel_rfl)) ?_
      refine Y.skip ?_
      refine X.thenN ?_
      refine Y.seq ?_
      refine Y.lit (by kernel_rfl) ?_
      refine Y.pval F (X.w0 rfl) rfl (X.move rfl (F.ev 10 (.int .i64 i) (by kernel_rfl))) ?_
      clear F ac
      intro ac F
      refine Y.pval F (X.w0 rfl) rfl (X.binop rfl (F.ev 38 (.int .i64 i) (by kernel_rfl)) (X.kc (.int .i64 1) rfl) (X.addI Try.underlying3 rfl (by omega) (by omega))) ?_
      clear F ac
      intro ac F
      refine Y.pval F (X.w0 rfl) rfl (X.assign rfl (F.ev 39 (.int .i64 ((i : Int) + 1)) (by kernel_rfl))) ?_
      clear F ac
      intro ac F
      refine Y.nil ?_
      replace F : Fr ac 127 [(0, .agg #[.slice ta tn tc, .slice ca cn cc]), (1, .slice (some pd8) N lc), (2, .slice ya sn yc), (3, .int .i64 bu), (4, .pointer (some ⟨w.heap.size, 0, none⟩)), (8, .slice none 0 0), (9, .slice (some ⟨w3.heap.size, 0, none⟩) N N), (10, .int .i64 i), (11, .int .i64 ((i : Int) + 1)), (21, .bool true), (33, .bool false)] := F.sub _ (by kernel_rfl)
      refine X.thenN ?_
      refine Y.block ?_
      refine Y.loop (fun me_ ac wr => ∃ (m : Nat), me_ = N - (i + 1 + m) ∧ Gr w3 wr ∧ i + 1 + m ≤ N ∧ OwnRd wr (w3.heap.size) N (updR (tabR f to bu (i + 1)) i (pfR f to bu i m)) ∧ Fr ac 127 [(0, .agg #[.slice ta tn tc, .slice ca cn cc]), (1, .slice (some pd8) N lc), (2, .slice ya sn yc), (3, .int .i64 bu), (4, .pointer (some ⟨w.heap.size, 0, none⟩)), (8, .slice none 0 0), (9, .slice (some ⟨w3.heap.size, 0, none⟩) N N), (10, .int .i64 i), (11, .int .i64 (i + 1 + m : Nat)), (21, .bool true), (33, .bool false)]) _ ⟨0, rfl, GA, by omega, hO, F.sub _ (by kernel_rfl)⟩ ?_
      clear F
      intro me_ ac w11 hI
      clear hO
      obtain ⟨m, rfl, gr, hm, hO, F⟩ := hI
      replace GA := gr
      clear gr
      replace G := G0A.trans GA
      replace hC := hCA.gr GA
      replace hf := hfA.gr GA
      replace hR := hRA.gr GA
      replace hy := hyA.gr GA
      replace pi8 := pi8A.gr GA
      refine Y.seq ?_
      refine Y.seq ?_
      refine Y.lit (by kernel_rfl) ?_
      refine Y.pval F (X.w0 rfl) rfl (X.move rfl (F.ev 11 (.int .i64 (i + 1 + m : Nat)) (by kernel_rfl))) ?_
      clear F ac
      intro ac F
      refine Y.pval F (X.w0 rfl) rfl (X.move rfl (F.ev 1 (.slice (some pd8) N lc) (by kernel_rfl))) ?_
      clear F ac
      intro ac F
      refine Y.pval F (X.w0 rfl) rfl (X.len1 Try.underlying22 rfl (F.ev 41 (.slice (some pd8) N lc) (by kernel_rfl))) ?_
      clear F ac
      intro ac F
      refine Y.pval F (X.w0 rfl) rfl (X.binop rfl (F.ev 40 (.int .i64 (i + 1 + m : Nat)) (by kernel_rfl)) (F.ev 42 (.int .i64 N) (by kernel_rfl)) (X.lssI Try.underlying3 rfl)) ?_
      clear F ac
      intro ac F
      refine Y.nil ?_
      replace F : Fr ac 127 [(0, .agg #[.slice ta tn tc, .slice ca cn cc]), (1, .slice (some pd8) N lc), (2, .slice ya sn yc), (3, .int .i64 bu), (4, .pointer (some ⟨w.heap.size, 0, none⟩)), (8, .slice none 0 0), (9, .slice (some ⟨w3.heap.size, 0, none⟩) N N), (10, .int .i64 i), (11, .int .i64 (i + 1 + m : Nat)), (21, .bool true), (33, .bool false), (43, .bool (decide (((i + 1 + m : Nat) : Int) < N)))] := F.sub _ (by kernel_rfl)
      refine X.thenN ?_
      cases h12 : decide (((i + 1 + m : Nat) : Int) < N) with
      | false =>
        try rw [h12] at F
        have h12p : ¬ (((i + 1 + m : Nat) : Int) < N) := of_decide_eq_false h12
        refine Y.condF (F.ev 43 (.bool false) (by kernel_rfl)) ?_
        refine Y.exit ?_
        refine X.thenX ?_
        refine X.thenX ?_
        refine X.blockX ?_
        refine X.blockN ?_
        refine X.thenN ?_
        refine Y.lit (by kernel_rfl) ?_
        refine Y.pval F (X.w0 rfl) rfl (X.move rfl (F.ev 10 (.int .i64 i) (by kernel_rfl))) ?_
        clear F ac
        intro ac F
        refine Y.pval F (X.w0 rfl) rfl (X.binop rfl (F.ev 22 (.int .i64 i) (by kernel_rfl)) (X.kc (.int .i64 1) rfl) (X.subI Try.underlying3 rfl (by omega) (by omega))) ?_
        clear F ac
        intro ac F
        refine Y.pval F (X.w0 rfl) rfl (X.assign rfl (F.ev 23 (.int .i64 ((i : Int) - 1)) (by kernel_rfl))) ?_
        clear F ac
        intro ac F
        refine Y.nil ?_
        replace F : Fr ac 127 [(0, .agg #[.slice ta tn tc, .slice ca cn cc]), (1, .slice (some pd8) N lc), (2, .slice ya sn yc), (3, .int .i64 bu), (4, .pointer (some ⟨w.heap.size, 0, none⟩)), (8, .slice none 0 0), (9, .slice (some ⟨w3.heap.size, 0, none⟩) N N), (10, .int .i64 ((i : Int) - 1)), (11, .int .i64 (i + 1 + m : Nat)), (21, .bool true), (33, .bool false), (43, .bool false)] := F.sub _ (by kernel_rfl)
        refine X.thenN ?_
        refine ⟨_, ?_, i, rfl, GA, by omega, by rw [tab_step (r := pfR f to bu i m) (by rw [pfR_all (m := m) (by omega), if_neg (of_decide_eq_false h10)])] at hO; exact hO, F.sub _ (by kernel_rfl)⟩
        omega
      | true =>
        try rw [h12] at F
        have h12p : (((i + 1 + m : Nat) : Int) < N) := of_decide_eq_true h12
        have hkl : i + 1 + m < (allV f).length := by omega
        have HX : StOk f ((allV f)[(i + 1 + m)]?.getD []) := (allV_ok (all_at hkl)).1
        have hbd := roadsV_bd (bu := bu) hok hto hkl
        have hb1 := hbd.s0
        have hb2 := hbd.s1
        have hb3 := hbd.t0
        have hb4 := hbd.t1
        refine Y.condT (F.ev 43 (.bool true) (by kernel_rfl)) ?_
        refine Y.skip ?_
        refine X.thenN ?_
        refine Y.seq ?_
        refine Y.block ?_
        refine Y.seq ?_
        obtain ⟨pd13, pa13, rn13, pq13, pe13, -, pc13, pi13⟩ := hRA.at (j := (i + 1 + m)) (by omega)
        injection pe13 with pe13
        subst pe13
        replace hCA : RCells w3 [(⟨w.heap.size, 0, none⟩, .slice ta tn tc), (⟨w.heap.size, 1, none⟩, .slice ca cn cc), (pd8.add i, .slice pa8 sn pq8), (pd8.add (i + 1 + m), .slice pa13 rn13 pq13)] := hCA.append ((RCells.cons pc13 (RCells.nil _)))
        replace hC : RCells w11 [(⟨w.heap.size, 0, none⟩, .slice ta tn tc), (⟨w.heap.size, 1, none⟩, .slice ca cn cc), (pd8.add i, .slice pa8 sn pq8), (pd8.add (i + 1 + m), .slice pa13 rn13 pq13)] := hC.append ((RCells.cons ((GA.cell (lt_cell pc13)).trans pc13) (RCells.nil _)))
        clear pc13
        have pi13A := pi13
        replace pi13 := pi13.gr GA
        obtain rfl : sn = rn13 := by rw [← pi13.len, hsn]; exact (HX.len).symm
        refine Y.region F [some (.agg #[.slice ta tn tc, .slice ca cn cc]), some (.slice (some pd8) N lc), some (.int .i64 i), some (.pointer (some (pd8.add i))), some (.slice pa8 sn pq8), some (.slice (some pd8) N lc), some (.int .i64 (i + 1 + m : Nat)), some (.pointer (some (pd8.add (i + 1 + m)))), some (.slice pa13 sn pq13), some (.int .i64 (stepV f.times ((allV f)[i]?.getD []) ((allV f)[(i + 1 + m)]?.getD []))), some (.int .i64 (stepV f.times ((allV f)[i]?.getD []) ((allV f)[(i + 1 + m)]?.getD [])))] [] rfl ⟨by kernel_rfl, of_decide_eq_true (by kernel_rfl), by kernel_rfl, by kernel_rfl, by kernel_rfl⟩ ⟨?_, ?_, ?_, ?_, ?_, ?_, ?_, ?_, ?_, ?_, ?_, trivial⟩ ?_
        · intro ac done u W Sx hR
          have g : Gr w11 W := hR.1
          exact X.val (X.w0 rfl) rfl (X.load rfl (Sx.ev 4 (.pointer (some ⟨w.heap.size, 0, none⟩)) (by kernel_rfl)) (X.ldN (Try.agg25 _) (Try.siz25 _) (X.c2 ((hC.gr g).at 0 rfl) ((hC.gr g).at 1 rfl)))) (hR.step (Gr.refl _) rfl)
        · intro ac done u W Sx hR
          have g : Gr w11 W := hR.1
          exact X.val (X.w0 rfl) rfl (X.move rfl (Sx.ev 1 (.slice (some pd8) N lc) (by kernel_rfl))) (hR.step (Gr.refl _) rfl)
        · intro ac done u W Sx hR
          have g : Gr w11 W := hR.1
          exact X.val (X.w0 rfl) rfl (X.move rfl (Sx.ev 10 (.int .i64 i) (by kernel_rfl))) (hR.step (Gr.refl _) rfl)
        · intro ac done u W Sx hR
          have g : Gr w11 W := hR.1
          exact X.val (X.w0 rfl) rfl (X.index rfl (Sx.ev 47 (.slice (some pd8) N lc) (by kernel_rfl)) (Sx.ev 48 (.int .i64 i) (by kernel_rfl)) (X.idx (k := i) Try.underlying22 (Try.siz26 _) (by omega) (by omega) (by rw [Nat.mul_one]))) (hR.step (Gr.refl _) rfl)
        · intro ac done u W Sx hR
          have g : Gr w11 W := hR.1
          exact X.val (X.w0 rfl) rfl (X.load rfl (Sx.ev 49 (.pointer (some (pd8.add i))) (by kernel_rfl)) (X.ld1 (Try.agg26 _) ((hC.gr g).at 2 rfl))) (hR.step (Gr.refl _) rfl)
        · intro ac done u W Sx hR
          have g : Gr w11 W := hR.1
          exact X.val (X.w0 rfl) rfl (X.move rfl (Sx.ev 1 (.slice (some pd8) N lc) (by kernel_rfl))) (hR.step (Gr.refl _) rfl)
        · intro ac done u W Sx hR
          have g : Gr w11 W := hR.1
          exact X.val (X.w0 rfl) rfl (X.move rfl (Sx.ev 11 (.int .i64 (i + 1 + m : Nat)) (by kernel_rfl))) (hR.step (Gr.refl _) rfl)
        · intro ac done u W Sx hR
          have g : Gr w11 W := hR.1
          exact X.val (X.w0 rfl) rfl (X.index rfl (Sx.ev 51 (.slice (some pd8) N lc) (by kernel_rfl)) (Sx.ev 52 (.int .i64 (i + 1 + m : Nat)) (by kernel_rfl)) (X.idx (k := (i + 1 + m)) Try.underlying22 (Try.siz26 _) (by omega) (by omega) (by rw [Nat.mul_one]))) (hR.step (Gr.refl _) rfl)
        · intro ac done u W Sx hR
          have g : Gr w11 W := hR.1
          exact X.val (X.w0 rfl) rfl (X.load rfl (Sx.ev 53 (.pointer (some (pd8.add (i + 1 + m)))) (by kernel_rfl)) (X.ld1 (Try.agg26 _) ((hC.gr g).at 3 rfl))) (hR.step (Gr.refl _) rfl)
        · intro ac done u W Sx hR
          have g : Gr w11 W := hR.1
          refine X.call (X.w0 rfl) (X.enter (F := 70) rfl (X.kc (.func (.func 70) #[] #[]) rfl) (X.a3 (Sx.ev 46 (.agg #[.slice ta tn tc, .slice ca cn cc]) (by kernel_rfl)) (Sx.ev 50 (.slice pa8 sn pq8) (by kernel_rfl)) (Sx.ev 54 (.slice pa13 sn pq13) (by kernel_rfl))) (enters_of Try.func70 (by kernel_rfl) rfl _)) (step_any ta ca pa8 pa13 tn tc cn cc sn pq8 pq13 f ((allV f)[i]?.getD []) ((allV f)[(i + 1 + m)]?.getD []) W (hf.gr g) hok (pi8.gr g) (pi13.gr g) HS HX) ?_
          rintro e W2 ⟨rfl, g2⟩
          exact ⟨_, rfl, X.kn rfl, hR.step g2 rfl⟩
        · intro ac done u W Sx hR
          have g : Gr w11 W := hR.1
          exact X.val (X.w0 rfl) rfl (X.assign rfl (Sx.ev 55 (.int .i64 (stepV f.times ((allV f)[i]?.getD []) ((allV f)[(i + 1 + m)]?.getD []))) (by kernel_rfl))) (hR.step (Gr.refl _) rfl)
        intro ac u w14 hs hd hl ho hR
        have g : Gr w11 w14 := hR.1
        replace F : Fr ac 127 [(0, .agg #[.slice ta tn tc, .slice ca cn cc]), (1, .slice (some pd8) N lc), (2, .slice ya sn yc), (3, .int .i64 bu), (4, .pointer (some ⟨w.heap.size, 0, none⟩)), (8, .slice none 0 0), (9, .slice (some ⟨w3.heap.size, 0, none⟩) N N), (10, .int .i64 i), (11, .int .i64 (i + 1 + m : Nat)), (12, .int .i64 (stepV f.times ((allV f)[i]?.getD []) ((allV f)[(i + 1 + m)]?.getD []))), (21, .bool true), (33, .bool false), (43, .bool true)] := X.fr hs hd hl _ (by kernel_rfl)
        clear hs hd hl ho hR
        replace G := G.trans g
        replace hC := hC.gr g
        replace GA := GA.trans g
        replace hf := hf.gr g
        replace hR := hR.gr g
        replace hy := hy.gr g
        replace pi8 := pi8.gr g
        replace hO := hO.gr g
        replace pi13 := pi13.gr g
        clear g
        refine X.thenN ?_
        refine Y.seq ?_
        refine Y.seq ?_
        refine Y.lit (by kernel_rfl) ?_
        refine Y.pval F (X.w0 rfl) rfl (X.move rfl (F.ev 12 (.int .i64 (stepV f.times ((allV f)[i]?.getD []) ((allV f)[(i + 1 + m)]?.getD []))) (by kernel_rfl))) ?_
        clear F ac
        intro ac F
        refine Y.pval F (X.w0 rfl) rfl (X.binop rfl (F.ev 56 (.int .i64 (stepV f.times ((allV f)[i]?.getD []) ((allV f)[(i + 1 + m)]?.getD []))) (by kernel_rfl)) (X.kc (.int .i64 0) rfl) (X.lssI Try.underlying3 rfl)) ?_
        clear F ac
        intro ac F
        refine Y.pval F (X.w0 rfl) rfl (X.move rfl (F.ev 57 (.bool (decide ((stepV f.times ((allV f)[i]?.getD []) ((allV f)[(i + 1 + m)]?.getD []) : Int) < 0))) (by kernel_rfl))) ?_
        clear F ac
        intro ac F
        cases h15 : decide ((stepV f.times ((allV f)[i]?.getD []) ((allV f)[(i + 1 + m)]?.getD []) : Int) < 0) with
        | false =>
          try rw [h15] at F
          have h15p : ¬ ((stepV f.times ((allV f)[i]?.getD []) ((allV f)[(i + 1 + m)]?.getD []) : Int) < 0) := of_decide_eq_false h15
          refine Y.pval F (X.w1 rfl (F.yl (j := 2) (d := 58) (b := false) rfl (by kernel_rfl))) rfl (X.move rfl (F.ev 12 (.int .i64 (stepV f.times ((allV f)[i]?.getD []) ((allV f)[(i + 1 + m)]?.getD []))) (by kernel_rfl))) ?_
          clear F ac
          intro ac F
          refine Y.pval F (X.w1 rfl (F.yl (j := 2) (d := 58) (b := false) rfl (by kernel_rfl))) rfl (X.move rfl (F.ev 3 (.int .i64 bu) (by kernel_rfl))) ?_
          clear F ac
          intro ac F
          refine Y.pval F (X.w1 rfl (F.yl (j := 2) (d := 58) (b := false) rfl (by kernel_rfl))) rfl (X.binop rfl (F.ev 59 (.int .i64 (stepV f.times ((allV f)[i]?.getD []) ((allV f)[(i + 1 + m)]?.getD []))) (by kernel_rfl)) (F.ev 60 (.int .i64 bu) (by kernel_rfl)) (X.gtrI Try.underlying3 rfl)) ?_
          clear F ac
          intro ac F
          refine Y.pval F (X.w0 rfl) rfl (X.pickF rfl (F.ev 58 (.bool false) (by kernel_rfl)) (F.ev 61 (.bool (decide ((bu : Int) < (stepV f.times ((allV f)[i]?.getD []) ((allV f)[(i + 1 + m)]?.getD []))))) (by kernel_rfl))) ?_
          clear F ac
          intro ac F
          refine Y.pval F (X.w0 rfl) rfl (X.move rfl (F.ev 62 (.bool (decide ((bu : Int) < (stepV f.times ((allV f)[i]?.getD []) ((allV f)[(i + 1 + m)]?.getD []))))) (by kernel_rfl))) ?_
          clear F ac
          intro ac F
          cases h16 : decide ((bu : Int) < (stepV f.times ((allV f)[i]?.getD []) ((allV f)[(i + 1 + m)]?.getD []))) with
          | false =>
            try rw [h16] at F
            have h16p : ¬ ((bu : Int) < (stepV f.times ((allV f)[i]?.getD []) ((allV f)[(i + 1 + m)]?.getD []))) := of_decide_eq_false h16
            refine Y.pval F (X.w1 rfl (F.yl (j := 7) (d := 63) (b := false) rfl (by kernel_rfl))) rfl (X.move rfl (F.ev 9 (.slice (some ⟨w3.heap.size, 0, none⟩) N N) (by kernel_rfl))) ?_
            clear F ac
            intro ac F
            refine Y.pval F (X.w1 rfl (F.yl (j := 7) (d := 63) (b := false) rfl (by kernel_rfl))) rfl (X.move rfl (F.ev 11 (.int .i64 (i + 1 + m : Nat)) (by kernel_rfl))) ?_
            clear F ac
            intro ac F
            refine Y.pval F (X.w1 rfl (F.yl (j := 7) (d := 63) (b := false) rfl (by kernel_rfl))) rfl (X.index rfl (F.ev 64 (.slice (some ⟨w3.heap.size, 0, none⟩) N N) (by kernel_rfl)) (F.ev 65 (.int .i64 (i + 1 + m : Nat)) (by kernel_rfl)) (X.idx (k := (i + 1 + m)) Try.underlying114 (Try.siz117 _) (by omega) (by omega) (addr_add0 _ _))) ?_
            clear F ac
            intro ac F
            refine Y.pval F (X.w1 rfl (F.yl (j := 7) (d := 63) (b := false) rfl (by kernel_rfl))) rfl (X.field rfl (F.ev 66 (.pointer (some ⟨w3.heap.size, (i + 1 + m) * 3, none⟩)) (by kernel_rfl)) (X.fld Try.underlying117 rfl (Try.siz3 _) rfl rfl)) ?_
            clear F ac
            intro ac F
            replace hC : RCells w14 [(⟨w.heap.size, 0, none⟩, .slice ta tn tc), (⟨w.heap.size, 1, none⟩, .slice ca cn cc), (pd8.add i, .slice pa8 sn pq8), (pd8.add (i + 1 + m), .slice pa13 sn pq13), (⟨w3.heap.size, (i + 1 + m) * 3, none⟩, .int .i64 (((roadsV f to bu)[(i + 1 + m)]?.getD Rd.no).steps))] := hC.append ((RCells.cons (by have h := hO.c0 (j := (i + 1 + m)) (by omega); rw [updR_other _ _ (by omega), tabR_in (by omega)] at h; exact h) (RCells.nil _)))
            refine Y.pval F (X.w1 rfl (F.yl (j := 7) (d := 63) (b := false) rfl (by kernel_rfl))) rfl (X.load rfl (F.ev 67 (.pointer (some ⟨w3.heap.size, (i + 1 + m) * 3, none⟩)) (by kernel_rfl)) (X.ld1 (Try.agg3 _) (hC.at 4 rfl))) ?_
            clear F ac
            intro ac F
            refine Y.pval F (X.w1 rfl (F.yl (j := 7) (d := 63) (b := false) rfl (by kernel_rfl))) rfl (X.binop rfl (F.ev 68 (.int .i64 (((roadsV f to bu)[(i + 1 + m)]?.getD Rd.no).steps)) (by kernel_rfl)) (X.kc (.int .i64 0) rfl) (X.lssI Try.underlying3 rfl)) ?_
            clear F ac
            intro ac F
            refine Y.pval F (X.w0 rfl) rfl (X.pickF rfl (F.ev 63 (.bool false) (by kernel_rfl)) (F.ev 69 (.bool (decide ((((roadsV f to bu)[(i + 1 + m)]?.getD Rd.no).steps : Int) < 0))) (by kernel_rfl))) ?_
            clear F ac
            intro ac F
            refine Y.nil ?_
            replace F : Fr ac 127 [(0, .agg #[.slice ta tn tc, .slice ca cn cc]), (1, .slice (some pd8) N lc), (2, .slice ya sn yc), (3, .int .i64 bu), (4, .pointer (some ⟨w.heap.size, 0, none⟩)), (8, .slice none 0 0), (9, .slice (some ⟨w3.heap.size, 0, none⟩) N N), (10, .int .i64 i), (11, .int .i64 (i + 1 + m : Nat)), (12, .int .i64 (stepV f.times ((allV f)[i]?.getD []) ((allV f)[(i + 1 + m)]?.getD []))), (21, .bool true), (33, .bool false), (43, .bool true), (70, .bool (decide ((((roadsV f to bu)[(i + 1 + m)]?.getD Rd.no).steps : Int) < 0)))] := F.sub _ (by kernel_rfl)
            refine X.thenN ?_
            cases h17 : decide ((((roadsV f to bu)[(i + 1 + m)]?.getD Rd.no).steps : Int) < 0) with
            | false =>
              try rw [h17] at F
              have h17p : ¬ ((((roadsV f to bu)[(i + 1 + m)]?.getD Rd.no).steps : Int) < 0) := of_decide_eq_false h17
              refine Y.condF (F.ev 70 (.bool false) (by kernel_rfl)) ?_
              refine Y.skip ?_
              refine X.thenN ?_
              refine Y.seq ?_
              replace hC : RCells w14 [(⟨w.heap.size, 0, none⟩, .slice ta tn tc), (⟨w.heap.size, 1, none⟩, .slice ca cn cc), (pd8.add i, .slice pa8 sn pq8), (pd8.add (i + 1 + m), .slice pa13 sn pq13), (⟨w3.heap.size, (i + 1 + m) * 3, none⟩, .int .i64 (((roadsV f to bu)[(i + 1 + m)]?.getD Rd.no).steps)), (⟨w3.heap.size, (i + 1 + m) * 3 + 1, none⟩, .int .i64 (((roadsV f to bu)[(i + 1 + m)]?.getD Rd.no).time))] := hC.append ((RCells.cons (by have h := hO.c1 (j := (i + 1 + m)) (by omega); rw [updR_other _ _ (by omega), tabR_in (by omega)] at h; exact h) (RCells.nil _)))
              refine Y.regionS F [some (.slice (some ⟨w3.heap.size, 0, none⟩) N N), some (.int .i64 (i + 1 + m : Nat)), some (.pointer (some ⟨w3.heap.size, (i + 1 + m) * 3, none⟩)), some (.pointer (some ⟨w3.heap.size, (i + 1 + m) * 3, none⟩)), some (.int .i64 (((roadsV f to bu)[(i + 1 + m)]?.getD Rd.no).steps)), some (.int .i64 ((((roadsV f to bu)[(i + 1 + m)]?.getD Rd.no).steps : Int) + 1)), some (.slice (some ⟨w3.heap.size, 0, none⟩) N N), some (.int .i64 (i + 1 + m : Nat)), some (.pointer (some ⟨w3.heap.size, (i + 1 + m) * 3, none⟩)), some (.pointer (some ⟨w3.heap.size, (i + 1 + m) * 3 + 1, none⟩)), some (.int .i64 (((roadsV f to bu)[(i + 1 + m)]?.getD Rd.no).time)), some (.int .i64 (stepV f.times ((allV f)[i]?.getD []) ((allV f)[(i + 1 + m)]?.getD []))), some (.int .i64 ((((roadsV f to bu)[(i + 1 + m)]?.getD Rd.no).time : Int) + (stepV f.times ((allV f)[i]?.getD []) ((allV f)[(i + 1 + m)]?.getD [])))), some (.int .i64 (i + 1 + m : Nat)), some (.agg #[.int .i64 ((((roadsV f to bu)[(i + 1 + m)]?.getD Rd.no).steps : Int) + 1), .int .i64 ((((roadsV f to bu)[(i + 1 + m)]?.getD Rd.no).time : Int) + (stepV f.times ((allV f)[i]?.getD []) ((allV f)[(i + 1 + m)]?.getD []))), .int .i64 (i + 1 + m : Nat)]), none, none] [(15, Y.MP.var3 w14.heap.size)] 16 (fun u W => ∃ rb, u 15 = .pointer (some ⟨rb, 0, none⟩) ∧ Gr w14 W ∧ W.cell? ⟨rb, 0, none⟩ = some (.int .i64 ((((roadsV f to bu)[(i + 1 + m)]?.getD Rd.no).steps : Int) + 1)) ∧ W.cell? ⟨rb, 1, none⟩ = some (.int .i64 ((((roadsV f to bu)[(i + 1 + m)]?.getD Rd.no).time : Int) + (stepV f.times ((allV f)[i]?.getD []) ((allV f)[(i + 1 + m)]?.getD [])))) ∧ W.cell? ⟨rb, 2, none⟩ = some (.int .i64 (i + 1 + m : Nat))) rfl ⟨by kernel_rfl, of_decide_eq_true (by kernel_rfl), by kernel_rfl, by kernel_rfl, by kernel_rfl⟩ (of_decide_eq_true (by kernel_rfl)) ⟨?_, ?_, ?_, ?_, ?_, ?_, ?_, ?_, ?_, ?_, ?_, ?_, ?_, ?_, ?_, ?_, ?_, trivial⟩ ?_
              · intro ac done u W Sx hT
                have hs := Sx.no 16 (by kernel_rfl)
                have hR := hT.1 hs
                have g : Gr w14 W := hR.1
                exact X.val (X.w0 rfl) rfl (X.move rfl (Sx.ev 9 (.slice (some ⟨w3.heap.size, 0, none⟩) N N) (by kernel_rfl))) (Y.RT.of hs rfl (hR.step (Gr.refl _) rfl))
              · intro ac done u W Sx hT
                have hs := Sx.no 16 (by kernel_rfl)
                have hR := hT.1 hs
                have g : Gr w14 W := hR.1
                exact X.val (X.w0 rfl) rfl (X.move rfl (Sx.ev 11 (.int .i64 (i + 1 + m : Nat)) (by kernel_rfl))) (Y.RT.of hs rfl (hR.step (Gr.refl _) rfl))
              · intro ac done u W Sx hT
                have hs := Sx.no 16 (by kernel_rfl)
                have hR := hT.1 hs
                have g : Gr w14 W := hR.1
                exact X.val (X.w0 rfl) rfl (X.index rfl (Sx.ev 71 (.slice (some ⟨w3.heap.size, 0, none⟩) N N) (by kernel_rfl)) (Sx.ev 72 (.int .i64 (i + 1 + m : Nat)) (by kernel_rfl)) (X.idx (k := (i + 1 + m)) Try.underlying114 (Try.siz117 _) (by omega) (by omega) (addr_add0 _ _))) (Y.RT.of hs rfl (hR.step (Gr.refl _) rfl))
              · intro ac done u W Sx hT
                have hs := Sx.no 16 (by kernel_rfl)
                have hR := hT.1 hs
                have g : Gr w14 W := hR.1
                exact X.val (X.w0 rfl) rfl (X.field rfl (Sx.ev 73 (.pointer (some ⟨w3.heap.size, (i + 1 + m) * 3, none⟩)) (by kernel_rfl)) (X.fld Try.underlying117 rfl (Try.siz3 _) rfl rfl)) (Y.RT.of hs rfl (hR.step (Gr.refl _) rfl))
              · intro ac done u W Sx hT
                have hs := Sx.no 16 (by kernel_rfl)
                have hR := hT.1 hs
                have g : Gr w14 W := hR.1
                exact X.val (X.w0 rfl) rfl (X.load rfl (Sx.ev 74 (.pointer (some ⟨w3.heap.size, (i + 1 + m) * 3, none⟩)) (by kernel_rfl)) (X.ld1 (Try.agg3 _) ((hC.gr g).at 4 rfl))) (Y.RT.of hs rfl (hR.step (Gr.refl _) rfl))
              · intro ac done u W Sx hT
                have hs := Sx.no 16 (by kernel_rfl)
                have hR := hT.1 hs
                have g : Gr w14 W := hR.1
                exact X.val (X.w0 rfl) rfl (X.binop rfl (Sx.ev 75 (.int .i64 (((roadsV f to bu)[(i + 1 + m)]?.getD Rd.no).steps)) (by kernel_rfl)) (X.kc (.int .i64 1) rfl) (X.addI Try.underlying3 rfl (by omega) (by omega))) (Y.RT.of hs rfl (hR.step (Gr.refl _) rfl))
              · intro ac done u W Sx hT
                have hs := Sx.no 16 (by kernel_rfl)
                have hR := hT.1 hs
                have g : Gr w14 W := hR.1
                exact X.val (X.w0 rfl) rfl (X.move rfl (Sx.ev 9 (.slice (some ⟨w3.heap.size, 0, none⟩) N N) (by kernel_rfl))) (Y.RT.of hs rfl (hR.step (Gr.refl _) rfl))
              · intro ac done u W Sx hT
                have hs := Sx.no 16 (by kernel_rfl)
                have hR := hT.1 hs
                have g : Gr w14 W := hR.1
                exact X.val (X.w0 rfl) rfl (X.move rfl (Sx.ev 11 (.int .i64 (i + 1 + m : Nat)) (by kernel_rfl))) (Y.RT.of hs rfl (hR.step (Gr.refl _) rfl))
              · intro ac done u W Sx hT
                have hs := Sx.no 16 (by kernel_rfl)
                have hR := hT.1 hs
                have g : Gr w14 W := hR.1
                exact X.val (X.w0 rfl) rfl (X.index rfl (Sx.ev 77 (.slice (some ⟨w3.heap.size, 0, none⟩) N N) (by kernel_rfl)) (Sx.ev 78 (.int .i64 (i + 1 + m : Nat)) (by kernel_rfl)) (X.idx (k := (i + 1 + m)) Try.underlying114 (Try.siz117 _) (by omega) (by omega) (addr_add0 _ _))) (Y.RT.of hs rfl (hR.step (Gr.refl _) rfl))
              · intro ac done u W Sx hT
                have hs := Sx.no 16 (by kernel_rfl)
                have hR := hT.1 hs
                have g : Gr w14 W := hR.1
                exact X.val (X.w0 rfl) rfl (X.field rfl (Sx.ev 79 (.pointer (some ⟨w3.heap.size, (i + 1 + m) * 3, none⟩)) (by kernel_rfl)) (X.fld Try.underlying117 rfl (Try.siz3 _) rfl rfl)) (Y.RT.of hs rfl (hR.step (Gr.refl _) rfl))
              · intro ac done u W Sx hT
                have hs := Sx.no 16 (by kernel_rfl)
                have hR := hT.1 hs
                have g : Gr w14 W := hR.1
                exact X.val (X.w0 rfl) rfl (X.load rfl (Sx.ev 80 (.pointer (some ⟨w3.heap.size, (i + 1 + m) * 3 + 1, none⟩)) (by kernel_rfl)) (X.ld1 (Try.agg3 _) ((hC.gr g).at 5 rfl))) (Y.RT.of hs rfl (hR.step (Gr.refl _) rfl))
              · intro ac done u W Sx hT
                have hs := Sx.no 16 (by kernel_rfl)
                have hR := hT.1 hs
                have g : Gr w14 W := hR.1
                exact X.val (X.w0 rfl) rfl (X.move rfl (Sx.ev 12 (.int .i64 (stepV f.times ((allV f)[i]?.getD []) ((allV f)[(i + 1 + m)]?.getD []))) (by kernel_rfl))) (Y.RT.of hs rfl (hR.step (Gr.refl _) rfl))
              · intro ac done u W Sx hT
                have hs := Sx.no 16 (by kernel_rfl)
                have hR := hT.1 hs
                have g : Gr w14 W := hR.1
                exact X.val (X.w0 rfl) rfl (X.binop rfl (Sx.ev 81 (.int .i64 (((roadsV f to bu)[(i + 1 + m)]?.getD Rd.no).time)) (by kernel_rfl)) (Sx.ev 82 (.int .i64 (stepV f.times ((allV f)[i]?.getD []) ((allV f)[(i + 1 + m)]?.getD []))) (by kernel_rfl)) (X.addI Try.underlying3 rfl (by omega) (by omega))) (Y.RT.of hs rfl (hR.step (Gr.refl _) rfl))
              · intro ac done u W Sx hT
                have hs := Sx.no 16 (by kernel_rfl)
                have hR := hT.1 hs
                have g : Gr w14 W := hR.1
                exact X.val (X.w0 rfl) rfl (X.move rfl (Sx.ev 11 (.int .i64 (i + 1 + m : Nat)) (by kernel_rfl))) (Y.RT.of hs rfl (hR.step (Gr.refl _) rfl))
              · intro ac done u W Sx hT
                have hs := Sx.no 16 (by kernel_rfl)
                have hR := hT.1 hs
                have g : Gr w14 W := hR.1
                exact X.val (X.w0 rfl) rfl (Y.bd rfl (Y.b3 (Sx.ev 76 (.int .i64 ((((roadsV f to bu)[(i + 1 + m)]?.getD Rd.no).steps : Int) + 1)) (by kernel_rfl)) (Sx.ev 83 (.int .i64 ((((roadsV f to bu)[(i + 1 + m)]?.getD Rd.no).time : Int) + (stepV f.times ((allV f)[i]?.getD []) ((allV f)[(i + 1 + m)]?.getD [])))) (by kernel_rfl)) (Sx.ev 84 (.int .i64 (i + 1 + m : Nat)) (by kernel_rfl))) (Try.bd117 _ _ _ _)) (Y.RT.of hs rfl (hR.step (Gr.refl _) rfl))
              · intro ac done u W Sx hT
                have hs := Sx.no 16 (by kernel_rfl)
                have hR := hT.1 hs
                have g : Gr w14 W := hR.1
                exact X.valN (X.w0 rfl) rfl (Y.al rfl (Try.new117 _)) (Y.RT.of hs rfl (hR.new (q := Y.MP.var3 w14.heap.size) (Gr.alloc _ _) rfl ⟨_, rfl, Y.var3_new (World.alloc_heap_new _ _), g.size⟩))
              · intro ac done u W Sx hT
                have hR := hT.1 Sx.nd
                have g : Gr w14 W := hR.1
                obtain ⟨rb18, e15, hV18, hB18⟩ := hR.get (i := 15) (Y.MP.var3 w14.heap.size) rfl (Sx.an 15 (by kernel_rfl))
                obtain ⟨W2, hrun, hV2, hon⟩ := hV18.st3 (t := 117) (k := 0) (x := ((((roadsV f to bu)[(i + 1 + m)]?.getD Rd.no).steps : Int) + 1)) (y := ((((roadsV f to bu)[(i + 1 + m)]?.getD Rd.no).time : Int) + (stepV f.times ((allV f)[i]?.getD []) ((allV f)[(i + 1 + m)]?.getD [])))) (z := (i + 1 + m : Nat)) (Try.siz117 _) (by decide)
                exact X.unit (X.w0 rfl) rfl (X.store rfl ((Sx.own 15 13 rfl).trans e15) (Sx.ev 85 (.agg #[.int .i64 ((((roadsV f to bu)[(i + 1 + m)]?.getD Rd.no).steps : Int) + 1), .int .i64 ((((roadsV f to bu)[(i + 1 + m)]?.getD Rd.no).time : Int) + (stepV f.times ((allV f)[i]?.getD []) ((allV f)[(i + 1 + m)]?.getD []))), .int .i64 (i + 1 + m : Nat)]) (by kernel_rfl)) hrun) (Y.RT.fin ⟨_, e15, Y.Only.up g hon hB18, hV2.cell (k := 0) (by decide), hV2.cell (k := 1) (by decide), hV2.cell (k := 2) (by decide)⟩)
              rintro ac u w19 hs hd hl ho ⟨rb20, er20, g, rc0, rc1, rc2⟩
              replace F : Fr ac 127 [(0, .agg #[.slice ta tn tc, .slice ca cn cc]), (1, .slice (some pd8) N lc), (2, .slice ya sn yc), (3, .int .i64 bu), (4, .pointer (some ⟨w.heap.size, 0, none⟩)), (8, .slice none 0 0), (9, .slice (some ⟨w3.heap.size, 0, none⟩) N N), (10, .int .i64 i), (11, .int .i64 (i + 1 + m : Nat)), (12, .int .i64 (stepV f.times ((allV f)[i]?.getD []) ((allV f)[(i + 1 + m)]?.getD []))), (21, .bool true), (33, .bool false), (43, .bool true), (70, .bool false)] := X.fr hs hd hl _ (by kernel_rfl)
              replace F := F.add (ho 15 13 rfl) er20
              replace F : Fr ac 127 [(0, .agg #[.slice ta tn tc, .slice ca cn cc]), (1, .slice (some pd8) N lc), (2, .slice ya sn yc), (3, .int .i64 bu), (4, .pointer (some ⟨w.heap.size, 0, none⟩)), (8, .slice none 0 0), (9, .slice (some ⟨w3.heap.size, 0, none⟩) N N), (10, .int .i64 i), (11, .int .i64 (i + 1 + m : Nat)), (12, .int .i64 (stepV f.times ((allV f)[i]?.getD []) ((allV f)[(i + 1 + m)]?.getD []))), (13, .pointer (some ⟨rb20, 0, none⟩)), (21, .bool true), (33, .bool false), (43, .bool true), (70, .bool false)] := F.sub _ (by kernel_rfl)
              clear hs hd hl ho er20
              replace G := G.trans g
              replace hC := hC.gr g
              replace GA := GA.trans g
              replace hf := hf.gr g
              replace hR := hR.gr g
              replace hy := hy.gr g
              replace pi8 := pi8.gr g
              replace hO := hO.gr g
              replace pi13 := pi13.gr g
              clear g
              replace hC : RCells w19 [(⟨w.heap.size, 0, none⟩, .slice ta tn tc), (⟨w.heap.size, 1, none⟩, .slice ca cn cc), (pd8.add i, .slice pa8 sn pq8), (pd8.add (i + 1 + m), .slice pa13 sn pq13), (⟨w3.heap.size, (i + 1 + m) * 3, none⟩, .int .i64 (((roadsV f to bu)[(i + 1 + m)]?.getD Rd.no).steps)), (⟨w3.heap.size, (i + 1 + m) * 3 + 1, none⟩, .int .i64 (((roadsV f to bu)[(i + 1 + m)]?.getD Rd.no).time)), (⟨rb20, 0, none⟩, .int .i64 ((((roadsV f to bu)[(i + 1 + m)]?.getD Rd.no).steps : Int) + 1)), (⟨rb20, 1, none⟩, .int .i64 ((((roadsV f to bu)[(i + 1 + m)]?.getD Rd.no).time : Int) + (stepV f.times ((allV f)[i]?.getD []) ((allV f)[(i + 1 + m)]?.getD [])))), (⟨rb20, 2, none⟩, .int .i64 (i + 1 + m : Nat))] := hC.append ((RCells.cons rc0 (RCells.cons rc1 (RCells.cons rc2 (RCells.nil _)))))
              clear rc0 rc1 rc2
              refine X.thenN ?_
              refine Y.seq ?_
              replace hC : RCells w19 [(⟨w.heap.size, 0, none⟩, .slice ta tn tc), (⟨w.heap.size, 1, none⟩, .slice ca cn cc), (pd8.add i, .slice pa8 sn pq8), (pd8.add (i + 1 + m), .slice pa13 sn pq13), (⟨w3.heap.size, (i + 1 + m) * 3, none⟩, .int .i64 (((roadsV f to bu)[(i + 1 + m)]?.getD Rd.no).steps)), (⟨w3.heap.size, (i + 1 + m) * 3 + 1, none⟩, .int .i64 (((roadsV f to bu)[(i + 1 + m)]?.getD Rd.no).time)), (⟨rb20, 0, none⟩, .int .i64 ((((roadsV f to bu)[(i + 1 + m)]?.getD Rd.no).steps : Int) + 1)), (⟨rb20, 1, none⟩, .int .i64 ((((roadsV f to bu)[(i + 1 + m)]?.getD Rd.no).time : Int) + (stepV f.times ((allV f)[i]?.getD []) ((allV f)[(i + 1 + m)]?.getD [])))), (⟨rb20, 2, none⟩, .int .i64 (i + 1 + m : Nat)), (⟨w3.heap.size, i * 3, none⟩, .int .i64 ((pfR f to bu i m).steps))] := hC.append ((RCells.cons (by have h := hO.c0 (j := i) (by omega); rw [updR_self] at h; exact h) (RCells.nil _)))
              cases h21 : decide (((pfR f to bu i m).steps : Int) < 0) with
              | false =>
                try rw [h21] at F
                have h21p : ¬ (((pfR f to bu i m).steps : Int) < 0) := of_decide_eq_false h21
                cases h22 : decide (((((roadsV f to bu)[(i + 1 + m)]?.getD Rd.no).steps : Int) + 1 : Int) < ((pfR f to bu i m).steps)) with
                | false =>
                  try rw [h22] at F
                  have h22p : ¬ (((((roadsV f to bu)[(i + 1 + m)]?.getD Rd.no).steps : Int) + 1 : Int) < ((pfR f to bu i m).steps)) := of_decide_eq_false h22
                  cases h23 : (((((roadsV f to bu)[(i + 1 + m)]?.getD Rd.no).steps : Int) + 1 : Int) == ((pfR f to bu i m).steps)) with
                  | false =>
                    try rw [h23] at F
                    have h23p : ¬ ((((roadsV f to bu)[(i + 1 + m)]?.getD Rd.no).steps : Int) + 1 : Int) = ((pfR f to bu i m).steps) := by simpa using h23
                    refine Y.region F [some (.slice (some ⟨w3.heap.size, 0, none⟩) N N), some (.int .i64 i), some (.pointer (some ⟨w3.heap.size, i * 3, none⟩)), some (.pointer (some ⟨w3.heap.size, i * 3, none⟩)), some (.int .i64 ((pfR f to bu i m).steps)), some (.bool false), some (.bool false), some (.pointer (some ⟨rb20, 0, none⟩)), some (.int .i64 ((((roadsV f to bu)[(i + 1 + m)]?.getD Rd.no).steps : Int) + 1)), some (.slice (some ⟨w3.heap.size, 0, none⟩) N N), some (.int .i64 i), some (.pointer (some ⟨w3.heap.size, i * 3, none⟩)), some (.pointer (some ⟨w3.heap.size, i * 3, none⟩)), some (.int .i64 ((pfR f to bu i m).steps)), some (.bool false), some (.bool false), some (.bool false), some (.pointer (some ⟨rb20, 0, none⟩)), some (.int .i64 ((((roadsV f to bu)[(i + 1 + m)]?.getD Rd.no).steps : Int) + 1)), some (.slice (some ⟨w3.heap.size, 0, none⟩) N N), some (.int .i64 i), some (.pointer (some ⟨w3.heap.size, i * 3, none⟩)), some (.pointer (some ⟨w3.heap.size, i * 3, none⟩)), some (.int .i64 ((pfR f to bu i m).steps)), some (.bool false), some (.bool false), none, none, none, none, none, none, none, none, some (.bool false), some (.bool false)] [] rfl ⟨by kernel_rfl, of_decide_eq_true (by kernel_rfl), by kernel_rfl, by kernel_rfl, by kernel_rfl⟩ ⟨?_, ?_, ?_, ?_, ?_, ?_, ?_, ?_, ?_, ?_, ?_, ?_, ?_, ?_, ?_, ?_, ?_, ?_, ?_, ?_, ?_, ?_, ?_, ?_, ?_, ?_, ?_, ?_, ?_, ?_, ?_, ?_, ?_, ?_, ?_, ?_, trivial⟩ ?_
                    · intro ac done u W Sx hR
                      have g : Gr w19 W := hR.1
                      exact X.val (X.w0 rfl) rfl (X.move rfl (Sx.ev 9 (.slice (some ⟨w3.heap.size, 0, none⟩) N N) (by kernel_rfl))) (hR.step (Gr.refl _) rfl)
                    · intro ac done u W Sx hR
                      have g : Gr w19 W := hR.1
                      exact X.val (X.w0 rfl) rfl (X.move rfl (Sx.ev 10 (.int .i64 i) (by kernel_rfl))) (hR.step (Gr.refl _) rfl)
                    · intro ac done u W Sx hR
                      have g : Gr w19 W := hR.1
                      exact X.val (X.w0 rfl) rfl (X.index rfl (Sx.ev 86 (.slice (some ⟨w3.heap.size, 0, none⟩) N N) (by kernel_rfl)) (Sx.ev 87 (.int .i64 i) (by kernel_rfl)) (X.idx (k := i) Try.underlying114 (Try.siz117 _) (by omega) (by omega) (addr_add0 _ _))) (hR.step (Gr.refl _) rfl)
                    · intro ac done u W Sx hR
                      have g : Gr w19 W := hR.1
                      exact X.val (X.w0 rfl) rfl (X.field rfl (Sx.ev 88 (.pointer (some ⟨w3.heap.size, i * 3, none⟩)) (by kernel_rfl)) (X.fld Try.underlying117 rfl (Try.siz3 _) rfl rfl)) (hR.step (Gr.refl _) rfl)
                    · intro ac done u W Sx hR
                      have g : Gr w19 W := hR.1
                      exact X.val (X.w0 rfl) rfl (X.load rfl (Sx.ev 89 (.pointer (some ⟨w3.heap.size, i * 3, none⟩)) (by kernel_rfl)) (X.ld1 (Try.agg3 _) ((hC.gr g).at 9 rfl))) (hR.step (Gr.refl _) rfl)
                    · intro ac done u W Sx hR
                      have g : Gr w19 W := hR.1
                      exact X.val (X.w0 rfl) rfl (X.binop rfl (Sx.ev 90 (.int .i64 ((pfR f to bu i m).steps)) (by kernel_rfl)) (X.kc (.int .i64 0) rfl) (X.lssI Try.underlying3 h21)) (hR.step (Gr.refl _) rfl)
                    · intro ac done u W Sx hR
                      have g : Gr w19 W := hR.1
                      exact X.val (X.w0 rfl) rfl (X.move rfl (Sx.ev 91 (.bool false) (by kernel_rfl))) (hR.step (Gr.refl _) rfl)
                    · intro ac done u W Sx hR
                      have g : Gr w19 W := hR.1
                      exact X.val (X.w1 rfl (Sx.yl 6 92 false (by kernel_rfl) rfl rfl)) rfl (X.field rfl (Sx.ev 13 (.pointer (some ⟨rb20, 0, none⟩)) (by kernel_rfl)) (X.fld Try.underlying117 rfl (Try.siz3 _) rfl rfl)) (hR.step (Gr.refl _) rfl)
                    · intro ac done u W Sx hR
                      have g : Gr w19 W := hR.1
                      exact X.val (X.w1 rfl (Sx.yl 6 92 false (by kernel_rfl) rfl rfl)) rfl (X.load rfl (Sx.ev 93 (.pointer (some ⟨rb20, 0, none⟩)) (by kernel_rfl)) (X.ld1 (Try.agg3 _) ((hC.gr g).at 6 rfl))) (hR.step (Gr.refl _) rfl)
                    · intro ac done u W Sx hR
                      have g : Gr w19 W := hR.1
                      exact X.val (X.w1 rfl (Sx.yl 6 92 false (by kernel_rfl) rfl rfl)) rfl (X.move rfl (Sx.ev 9 (.slice (some ⟨w3.heap.size, 0, none⟩) N N) (by kernel_rfl))) (hR.step (Gr.refl _) rfl)
                    · intro ac done u W Sx hR
                      have g : Gr w19 W := hR.1
                      exact X.val (X.w1 rfl (Sx.yl 6 92 false (by kernel_rfl) rfl rfl)) rfl (X.move rfl (Sx.ev 10 (.int .i64 i) (by kernel_rfl))) (hR.step (Gr.refl _) rfl)
                    · intro ac done u W Sx hR
                      have g : Gr w19 W := hR.1
                      exact X.val (X.w1 rfl (Sx.yl 6 92 false (by kernel_rfl) rfl rfl)) rfl (X.index rfl (Sx.ev 95 (.slice (some ⟨w3.heap.size, 0, none⟩) N N) (by kernel_rfl)) (Sx.ev 96 (.int .i64 i) (by kernel_rfl)) (X.idx (k := i) Try.underlying114 (Try.siz117 _) (by omega) (by omega) (addr_add0 _ _))) (hR.step (Gr.refl _) rfl)
                    · intro ac done u W Sx hR
                      have g : Gr w19 W := hR.1
                      exact X.val (X.w1 rfl (Sx.yl 6 92 false (by kernel_rfl) rfl rfl)) rfl (X.field rfl (Sx.ev 97 (.pointer (some ⟨w3.heap.size, i * 3, none⟩)) (by kernel_rfl)) (X.fld Try.underlying117 rfl (Try.siz3 _) rfl rfl)) (hR.step (Gr.refl _) rfl)
                    · intro ac done u W Sx hR
                      have g : Gr w19 W := hR.1
                      exact X.val (X.w1 rfl (Sx.yl 6 92 false (by kernel_rfl) rfl rfl)) rfl (X.load rfl (Sx.ev 98 (.pointer (some ⟨w3.heap.size, i * 3, none⟩)) (by kernel_rfl)) (X.ld1 (Try.agg3 _) ((hC.gr g).at 9 rfl))) (hR.step (Gr.refl _) rfl)
                    · intro ac done u W Sx hR
                      have g : Gr w19 W := hR.1
                      exact X.val (X.w1 rfl (Sx.yl 6 92 false (by kernel_rfl) rfl rfl)) rfl (X.binop rfl (Sx.ev 94 (.int .i64 ((((roadsV f to bu)[(i + 1 + m)]?.getD Rd.no).steps : Int) + 1)) (by kernel_rfl)) (Sx.ev 99 (.int .i64 ((pfR f to bu i m).steps)) (by kernel_rfl)) (X.lssI Try.underlying3 h22)) (hR.step (Gr.refl _) rfl)
                    · intro ac done u W Sx hR
                      have g : Gr w19 W := hR.1
                      exact X.val (X.w0 rfl) rfl (X.pickF rfl (Sx.ev 92 (.bool false) (by kernel_rfl)) (Sx.ev 100 (.bool false) (by kernel_rfl))) (hR.step (Gr.refl _) rfl)
                    · intro ac done u W Sx hR
                      have g : Gr w19 W := hR.1
                      exact X.val (X.w0 rfl) rfl (X.move rfl (Sx.ev 101 (.bool false) (by kernel_rfl))) (hR.step (Gr.refl _) rfl)
                    · intro ac done u W Sx hR
                      have g : Gr w19 W := hR.1
                      exact X.val (X.w1 rfl (Sx.yl 16 102 false (by kernel_rfl) rfl rfl)) rfl (X.field rfl (Sx.ev 13 (.pointer (some ⟨rb20, 0, none⟩)) (by kernel_rfl)) (X.fld Try.underlying117 rfl (Try.siz3 _) rfl rfl)) (hR.step (Gr.refl _) rfl)
                    · intro ac done u W Sx hR
                      have g : Gr w19 W := hR.1
                      exact X.val (X.w1 rfl (Sx.yl 16 102 false (by kernel_rfl) rfl rfl)) rfl (X.load rfl (Sx.ev 103 (.pointer (some ⟨rb20, 0, none⟩)) (by kernel_rfl)) (X.ld1 (Try.agg3 _) ((hC.gr g).at 6 rfl))) (hR.step (Gr.refl _) rfl)
                    · intro ac done u W Sx hR
                      have g : Gr w19 W := hR.1
                      exact X.val (X.w1 rfl (Sx.yl 16 102 false (by kernel_rfl) rfl rfl)) rfl (X.move rfl (Sx.ev 9 (.slice (some ⟨w3.heap.size, 0, none⟩) N N) (by kernel_rfl))) (hR.step (Gr.refl _) rfl)
                    · intro ac done u W Sx hR
                      have g : Gr w19 W := hR.1
                      exact X.val (X.w1 rfl (Sx.yl 16 102 false (by kernel_rfl) rfl rfl)) rfl (X.move rfl (Sx.ev 10 (.int .i64 i) (by kernel_rfl))) (hR.step (Gr.refl _) rfl)
                    · intro ac done u W Sx hR
                      have g : Gr w19 W := hR.1
                      exact X.val (X.w1 rfl (Sx.yl 16 102 false (by kernel_rfl) rfl rfl)) rfl (X.index rfl (Sx.ev 105 (.slice (some ⟨w3.heap.size, 0, none⟩) N N) (by kernel_rfl)) (Sx.ev 106 (.int .i64 i) (by kernel_rfl)) (X.idx (k := i) Try.underlying114 (Try.siz117 _) (by omega) (by omega) (addr_add0 _ _))) (hR.step (Gr.refl _) rfl)
                    · intro ac done u W Sx hR
                      have g : Gr w19 W := hR.1
                      exact X.val (X.w1 rfl (Sx.yl 16 102 false (by kernel_rfl) rfl rfl)) rfl (X.field rfl (Sx.ev 107 (.pointer (some ⟨w3.heap.size, i * 3, none⟩)) (by kernel_rfl)) (X.fld Try.underlying117 rfl (Try.siz3 _) rfl rfl)) (hR.step (Gr.refl _) rfl)
                    · intro ac done u W Sx hR
                      have g : Gr w19 W := hR.1
                      exact X.val (X.w1 rfl (Sx.yl 16 102 false (by kernel_rfl) rfl rfl)) rfl (X.load rfl (Sx.ev 108 (.pointer (some ⟨w3.heap.size, i * 3, none⟩)) (by kernel_rfl)) (X.ld1 (Try.agg3 _) ((hC.gr g).at 9 rfl))) (hR.step (Gr.refl _) rfl)
                    · intro ac done u W Sx hR
                      have g : Gr w19 W := hR.1
                      exact X.val (X.w1 rfl (Sx.yl 16 102 false (by kernel_rfl) rfl rfl)) rfl (X.binop rfl (Sx.ev 104 (.int .i64 ((((roadsV f to bu)[(i + 1 + m)]?.getD Rd.no).steps : Int) + 1)) (by kernel_rfl)) (Sx.ev 109 (.int .i64 ((pfR f to bu i m).steps)) (by kernel_rfl)) (X.eqlI Try.underlying3 h23)) (hR.step (Gr.refl _) rfl)
                    · intro ac done u W Sx hR
                      have g : Gr w19 W := hR.1
                      exact X.val (X.w1 rfl (Sx.yl 16 102 false (by kernel_rfl) rfl rfl)) rfl (X.move rfl (Sx.ev 110 (.bool false) (by kernel_rfl))) (hR.step (Gr.refl _) rfl)
                    · intro ac done u W Sx hR
                      have g : Gr w19 W := hR.1
                      exact X.skip (X.w2 rfl (Sx.yl 25 111 false (by kernel_rfl) rfl rfl) rfl) rfl (hR.skip rfl)
                    · intro ac done u W Sx hR
                      have g : Gr w19 W := hR.1
                      exact X.skip (X.w2 rfl (Sx.yl 25 111 false (by kernel_rfl) rfl rfl) rfl) rfl (hR.skip rfl)
                    · intro ac done u W Sx hR
                      have g : Gr w19 W := hR.1
                      exact X.skip (X.w2 rfl (Sx.yl 25 111 false (by kernel_rfl) rfl rfl) rfl) rfl (hR.skip rfl)
                    · intro ac done u W Sx hR
                      have g : Gr w19 W := hR.1
                      exact X.skip (X.w2 rfl (Sx.yl 25 111 false (by kernel_rfl) rfl rfl) rfl) rfl (hR.skip rfl)
                    · intro ac done u W Sx hR
                      have g : Gr w19 W := hR.1
                      exact X.skip (X.w2 rfl (Sx.yl 25 111 false (by kernel_rfl) rfl rfl) rfl) rfl (hR.skip rfl)
                    · intro ac done u W Sx hR
                      have g : Gr w19 W := hR.1
                      exact X.skip (X.w2 rfl (Sx.yl 25 111 false (by kernel_rfl) rfl rfl) rfl) rfl (hR.skip rfl)
                    · intro ac done u W Sx hR
                      have g : Gr w19 W := hR.1
                      exact X.skip (X.w2 rfl (Sx.yl 25 111 false (by kernel_rfl) rfl rfl) rfl) rfl (hR.skip rfl)
                    · intro ac done u W Sx hR
                      have g : Gr w19 W := hR.1
                      exact X.skip (X.w2 rfl (Sx.yl 25 111 false (by kernel_rfl) rfl rfl) rfl) rfl (hR.skip rfl)
                    · intro ac done u W Sx hR
                      have g : Gr w19 W := hR.1
                      exact X.val (X.w1 rfl (Sx.yl 16 102 false (by kernel_rfl) rfl rfl)) rfl (X.pickF rfl (Sx.ev 111 (.bool false) (by kernel_rfl)) (X.kc (.bool false) rfl)) (hR.step (Gr.refl _) rfl)
                    · intro ac done u W Sx hR
                      have g : Gr w19 W := hR.1
                      exact X.val (X.w0 rfl) rfl (X.pickF rfl (Sx.ev 102 (.bool false) (by kernel_rfl)) (Sx.ev 120 (.bool false) (by kernel_rfl))) (hR.step (Gr.refl _) rfl)
                    intro ac u w24 hs hd hl ho hR
                    have g : Gr w19 w24 := hR.1
                    replace F : Fr ac 127 [(0, .agg #[.slice ta tn tc, .slice ca cn cc]), (1, .slice (some pd8) N lc), (2, .slice ya sn yc), (3, .int .i64 bu), (4, .pointer (some ⟨w.heap.size, 0, none⟩)), (8, .slice none 0 0), (9, .slice (some ⟨w3.heap.size, 0, none⟩) N N), (10, .int .i64 i), (11, .int .i64 (i + 1 + m : Nat)), (12, .int .i64 (stepV f.times ((allV f)[i]?.getD []) ((allV f)[(i + 1 + m)]?.getD []))), (13, .pointer (some ⟨rb20, 0, none⟩)), (21, .bool true), (33, .bool false), (43, .bool true), (70, .bool false), (121, .bool false)] := X.fr hs hd hl _ (by kernel_rfl)
                    clear hs hd hl ho hR
                    replace G := G.trans g
                    replace hC := hC.gr g
                    replace GA := GA.trans g
                    replace hf := hf.gr g
                    replace hR := hR.gr g
                    replace hy := hy.gr g
                    replace pi8 := pi8.gr g
                    replace hO := hO.gr g
                    replace pi13 := pi13.gr g
                    clear g
                    refine X.thenN ?_
                    refine Y.condF (F.ev 121 (.bool false) (by kernel_rfl)) ?_
                    refine Y.skip ?_
                    refine X.blockN ?_
                    refine X.thenN ?_
                    refine Y.lit (by kernel_rfl) ?_
                    refine Y.pval F (X.w0 rfl) rfl (X.move rfl (F.ev 11 (.int .i64 (i + 1 + m : Nat)) (by kernel_rfl))) ?_
                    clear F ac
                    intro ac F
                    refine Y.pval F (X.w0 rfl) rfl (X.binop rfl (F.ev 44 (.int .i64 (i + 1 + m : Nat)) (by kernel_rfl)) (X.kc (.int .i64 1) rfl) (X.addI Try.underlying3 rfl (by omega) (by omega))) ?_
                    clear F ac
                    intro ac F
                    refine Y.pval F (X.w0 rfl) rfl (X.assign rfl (F.ev 45 (.int .i64 (((i + 1 + m : Nat) : Int) + 1)) (by kernel_rfl))) ?_
                    clear F ac
                    intro ac F
                    refine Y.nil ?_
                    replace F : Fr ac 127 [(0, .agg #[.slice ta tn tc, .slice ca cn cc]), (1, .slice (some pd8) N lc), (2, .slice ya sn yc), (3, .int .i64 bu), (4, .pointer (some ⟨w.heap.size, 0, none⟩)), (8, .slice none 0 0), (9, .slice (some ⟨w3.heap.size, 0, none⟩) N N), (10, .int .i64 i), (11, .int .i64 (((i + 1 + m : Nat) : Int) + 1)), (12, .int .i64 (stepV f.times ((allV f)[i]?.getD []) ((allV f)[(i + 1 + m)]?.getD []))), (13, .pointer (some ⟨rb20, 0, none⟩)), (21, .bool true), (33, .bool false), (43, .bool true), (70, .bool false), (121, .bool false)] := F.sub _ (by kernel_rfl)
                    refine X.thenN ?_
                    refine ⟨_, ?_, m + 1, rfl, GA, by omega, by rw [show pfR f to bu i (m + 1) = pfR f to bu i m from (if_neg (by omega)).trans (if_neg (by omega))]; exact hO, F.sub _ (by kernel_rfl)⟩
                    omega
                  | true =>
                    try rw [h23] at F
                    have h23p : ((((roadsV f to bu)[(i + 1 + m)]?.getD Rd.no).steps : Int) + 1 : Int) = ((pfR f to bu i m).steps) := by simpa using h23
                    replace hC : RCells w19 [(⟨w.heap.size, 0, none⟩, .slice ta tn tc), (⟨w.heap.size, 1, none⟩, .slice ca cn cc), (pd8.add i, .slice pa8 sn pq8), (pd8.add (i + 1 + m), .slice pa13 sn pq13), (⟨w3.heap.size, (i + 1 + m) * 3, none⟩, .int .i64 (((roadsV f to bu)[(i + 1 + m)]?.getD Rd.no).steps)), (⟨w3.heap.size, (i + 1 + m) * 3 + 1, none⟩, .int .i64 (((roadsV f to bu)[(i + 1 + m)]?.getD Rd.no).time)), (⟨rb20, 0, none⟩, .int .i64 ((((roadsV f to bu)[(i + 1 + m)]?.getD Rd.no).steps : Int) + 1)), (⟨rb20, 1, none⟩, .int .i64 ((((roadsV f to bu)[(i + 1 + m)]?.getD Rd.no).time : Int) + (stepV f.times ((allV f)[i]?.getD []) ((allV f)[(i + 1 + m)]?.getD [])))), (⟨rb20, 2, none⟩, .int .i64 (i + 1 + m : Nat)), (⟨w3.heap.size, i * 3, none⟩, .int .i64 ((pfR f to bu i m).steps)), (⟨w3.heap.size, i * 3 + 1, none⟩, .int .i64 ((pfR f to bu i m).time))] := hC.append ((RCells.cons (by have h := hO.c1 (j := i) (by omega); rw [updR_self] at h; exact h) (RCells.nil _)))
                    refine Y.region F [some (.slice (some ⟨w3.heap.size, 0, none⟩) N N), some (.int .i64 i), some (.pointer (some ⟨w3.heap.size, i * 3, none⟩)), some (.pointer (some ⟨w3.heap.size, i * 3, none⟩)), some (.int .i64 ((pfR f to bu i m).steps)), some (.bool false), some (.bool false), some (.pointer (some ⟨rb20, 0, none⟩)), some (.int .i64 ((((roadsV f to bu)[(i + 1 + m)]?.getD Rd.no).steps : Int) + 1)), some (.slice (some ⟨w3.heap.size, 0, none⟩) N N), some (.int .i64 i), some (.pointer (some ⟨w3.heap.size, i * 3, none⟩)), some (.pointer (some ⟨w3.heap.size, i * 3, none⟩)), some (.int .i64 ((pfR f to bu i m).steps)), some (.bool false), some (.bool false), some (.bool false), some (.pointer (some ⟨rb20, 0, none⟩)), some (.int .i64 ((((roadsV f to bu)[(i + 1 + m)]?.getD Rd.no).steps : Int) + 1)), some (.slice (some ⟨w3.heap.size, 0, none⟩) N N), some (.int .i64 i), some (.pointer (some ⟨w3.heap.size, i * 3, none⟩)), some (.pointer (some ⟨w3.heap.size, i * 3, none⟩)), some (.int .i64 ((pfR f to bu i m).steps)), some (.bool true), some (.bool true), some (.pointer (some ⟨rb20, 1, none⟩)), some (.int .i64 ((((roadsV f to bu)[(i + 1 + m)]?.getD Rd.no).time : Int) + (stepV f.times ((allV f)[i]?.getD []) ((allV f)[(i + 1 + m)]?.getD [])))), some (.slice (some ⟨w3.heap.size, 0, none⟩) N N), some (.int .i64 i), some (.pointer (some ⟨w3.heap.size, i * 3, none⟩)), some (.pointer (some ⟨w3.heap.size, i * 3 + 1, none⟩)), some (.int .i64 ((pfR f to bu i m).time)), some (.bool (decide (((((roadsV f to bu)[(i + 1 + m)]?.getD Rd.no).time : Int) + (stepV f.times ((allV f)[i]?.getD []) ((allV f)[(i + 1 + m)]?.getD [])) : Int) < ((pfR f to bu i m).time)))), some (.bool (decide (((((roadsV f to bu)[(i + 1 + m)]?.getD Rd.no).time : Int) + (stepV f.times ((allV f)[i]?.getD []) ((allV f)[(i + 1 + m)]?.getD [])) : Int) < ((pfR f to bu i m).time)))), some (.bool (decide (((((roadsV f to bu)[(i + 1 + m)]?.getD Rd.no).time : Int) + (stepV f.times ((allV f)[i]?.getD []) ((allV f)[(i + 1 + m)]?.getD [])) : Int) < ((pfR f to bu i m).time))))] [] rfl ⟨by kernel_rfl, of_decide_eq_true (by kernel_rfl), by kernel_rfl, by kernel_rfl, by kernel_rfl⟩ ⟨?_, ?_, ?_, ?_, ?_, ?_, ?_, ?_, ?_, ?_, ?_, ?_, ?_, ?_, ?_, ?_, ?_, ?_, ?_, ?_, ?_, ?_, ?_, ?_, ?_, ?_, ?_, ?_, ?_, ?_, ?_, ?_, ?_, ?_, ?_, ?_, trivial⟩ ?_
                    · intro ac done u W Sx hR
                      have g : Gr w19 W := hR.1
                      exact X.val (X.w0 rfl) rfl (X.move rfl (Sx.ev 9 (.slice (some ⟨w3.heap.size, 0, none⟩) N N) (by kernel_rfl))) (hR.step (Gr.refl _) rfl)
                    · intro ac done u W Sx hR
                      have g : Gr w19 W := hR.1
                      exact X.val (X.w0 rfl) rfl (X.move rfl (Sx.ev 10 (.int .i64 i) (by kernel_rfl))) (hR.step (Gr.refl _) rfl)
                    · intro ac done u W Sx hR
                      have g : Gr w19 W := hR.1
                      exact X.val (X.w0 rfl) rfl (X.index rfl (Sx.ev 86 (.slice (some ⟨w3.heap.size, 0, none⟩) N N) (by kernel_rfl)) (Sx.ev 87 (.int .i64 i) (by kernel_rfl)) (X.idx (k := i) Try.underlying114 (Try.siz117 _) (by omega) (by omega) (addr_add0 _ _))) (hR.step (Gr.refl _) rfl)
                    · intro ac done u W Sx hR
                      have g : Gr w19 W := hR.1
                      exact X.val (X.w0 rfl) rfl (X.field rfl (Sx.ev 88 (.pointer (some ⟨w3.heap.size, i * 3, none⟩)) (by kernel_rfl)) (X.fld Try.underlying117 rfl (Try.siz3 _) rfl rfl)) (hR.step (Gr.refl _) rfl)
                    · intro ac done u W Sx hR
                      have g : Gr w19 W := hR.1
                      exact X.val (X.w0 rfl) rfl (X.load rfl (Sx.ev 89 (.pointer (some ⟨w3.heap.size, i * 3, none⟩)) (by kernel_rfl)) (X.ld1 (Try.agg3 _) ((hC.gr g).at 9 rfl))) (hR.step (Gr.refl _) rfl)
                    · intro ac done u W Sx hR
                      have g : Gr w19 W := hR.1
                      exact X.val (X.w0 rfl) rfl (X.binop rfl (Sx.ev 90 (.int .i64 ((pfR f to bu i m).steps)) (by kernel_rfl)) (X.kc (.int .i64 0) rfl) (X.lssI Try.underlying3 h21)) (hR.step (Gr.refl _) rfl)
                    · intro ac done u W Sx hR
                      have g : Gr w19 W := hR.1
                      exact X.val (X.w0 rfl) rfl (X.move rfl (Sx.ev 91 (.bool false) (by kernel_rfl))) (hR.step (Gr.refl _) rfl)
                    · intro ac done u W Sx hR
                      have g : Gr w19 W := hR.1
                      exact X.val (X.w1 rfl (Sx.yl 6 92 false (by kernel_rfl) rfl rfl)) rfl (X.field rfl (Sx.ev 13 (.pointer (some ⟨rb20, 0, none⟩)) (by kernel_rfl)) (X.fld Try.underlying117 rfl (Try.siz3 _) rfl rfl)) (hR.step (Gr.refl _) rfl)
                    · intro ac done u W Sx hR
                      have g : Gr w19 W := hR.1
                      exact X.val (X.w1 rfl (Sx.yl 6 92 false (by kernel_rfl) rfl rfl)) rfl (X.load rfl (Sx.ev 93 (.pointer (some ⟨rb20, 0, none⟩)) (by kernel_rfl)) (X.ld1 (Try.agg3 _) ((hC.gr g).at 6 rfl))) (hR.step (Gr.refl _) rfl)
                    · intro ac done u W Sx hR
                      have g : Gr w19 W := hR.1
                      exact X.val (X.w1 rfl (Sx.yl 6 92 false (by kernel_rfl) rfl rfl)) rfl (X.move rfl (Sx.ev 9 (.slice (some ⟨w3.heap.size, 0, none⟩) N N) (by kernel_rfl))) (hR.step (Gr.refl _) rfl)
                    · intro ac done u W Sx hR
                      have g : Gr w19 W := hR.1
                      exact X.val (X.w1 rfl (Sx.yl 6 92 false (by kernel_rfl) rfl rfl)) rfl (X.move rfl (Sx.ev 10 (.int .i64 i) (by kernel_rfl))) (hR.step (Gr.refl _) rfl)
                    · intro ac done u W Sx hR
                      have g : Gr w19 W := hR.1
                      exact X.val (X.w1 rfl (Sx.yl 6 92 false (by kernel_rfl) rfl rfl)) rfl (X.index rfl (Sx.ev 95 (.slice (some ⟨w3.heap.size, 0, none⟩) N N) (by kernel_rfl)) (Sx.ev 96 (.int .i64 i) (by kernel_rfl)) (X.idx (k := i) Try.underlying114 (Try.siz117 _) (by omega) (by omega) (addr_add0 _ _))) (hR.step (Gr.refl _) rfl)
                    · intro ac done u W Sx hR
                      have g : Gr w19 W := hR.1
                      exact X.val (X.w1 rfl (Sx.yl 6 92 false (by kernel_rfl) rfl rfl)) rfl (X.field rfl (Sx.ev 97 (.pointer (some ⟨w3.heap.size, i * 3, none⟩)) (by kernel_rfl)) (X.fld Try.underlying117 rfl (Try.siz3 _) rfl rfl)) (hR.step (Gr.refl _) rfl)
                    · intro ac done u W Sx hR
                      have g : Gr w19 W := hR.1
                      exact X.val (X.w1 rfl (Sx.yl 6 92 false (by kernel_rfl) rfl rfl)) rfl (X.load rfl (Sx.ev 98 (.pointer (some ⟨w3.heap.size, i * 3, none⟩)) (by kernel_rfl)) (X.ld1 (Try.agg3 _) ((hC.gr g).at 9 rfl))) (hR.step (Gr.refl _) rfl)
                    · intro ac done u W Sx hR
                      have g : Gr w19 W := hR.1
                      exact X.val (X.w1 rfl (Sx.yl 6 92 false (by kernel_rfl) rfl rfl)) rfl (X.binop rfl (Sx.ev 94 (.int .i64 ((((roadsV f to bu)[(i + 1 + m)]?.getD Rd.no).steps : Int) + 1)) (by kernel_rfl)) (Sx.ev 99 (.int .i64 ((pfR f to bu i m).steps)) (by kernel_rfl)) (X.lssI Try.underlying3 h22)) (hR.step (Gr.refl _) rfl)
                    · intro ac done u W Sx hR
                      have g : Gr w19 W := hR.1
                      exact X.val (X.w0 rfl) rfl (X.pickF rfl (Sx.ev 92 (.bool false) (by kernel_rfl)) (Sx.ev 100 (.bool false) (by kernel_rfl))) (hR.step (Gr.refl _) rfl)
                    · intro ac done u W Sx hR
                      have g : Gr w19 W := hR.1
                      exact X.val (X.w0 rfl) rfl (X.move rfl (Sx.ev 101 (.bool false) (by kernel_rfl))) (hR.step (Gr.refl _) rfl)
                    · intro ac done u W Sx hR
                      have g : Gr w19 W := hR.1
                      exact X.val (X.w1 rfl (Sx.yl 16 102 false (by kernel_rfl) rfl rfl)) rfl (X.field rfl (Sx.ev 13 (.pointer (some ⟨rb20, 0, none⟩)) (by kernel_rfl)) (X.fld Try.underlying117 rfl (Try.siz3 _) rfl rfl)) (hR.step (Gr.refl _) rfl)
                    · intro ac done u W Sx hR
                      have g : Gr w19 W := hR.1
                      exact X.val (X.w1 rfl (Sx.yl 16 102 false (by kernel_rfl) rfl rfl)) rfl (X.load rfl (Sx.ev 103 (.pointer (some ⟨rb20, 0, none⟩)) (by kernel_rfl)) (X.ld1 (Try.agg3 _) ((hC.gr g).at 6 rfl))) (hR.step (Gr.refl _) rfl)
                    · intro ac done u W Sx hR
                      have g : Gr w19 W := hR.1
                      exact X.val (X.w1 rfl (Sx.yl 16 102 false (by kernel_rfl) rfl rfl)) rfl (X.move rfl (Sx.ev 9 (.slice (some ⟨w3.heap.size, 0, none⟩) N N) (by kernel_rfl))) (hR.step (Gr.refl _) rfl)
                    · intro ac done u W Sx hR
                      have g : Gr w19 W := hR.1
                      exact X.val (X.w1 rfl (Sx.yl 16 102 false (by kernel_rfl) rfl rfl)) rfl (X.move rfl (Sx.ev 10 (.int .i64 i) (by kernel_rfl))) (hR.step (Gr.refl _) rfl)
                    · intro ac done u W Sx hR
                      have g : Gr w19 W := hR.1
                      exact X.val (X.w1 rfl (Sx.yl 16 102 false (by kernel_rfl) rfl rfl)) rfl (X.index rfl (Sx.ev 105 (.slice (some ⟨w3.heap.size, 0, none⟩) N N) (by kernel_rfl)) (Sx.ev 106 (.int .i64 i) (by kernel_rfl)) (X.idx (k := i) Try.underlying114 (Try.siz117 _) (by omega) (by omega) (addr_add0 _ _))) (hR.step (Gr.refl _) rfl)
                    · intro ac done u W Sx hR
                      have g : Gr w19 W := hR.1
                      exact X.val (X.w1 rfl (Sx.yl 16 102 false (by kernel_rfl) rfl rfl)) rfl (X.field rfl (Sx.ev 107 (.pointer (some ⟨w3.heap.size, i * 3, none⟩)) (by kernel_rfl)) (X.fld Try.underlying117 rfl (Try.siz3 _) rfl rfl)) (hR.step (Gr.refl _) rfl)
                    · intro ac done u W Sx hR
                      have g : Gr w19 W := hR.1
                      exact X.val (X.w1 rfl (Sx.yl 16 102 false (by kernel_rfl) rfl rfl)) rfl (X.load rfl (Sx.ev 108 (.pointer (some ⟨w3.heap.size, i * 3, none⟩)) (by kernel_rfl)) (X.ld1 (Try.agg3 _) ((hC.gr g).at 9 rfl))) (hR.step (Gr.refl _) rfl)
                    · intro ac done u W Sx hR
                      have g : Gr w19 W := hR.1
                      exact X.val (X.w1 rfl (Sx.yl 16 102 false (by kernel_rfl) rfl rfl)) rfl (X.binop rfl (Sx.ev 104 (.int .i64 ((((roadsV f to bu)[(i + 1 + m)]?.getD Rd.no).steps : Int) + 1)) (by kernel_rfl)) (Sx.ev 109 (.int .i64 ((pfR f to bu i m).steps)) (by kernel_rfl)) (X.eqlI Try.underlying3 h23)) (hR.step (Gr.refl _) rfl)
                    · intro ac done u W Sx hR
                      have g : Gr w19 W := hR.1
                      exact X.val (X.w1 rfl (Sx.yl 16 102 false (by kernel_rfl) rfl rfl)) rfl (X.move rfl (Sx.ev 110 (.bool true) (by kernel_rfl))) (hR.step (Gr.refl _) rfl)
                    · intro ac done u W Sx hR
                      have g : Gr w19 W := hR.1
                      exact X.val (X.w1 rfl (Sx.yl 25 111 true (by kernel_rfl) rfl rfl)) rfl (X.field rfl (Sx.ev 13 (.pointer (some ⟨rb20, 0, none⟩)) (by kernel_rfl)) (X.fld Try.underlying117 rfl (Try.siz3 _) rfl rfl)) (hR.step (Gr.refl _) rfl)
                    · intro ac done u W Sx hR
                      have g : Gr w19 W := hR.1
                      exact X.val (X.w1 rfl (Sx.yl 25 111 true (by kernel_rfl) rfl rfl)) rfl (X.load rfl (Sx.ev 112 (.pointer (some ⟨rb20, 1, none⟩)) (by kernel_rfl)) (X.ld1 (Try.agg3 _) ((hC.gr g).at 7 rfl))) (hR.step (Gr.refl _) rfl)
                    · intro ac done u W Sx hR
                      have g : Gr w19 W := hR.1
                      exact X.val (X.w1 rfl (Sx.yl 25 111 true (by kernel_rfl) rfl rfl)) rfl (X.move rfl (Sx.ev 9 (.slice (some ⟨w3.heap.size, 0, none⟩) N N) (by kernel_rfl))) (hR.step (Gr.refl _) rfl)
                    · intro ac done u W Sx hR
                      have g : Gr w19 W := hR.1
                      exact X.val (X.w1 rfl (Sx.yl 25 111 true (by kernel_rfl) rfl rfl)) rfl (X.move rfl (Sx.ev 10 (.int .i64 i) (by kernel_rfl))) (hR.step (Gr.refl _) rfl)
                    · intro ac done u W Sx hR
                      have g : Gr w19 W := hR.1
                      exact X.val (X.w1 rfl (Sx.yl 25 111 true (by kernel_rfl) rfl rfl)) rfl (X.index rfl (Sx.ev 114 (.slice (some ⟨w3.heap.size, 0, none⟩) N N) (by kernel_rfl)) (Sx.ev 115 (.int .i64 i) (by kernel_rfl)) (X.idx (k := i) Try.underlying114 (Try.siz117 _) (by omega) (by omega) (addr_add0 _ _))) (hR.step (Gr.refl _) rfl)
                    · intro ac done u W Sx hR
                      have g : Gr w19 W := hR.1
                      exact X.val (X.w1 rfl (Sx.yl 25 111 true (by kernel_rfl) rfl rfl)) rfl (X.field rfl (Sx.ev 116 (.pointer (some ⟨w3.heap.size, i * 3, none⟩)) (by kernel_rfl)) (X.fld Try.underlying117 rfl (Try.siz3 _) rfl rfl)) (hR.step (Gr.refl _) rfl)
                    · intro ac done u W Sx hR
                      have g : Gr w19 W := hR.1
                      exact X.val (X.w1 rfl (Sx.yl 25 111 true (by kernel_rfl) rfl rfl)) rfl (X.load rfl (Sx.ev 117 (.pointer (some ⟨w3.heap.size, i * 3 + 1, none⟩)) (by kernel_rfl)) (X.ld1 (Try.agg3 _) ((hC.gr g).at 10 rfl))) (hR.step (Gr.refl _) rfl)
                    · intro ac done u W Sx hR
                      have g : Gr w19 W := hR.1
                      exact X.val (X.w1 rfl (Sx.yl 25 111 true (by kernel_rfl) rfl rfl)) rfl (X.binop rfl (Sx.ev 113 (.int .i64 ((((roadsV f to bu)[(i + 1 + m)]?.getD Rd.no).time : Int) + (stepV f.times ((allV f)[i]?.getD []) ((allV f)[(i + 1 + m)]?.getD [])))) (by kernel_rfl)) (Sx.ev 118 (.int .i64 ((pfR f to bu i m).time)) (by kernel_rfl)) (X.lssI Try.underlying3 rfl)) (hR.step (Gr.refl _) rfl)
                    · intro ac done u W Sx hR
                      have g : Gr w19 W := hR.1
                      exact X.val (X.w1 rfl (Sx.yl 16 102 false (by kernel_rfl) rfl rfl)) rfl (X.pickT rfl (Sx.ev 111 (.bool true) (by kernel_rfl)) (Sx.ev 119 (.bool (decide (((((roadsV f to bu)[(i + 1 + m)]?.getD Rd.no).time : Int) + (stepV f.times ((allV f)[i]?.getD []) ((allV f)[(i + 1 + m)]?.getD [])) : Int) < ((pfR f to bu i m).time)))) (by kernel_rfl))) (hR.step (Gr.refl _) rfl)
                    · intro ac done u W Sx hR
                      have g : Gr w19 W := hR.1
                      exact X.val (X.w0 rfl) rfl (X.pickF rfl (Sx.ev 102 (.bool false) (by kernel_rfl)) (Sx.ev 120 (.bool (decide (((((roadsV f to bu)[(i + 1 + m)]?.getD Rd.no).time : Int) + (stepV f.times ((allV f)[i]?.getD []) ((allV f)[(i + 1 + m)]?.getD [])) : Int) < ((pfR f to bu i m).time)))) (by kernel_rfl))) (hR.step (Gr.refl _) rfl)
                    intro ac u w25 hs hd hl ho hR
                    have g : Gr w19 w25 := hR.1
                    replace F : Fr ac 127 [(0, .agg #[.slice ta tn tc, .slice ca cn cc]), (1, .slice (some pd8) N lc), (2, .slice ya sn yc), (3, .int .i64 bu), (4, .pointer (some ⟨w.heap.size, 0, none⟩)), (8, .slice none 0 0), (9, .slice (some ⟨w3.heap.size, 0, none⟩) N N), (10, .int .i64 i), (11, .int .i64 (i + 1 + m : Nat)), (12, .int .i64 (stepV f.times ((allV f)[i]?.getD []) ((allV f)[(i + 1 + m)]?.getD []))), (13, .pointer (some ⟨rb20, 0, none⟩)), (21, .bool true), (33, .bool false), (43, .bool true), (70, .bool false), (121, .bool (decide (((((roadsV f to bu)[(i + 1 + m)]?.getD Rd.no).time : Int) + (stepV f.times ((allV f)[i]?.getD []) ((allV f)[(i + 1 + m)]?.getD [])) : Int) < ((pfR f to bu i m).time))))] := X.fr hs hd hl _ (by kernel_rfl)
                    clear hs hd hl ho hR
                    replace G := G.trans g
                    replace hC := hC.gr g
                    replace GA := GA.trans g
                    replace hf := hf.gr g
                    replace hR := hR.gr g
                    replace hy := hy.gr g
                    replace pi8 := pi8.gr g
                    replace hO := hO.gr g
                    replace pi13 := pi13.gr g
                    clear g
                    refine X.thenN ?_
                    cases h26 : decide (((((roadsV f to bu)[(i + 1 + m)]?.getD Rd.no).time : Int) + (stepV f.times ((allV f)[i]?.getD []) ((allV f)[(i + 1 + m)]?.getD [])) : Int) < ((pfR f to bu i m).time)) with
                    | false =>
                      try rw [h26] at F
                      have h26p : ¬ (((((roadsV f to bu)[(i + 1 + m)]?.getD Rd.no).time : Int) + (stepV f.times ((allV f)[i]?.getD []) ((allV f)[(i + 1 + m)]?.getD [])) : Int) < ((pfR f to bu i m).time)) := of_decide_eq_false h26
                      refine Y.condF (F.ev 121 (.bool false) (by kernel_rfl)) ?_
                      refine Y.skip ?_
                      refine X.blockN ?_
                      refine X.thenN ?_
                      refine Y.lit (by kernel_rfl) ?_
                      refine Y.pval F (X.w0 rfl) rfl (X.move rfl (F.ev 11 (.int .i64 (i + 1 + m : Nat)) (by kernel_rfl))) ?_
                      clear F ac
                      intro ac F
                      refine Y.pval F (X.w0 rfl) rfl (X.binop rfl (F.ev 44 (.int .i64 (i + 1 + m : Nat)) (by kernel_rfl)) (X.kc (.int .i64 1) rfl) (X.addI Try.underlying3 rfl (by omega) (by omega))) ?_
                      clear F ac
                      intro ac F
                      refine Y.pval F (X.w0 rfl) rfl (X.assign rfl (F.ev 45 (.int .i64 (((i + 1 + m : Nat) : Int) + 1)) (by kernel_rfl))) ?_
                      clear F ac
                      intro ac F
                      refine Y.nil ?_
                      replace F : Fr ac 127 [(0, .agg #[.slice ta tn tc, .slice ca cn cc]), (1, .slice (some pd8) N lc), (2, .slice ya sn yc), (3, .int .i64 bu), (4, .pointer (some ⟨w.heap.size, 0, none⟩)), (8, .slice none 0 0), (9, .slice (some ⟨w3.heap.size, 0, none⟩) N N), (10, .int .i64 i), (11, .int .i64 (((i + 1 + m : Nat) : Int) + 1)), (12, .int .i64 (stepV f.times ((allV f)[i]?.getD []) ((allV f)[(i + 1 + m)]?.getD []))), (13, .pointer (some ⟨rb20, 0, none⟩)), (21, .bool true), (33, .bool false), (43, .bool true), (70, .bool false), (121, .bool false)] := F.sub _ (by kernel_rfl)
                      refine X.thenN ?_
                      refine ⟨_, ?_, m + 1, rfl, GA, by omega, by rw [show pfR f to bu i (m + 1) = pfR f to bu i m from (if_neg (by omega)).trans (if_neg (by omega))]; exact hO, F.sub _ (by kernel_rfl)⟩
                      omega
                    | true =>
                      try rw [h26] at F
                      have h26p : (((((roadsV f to bu)[(i + 1 + m)]?.getD Rd.no).time : Int) + (stepV f.times ((allV f)[i]?.getD []) ((allV f)[(i + 1 + m)]?.getD [])) : Int) < ((pfR f to bu i m).time)) := of_decide_eq_true h26
                      refine Y.condT (F.ev 121 (.bool true) (by kernel_rfl)) ?_
                      refine Y.lit (by kernel_rfl) ?_
                      refine Y.pval F (X.w0 rfl) rfl (X.move rfl (F.ev 9 (.slice (some ⟨w3.heap.size, 0, none⟩) N N) (by kernel_rfl))) ?_
                      clear F ac
                      intro ac F
                      refine Y.pval F (X.w0 rfl) rfl (X.move rfl (F.ev 10 (.int .i64 i) (by kernel_rfl))) ?_
                      clear F ac
                      intro ac F
                      refine Y.pval F (X.w0 rfl) rfl (X.load rfl (F.ev 13 (.pointer (some ⟨rb20, 0, none⟩)) (by kernel_rfl)) (X.ldN (Try.agg117 _) (Try.siz117 _) (Y.c3 (hC.at 6 rfl) (hC.at 7 rfl) (hC.at 8 rfl)))) ?_
                      clear F ac
                      intro ac F
                      refine Y.pval F (X.w0 rfl) rfl (X.index rfl (F.ev 122 (.slice (some ⟨w3.heap.size, 0, none⟩) N N) (by kernel_rfl)) (F.ev 123 (.int .i64 i) (by kernel_rfl)) (X.idx (k := i) Try.underlying114 (Try.siz117 _) (by omega) (by omega) (addr_add0 _ _))) ?_
                      clear F ac
                      intro ac F
                      obtain ⟨w27, hrun, hO2, hon⟩ := hO.st (j := i) ((((roadsV f to bu)[(i + 1 + m)]?.getD Rd.no).steps : Int) + 1) ((((roadsV f to bu)[(i + 1 + m)]?.getD Rd.no).time : Int) + (stepV f.times ((allV f)[i]?.getD []) ((allV f)[(i + 1 + m)]?.getD []))) (i + 1 + m : Nat) (by omega)
                      refine Y.punit F (X.w0 rfl) rfl (X.store rfl (F.ev 125 (.pointer (some ⟨w3.heap.size, i * 3, none⟩)) (by kernel_rfl)) (F.ev 124 (.agg #[.int .i64 ((((roadsV f to bu)[(i + 1 + m)]?.getD Rd.no).steps : Int) + 1), .int .i64 ((((roadsV f to bu)[(i + 1 + m)]?.getD Rd.no).time : Int) + (stepV f.times ((allV f)[i]?.getD []) ((allV f)[(i + 1 + m)]?.getD []))), .int .i64 (i + 1 + m : Nat)]) (by kernel_rfl)) hrun) ?_
                      clear F ac hrun
                      intro ac F
                      replace GA := Y.Only.up GA hon hb0
                      replace G := G0A.trans GA
                      replace hf := hfA.gr GA
                      replace hR := hRA.gr GA
                      replace hy := hyA.gr GA
                      replace pi8 := pi8A.gr GA
                      replace pi13 := pi13A.gr GA
                      replace hC := hCA.gr GA
                      have hO := hO2
                      clear hO2 hon
                      rw [updR_twice] at hO
                      refine Y.nil ?_
                      replace F : Fr ac 127 [(0, .agg #[.slice ta tn tc, .slice ca cn cc]), (1, .slice (some pd8) N lc), (2, .slice ya sn yc), (3, .int .i64 bu), (4, .pointer (some ⟨w.heap.size, 0, none⟩)), (8, .slice none 0 0), (9, .slice (some ⟨w3.heap.size, 0, none⟩) N N), (10, .int .i64 i), (11, .int .i64 (i + 1 + m : Nat)), (12, .int .i64 (stepV f.times ((allV f)[i]?.getD []) ((allV f)[(i + 1 + m)]?.getD []))), (13, .pointer (some ⟨rb20, 0, none⟩)), (21, .bool true), (33, .bool false), (43, .bool true), (70, .bool false), (121, .bool true)] := F.sub _ (by kernel_rfl)
                      refine X.blockN ?_
                      refine X.thenN ?_
                      refine Y.lit (by kernel_rfl) ?_
                      refine Y.pval F (X.w0 rfl) rfl (X.move rfl (F.ev 11 (.int .i64 (i + 1 + m : Nat)) (by kernel_rfl))) ?_
                      clear F ac
                      intro ac F
                      refine Y.pval F (X.w0 rfl) rfl (X.binop rfl (F.ev 44 (.int .i64 (i + 1 + m : Nat)) (by kernel_rfl)) (X.kc (.int .i64 1) rfl) (X.addI Try.underlying3 rfl (by omega) (by omega))) ?_
                      clear F ac
                      intro ac F
                      refine Y.pval F (X.w0 rfl) rfl (X.assign rfl (F.ev 45 (.int .i64 (((i + 1 + m : Nat) : Int) + 1)) (by kernel_rfl))) ?_
                      clear F ac
                      intro ac F
                      refine Y.nil ?_
                      replace F : Fr ac 127 [(0, .agg #[.slice ta tn tc, .slice ca cn cc]), (1, .slice (some pd8) N lc), (2, .slice ya sn yc), (3, .int .i64 bu), (4, .pointer (some ⟨w.heap.size, 0, none⟩)), (8, .slice none 0 0), (9, .slice (some ⟨w3.heap.size, 0, none⟩) N N), (10, .int .i64 i), (11, .int .i64 (((i + 1 + m : Nat) : Int) + 1)), (12, .int .i64 (stepV f.times ((allV f)[i]?.getD []) ((allV f)[(i + 1 + m)]?.getD []))), (13, .pointer (some ⟨rb20, 0, none⟩)), (21, .bool true), (33, .bool false), (43, .bool true), (70, .bool false), (121, .bool true)] := F.sub _ (by kernel_rfl)
                      refine X.thenN ?_
                      refine ⟨_, ?_, m + 1, rfl, GA, by omega, by rw [show pfR f to bu i (m + 1) = (⟨((((roadsV f to bu)[(i + 1 + m)]?.getD Rd.no).steps : Int) + 1), ((((roadsV f to bu)[(i + 1 + m)]?.getD Rd.no).time : Int) + (stepV f.times ((allV f)[i]?.getD []) ((allV f)[(i + 1 + m)]?.getD []))), (i + 1 + m : Nat)⟩ : Rd) from (if_neg (by omega)).trans (if_pos (by omega))]; exact hO, F.sub _ (by kernel_rfl)⟩
                      omega
                | true =>
                  try rw [h22] at F
                  have h22p : (((((roadsV f to bu)[(i + 1 + m)]?.getD Rd.no).steps : Int) + 1 : Int) < ((pfR f to bu i m).steps)) := of_decide_eq_true h22
                  refine Y.region F [some (.slice (some ⟨w3.heap.size, 0, none⟩) N N), some (.int .i64 i), some (.pointer (some ⟨w3.heap.size, i * 3, none⟩)), some (.pointer (some ⟨w3.heap.size, i * 3, none⟩)), some (.int .i64 ((pfR f to bu i m).steps)), some (.bool false), some (.bool false), some (.pointer (some ⟨rb20, 0, none⟩)), some (.int .i64 ((((roadsV f to bu)[(i + 1 + m)]?.getD Rd.no).steps : Int) + 1)), some (.slice (some ⟨w3.heap.size, 0, none⟩) N N), some (.int .i64 i), some (.pointer (some ⟨w3.heap.size, i * 3, none⟩)), some (.pointer (some ⟨w3.heap.size, i * 3, none⟩)), some (.int .i64 ((pfR f to bu i m).steps)), some (.bool true), some (.bool true), some (.bool true), none, none, none, none, none, none, none, none, none, none, none, none, none, none, none, none, none, none, some (.bool true)] [(25, Y.MP.un)] rfl ⟨by kernel_rfl, of_decide_eq_true (by kernel_rfl), by kernel_rfl, by kernel_rfl, by kernel_rfl⟩ ⟨?_, ?_, ?_, ?_, ?_, ?_, ?_, ?_, ?_, ?_, ?_, ?_, ?_, ?_, ?_, ?_, ?_, ?_, ?_, ?_, ?_, ?_, ?_, ?_, ?_, ?_, ?_, ?_, ?_, ?_, ?_, ?_, ?_, ?_, ?_, ?_, trivial⟩ ?_
                  · intro ac done u W Sx hR
                    have g : Gr w19 W := hR.1
                    exact X.val (X.w0 rfl) rfl (X.move rfl (Sx.ev 9 (.slice (some ⟨w3.heap.size, 0, none⟩) N N) (by kernel_rfl))) (hR.step (Gr.refl _) rfl)
                  · intro ac done u W Sx hR
                    have g : Gr w19 W := hR.1
                    exact X.val (X.w0 rfl) rfl (X.move rfl (Sx.ev 10 (.int .i64 i) (by kernel_rfl))) (hR.step (Gr.refl _) rfl)
                  · intro ac done u W Sx hR
                    have g : Gr w19 W := hR.1
                    exact X.val (X.w0 rfl) rfl (X.index rfl (Sx.ev 86 (.slice (some ⟨w3.heap.size, 0, none⟩) N N) (by kernel_rfl)) (Sx.ev 87 (.int .i64 i) (by kernel_rfl)) (X.idx (k := i) Try.underlying114 (Try.siz117 _) (by omega) (by omega) (addr_add0 _ _))) (hR.step (Gr.refl _) rfl)
                  · intro ac done u W Sx hR
                    have g : Gr w19 W := hR.1
                    exact X.val (X.w0 rfl) rfl (X.field rfl (Sx.ev 88 (.pointer (some ⟨w3.heap.size, i * 3, none⟩)) (by kernel_rfl)) (X.fld Try.underlying117 rfl (Try.siz3 _) rfl rfl)) (hR.step (Gr.refl _) rfl)
                  · intro ac done u W Sx hR
                    have g : Gr w19 W := hR.1
                    exact X.val (X.w0 rfl) rfl (X.load rfl (Sx.ev 89 (.pointer (some ⟨w3.heap.size, i * 3, none⟩)) (by kernel_rfl)) (X.ld1 (Try.agg3 _) ((hC.gr g).at 9 rfl))) (hR.step (Gr.refl _) rfl)
                  · intro ac done u W Sx hR
                    have g : Gr w19 W := hR.1
                    exact X.val (X.w0 rfl) rfl (X.binop rfl (Sx.ev 90 (.int .i64 ((pfR f to bu i m).steps)) (by kernel_rfl)) (X.kc (.int .i64 0) rfl) (X.lssI Try.underlying3 h21)) (hR.step (Gr.refl _) rfl)
                  · intro ac done u W Sx hR
                    have g : Gr w19 W := hR.1
                    exact X.val (X.w0 rfl) rfl (X.move rfl (Sx.ev 91 (.bool false) (by kernel_rfl))) (hR.step (Gr.refl _) rfl)
                  · intro ac done u W Sx hR
                    have g : Gr w19 W := hR.1
                    exact X.val (X.w1 rfl (Sx.yl 6 92 false (by kernel_rfl) rfl rfl)) rfl (X.field rfl (Sx.ev 13 (.pointer (some ⟨rb20, 0, none⟩)) (by kernel_rfl)) (X.fld Try.underlying117 rfl (Try.siz3 _) rfl rfl)) (hR.step (Gr.refl _) rfl)
                  · intro ac done u W Sx hR
                    have g : Gr w19 W := hR.1
                    exact X.val (X.w1 rfl (Sx.yl 6 92 false (by kernel_rfl) rfl rfl)) rfl (X.load rfl (Sx.ev 93 (.pointer (some ⟨rb20, 0, none⟩)) (by kernel_rfl)) (X.ld1 (Try.agg3 _) ((hC.gr g).at 6 rfl))) (hR.step (Gr.refl _) rfl)
                  · intro ac done u W Sx hR
                    have g : Gr w19 W := hR.1
                    exact X.val (X.w1 rfl (Sx.yl 6 92 false (by kernel_rfl) rfl rfl)) rfl (X.move rfl (Sx.ev 9 (.slice (some ⟨w3.heap.size, 0, none⟩) N N) (by kernel_rfl))) (hR.step (Gr.refl _) rfl)
                  · intro ac done u W Sx hR
                    have g : Gr w19 W := hR.1
                    exact X.val (X.w1 rfl (Sx.yl 6 92 false (by kernel_rfl) rfl rfl)) rfl (X.move rfl (Sx.ev 10 (.int .i64 i) (by kernel_rfl))) (hR.step (Gr.refl _) rfl)
                  · intro ac done u W Sx hR
                    have g : Gr w19 W := hR.1
                    exact X.val (X.w1 rfl (Sx.yl 6 92 false (by kernel_rfl) rfl rfl)) rfl (X.index rfl (Sx.ev 95 (.slice (some ⟨w3.heap.size, 0, none⟩) N N) (by kernel_rfl)) (Sx.ev 96 (.int .i64 i) (by kernel_rfl)) (X.idx (k := i) Try.underlying114 (Try.siz117 _) (by omega) (by omega) (addr_add0 _ _))) (hR.step (Gr.refl _) rfl)
                  · intro ac done u W Sx hR
                    have g : Gr w19 W := hR.1
                    exact X.val (X.w1 rfl (Sx.yl 6 92 false (by kernel_rfl) rfl rfl)) rfl (X.field rfl (Sx.ev 97 (.pointer (some ⟨w3.heap.size, i * 3, none⟩)) (by kernel_rfl)) (X.fld Try.underlying117 rfl (Try.siz3 _) rfl rfl)) (hR.step (Gr.refl _) rfl)
                  · intro ac done u W Sx hR
                    have g : Gr w19 W := hR.1
                    exact X.val (X.w1 rfl (Sx.yl 6 92 false (by kernel_rfl) rfl rfl)) rfl (X.load rfl (Sx.ev 98 (.pointer (some ⟨w3.heap.size, i * 3, none⟩)) (by kernel_rfl)) (X.ld1 (Try.agg3 _) ((hC.gr g).at 9 rfl))) (hR.step (Gr.refl _) rfl)
                  · intro ac done u W Sx hR
                    have g : Gr w19 W := hR.1
                    exact X.val (X.w1 rfl (Sx.yl 6 92 false (by kernel_rfl) rfl rfl)) rfl (X.binop rfl (Sx.ev 94 (.int .i64 ((((roadsV f to bu)[(i + 1 + m)]?.getD Rd.no).steps : Int) + 1)) (by kernel_rfl)) (Sx.ev 99 (.int .i64 ((pfR f to bu i m).steps)) (by kernel_rfl)) (X.lssI Try.underlying3 h22)) (hR.step (Gr.refl _) rfl)
                  · intro ac done u W Sx hR
                    have g : Gr w19 W := hR.1
                    exact X.val (X.w0 rfl) rfl (X.pickF rfl (Sx.ev 92 (.bool false) (by kernel_rfl)) (Sx.ev 100 (.bool true) (by kernel_rfl))) (hR.step (Gr.refl _) rfl)
                  · intro ac done u W Sx hR
                    have g : Gr w19 W := hR.1
                    exact X.val (X.w0 rfl) rfl (X.move rfl (Sx.ev 101 (.bool true) (by kernel_rfl))) (hR.step (Gr.refl _) rfl)
                  · intro ac done u W Sx hR
                    have g : Gr w19 W := hR.1
                    exact X.skip (X.w2 rfl (Sx.yl 16 102 true (by kernel_rfl) rfl rfl) rfl) rfl (hR.skip rfl)
                  · intro ac done u W Sx hR
                    have g : Gr w19 W := hR.1
                    exact X.skip (X.w2 rfl (Sx.yl 16 102 true (by kernel_rfl) rfl rfl) rfl) rfl (hR.skip rfl)
                  · intro ac done u W Sx hR
                    have g : Gr w19 W := hR.1
                    exact X.skip (X.w2 rfl (Sx.yl 16 102 true (by kernel_rfl) rfl rfl) rfl) rfl (hR.skip rfl)
                  · intro ac done u W Sx hR
                    have g : Gr w19 W := hR.1
                    exact X.skip (X.w2 rfl (Sx.yl 16 102 true (by kernel_rfl) rfl rfl) rfl) rfl (hR.skip rfl)
                  · intro ac done u W Sx hR
                    have g : Gr w19 W := hR.1
                    exact X.skip (X.w2 rfl (Sx.yl 16 102 true (by kernel_rfl) rfl rfl) rfl) rfl (hR.skip rfl)
                  · intro ac done u W Sx hR
                    have g : Gr w19 W := hR.1
                    exact X.skip (X.w2 rfl (Sx.yl 16 102 true (by kernel_rfl) rfl rfl) rfl) rfl (hR.skip rfl)
                  · intro ac done u W Sx hR
                    have g : Gr w19 W := hR.1
                    exact X.skip (X.w2 rfl (Sx.yl 16 102 true (by kernel_rfl) rfl rfl) rfl) rfl (hR.skip rfl)
                  · intro ac done u W Sx hR
                    have g : Gr w19 W := hR.1
                    exact X.skip (X.w2 rfl (Sx.yl 16 102 true (by kernel_rfl) rfl rfl) rfl) rfl (hR.skip rfl)
                  · intro ac done u W Sx hR
                    have g : Gr w19 W := hR.1
                    exact X.skip (X.w2 rfl (Sx.yl 16 102 true (by kernel_rfl) rfl rfl) rfl) rfl (hR.skipU rfl)
                  · intro ac done u W Sx hR
                    have g : Gr w19 W := hR.1
                    have e25 := hR.get (i := 25) Y.MP.un rfl (Sx.an 25 (by kernel_rfl))
                    exact X.skip (Y.w3 rfl (Sx.yn (j := 25) (d := 111) rfl e25)) rfl (hR.skip rfl)
                  · intro ac done u W Sx hR
                    have g : Gr w19 W := hR.1
                    have e25 := hR.get (i := 25) Y.MP.un rfl (Sx.an 25 (by kernel_rfl))
                    exact X.skip (Y.w3 rfl (Sx.yn (j := 25) (d := 111) rfl e25)) rfl (hR.skip rfl)
                  · intro ac done u W Sx hR
                    have g : Gr w19 W := hR.1
                    have e25 := hR.get (i := 25) Y.MP.un rfl (Sx.an 25 (by kernel_rfl))
                    exact X.skip (Y.w3 rfl (Sx.yn (j := 25) (d := 111) rfl e25)) rfl (hR.skip rfl)
                  · intro ac done u W Sx hR
                    have g : Gr w19 W := hR.1
                    have e25 := hR.get (i := 25) Y.MP.un rfl (Sx.an 25 (by kernel_rfl))
                    exact X.skip (Y.w3 rfl (Sx.yn (j := 25) (d := 111) rfl e25)) rfl (hR.skip rfl)
                  · intro ac done u W Sx hR
                    have g : Gr w19 W := hR.1
                    have e25 := hR.get (i := 25) Y.MP.un rfl (Sx.an 25 (by kernel_rfl))
                    exact X.skip (Y.w3 rfl (Sx.yn (j := 25) (d := 111) rfl e25)) rfl (hR.skip rfl)
                  · intro ac done u W Sx hR
                    have g : Gr w19 W := hR.1
                    have e25 := hR.get (i := 25) Y.MP.un rfl (Sx.an 25 (by kernel_rfl))
                    exact X.skip (Y.w3 rfl (Sx.yn (j := 25) (d := 111) rfl e25)) rfl (hR.skip rfl)
                  · intro ac done u W Sx hR
                    have g : Gr w19 W := hR.1
                    have e25 := hR.get (i := 25) Y.MP.un rfl (Sx.an 25 (by kernel_rfl))
                    exact X.skip (Y.w3 rfl (Sx.yn (j := 25) (d := 111) rfl e25)) rfl (hR.skip rfl)
                  · intro ac done u W Sx hR
                    have g : Gr w19 W := hR.1
                    have e25 := hR.get (i := 25) Y.MP.un rfl (Sx.an 25 (by kernel_rfl))
                    exact X.skip (Y.w3 rfl (Sx.yn (j := 25) (d := 111) rfl e25)) rfl (hR.skip rfl)
                  · intro ac done u W Sx hR
                    have g : Gr w19 W := hR.1
                    exact X.skip (X.w2 rfl (Sx.yl 16 102 true (by kernel_rfl) rfl rfl) rfl) rfl (hR.skip rfl)
                  · intro ac done u W Sx hR
                    have g : Gr w19 W := hR.1
                    exact X.val (X.w0 rfl) rfl (X.pickT rfl (Sx.ev 102 (.bool true) (by kernel_rfl)) (X.kc (.bool true) rfl)) (hR.step (Gr.refl _) rfl)
                  intro ac u w28 hs hd hl ho hR
                  have g : Gr w19 w28 := hR.1
                  replace F : Fr ac 127 [(0, .agg #[.slice ta tn tc, .slice ca cn cc]), (1, .slice (some pd8) N lc), (2, .slice ya sn yc), (3, .int .i64 bu), (4, .pointer (some ⟨w.heap.size, 0, none⟩)), (8, .slice none 0 0), (9, .slice (some ⟨w3.heap.size, 0, none⟩) N N), (10, .int .i64 i), (11, .int .i64 (i + 1 + m : Nat)), (12, .int .i64 (stepV f.times ((allV f)[i]?.getD []) ((allV f)[(i + 1 + m)]?.getD []))), (13, .pointer (some ⟨rb20, 0, none⟩)), (21, .bool true), (33, .bool false), (43, .bool true), (70, .bool false), (121, .bool true)] := X.fr hs hd hl _ (by kernel_rfl)
                  clear hs hd hl ho hR
                  replace G := G.trans g
                  replace hC := hC.gr g
                  replace GA := GA.trans g
                  replace hf := hf.gr g
                  replace hR := hR.gr g
                  replace hy := hy.gr g
                  replace pi8 := pi8.gr g
                  replace hO := hO.gr g
                  replace pi13 := pi13.gr g
                  clear g
                  refine X.thenN ?_
                  refine Y.condT (F.ev 121 (.bool true) (by kernel_rfl)) ?_
                  refine Y.lit (by kernel_rfl) ?_
                  refine Y.pval F (X.w0 rfl) rfl (X.move rfl (F.ev 9 (.slice (some ⟨w3.heap.size, 0, none⟩) N N) (by kernel_rfl))) ?_
                  clear F ac
                  intro ac F
                  refine Y.pval F (X.w0 rfl) rfl (X.move rfl (F.ev 10 (.int .i64 i) (by kernel_rfl))) ?_
                  clear F ac
                  intro ac F
                  refine Y.pval F (X.w0 rfl) rfl (X.load rfl (F.ev 13 (.pointer (some ⟨rb20, 0, none⟩)) (by kernel_rfl)) (X.ldN (Try.agg117 _) (Try.siz117 _) (Y.c3 (hC.at 6 rfl) (hC.at 7 rfl) (hC.at 8 rfl)))) ?_
                  clear F ac
                  intro ac F
                  refine Y.pval F (X.w0 rfl) rfl (X.index rfl (F.ev 122 (.slice (some ⟨w3.heap.size, 0, none⟩) N N) (by kernel_rfl)) (F.ev 123 (.int .i64 i) (by kernel_rfl)) (X.idx (k := i) Try.underlying114 (Try.siz117 _) (by omega) (by omega) (addr_add0 _ _))) ?_
                  clear F ac
                  intro ac F
                  obtain ⟨w29, hrun, hO2, hon⟩ := hO.st (j := i) ((((roadsV f to bu)[(i + 1 + m)]?.getD Rd.no).steps : Int) + 1) ((((roadsV f to bu)[(i + 1 + m)]?.getD Rd.no).time : Int) + (stepV f.times ((allV f)[i]?.getD []) ((allV f)[(i + 1 + m)]?.getD []))) (i + 1 + m : Nat) (by omega)
                  refine Y.punit F (X.w0 rfl) rfl (X.store rfl (F.ev 125 (.pointer (some ⟨w3.heap.size, i * 3, none⟩)) (by kernel_rfl)) (F.ev 124 (.agg #[.int .i64 ((((roadsV f to bu)[(i + 1 + m)]?.getD Rd.no).steps : Int) + 1), .int .i64 ((((roadsV f to bu)[(i + 1 + m)]?.getD Rd.no).time : Int) + (stepV f.times ((allV f)[i]?.getD []) ((allV f)[(i + 1 + m)]?.getD []))), .int .i64 (i + 1 + m : Nat)]) (by kernel_rfl)) hrun) ?_
                  clear F ac hrun
                  intro ac F
                  replace GA := Y.Only.up GA hon hb0
                  replace G := G0A.trans GA
                  replace hf := hfA.gr GA
                  replace hR := hRA.gr GA
                  replace hy := hyA.gr GA
                  replace pi8 := pi8A.gr GA
                  replace pi13 := pi13A.gr GA
                  replace hC := hCA.gr GA
                  have hO := hO2
                  clear hO2 hon
                  rw [updR_twice] at hO
                  refine Y.nil ?_
                  replace F : Fr ac 127 [(0, .agg #[.slice ta tn tc, .slice ca cn cc]), (1, .slice (some pd8) N lc), (2, .slice ya sn yc), (3, .int .i64 bu), (4, .pointer (some ⟨w.heap.size, 0, none⟩)), (8, .slice none 0 0), (9, .slice (some ⟨w3.heap.size, 0, none⟩) N N), (10, .int .i64 i), (11, .int .i64 (i + 1 + m : Nat)), (12, .int .i64 (stepV f.times ((allV f)[i]?.getD []) ((allV f)[(i + 1 + m)]?.getD []))), (13, .pointer (some ⟨rb20, 0, none⟩)), (21, .bool true), (33, .bool false), (43, .bool true), (70, .bool false), (121, .bool true)] := F.sub _ (by kernel_rfl)
                  refine X.blockN ?_
                  refine X.thenN ?_
                  refine Y.lit (by kernel_rfl) ?_
                  refine Y.pval F (X.w0 rfl) rfl (X.move rfl (F.ev 11 (.int .i64 (i + 1 + m : Nat)) (by kernel_rfl))) ?_
                  clear F ac
                  intro ac F
                  refine Y.pval F (X.w0 rfl) rfl (X.binop rfl (F.ev 44 (.int .i64 (i + 1 + m : Nat)) (by kernel_rfl)) (X.kc (.int .i64 1) rfl) (X.addI Try.underlying3 rfl (by omega) (by omega))) ?_
                  clear F ac
                  intro ac F
                  refine Y.pval F (X.w0 rfl) rfl (X.assign rfl (F.ev 45 (.int .i64 (((i + 1 + m : Nat) : Int) + 1)) (by kernel_rfl))) ?_
                  clear F ac
                  intro ac F
                  refine Y.nil ?_
                  replace F : Fr ac 127 [(0, .agg #[.slice ta tn tc, .slice ca cn cc]), (1, .slice (some pd8) N lc), (2, .slice ya sn yc), (3, .int .i64 bu), (4, .pointer (some ⟨w.heap.size, 0, none⟩)), (8, .slice none 0 0), (9, .slice (some ⟨w3.heap.size, 0, none⟩) N N), (10, .int .i64 i), (11, .int .i64 (((i + 1 + m : Nat) : Int) + 1)), (12, .int .i64 (stepV f.times ((allV f)[i]?.getD []) ((allV f)[(i + 1 + m)]?.getD []))), (13, .pointer (some ⟨rb20, 0, none⟩)), (21, .bool true), (33, .bool false), (43, .bool true), (70, .bool false), (121, .bool true)] := F.sub _ (by kernel_rfl)
                  refine X.thenN ?_
                  refine ⟨_, ?_, m + 1, rfl, GA, by omega, by rw [show pfR f to bu i (m + 1) = (⟨((((roadsV f to bu)[(i + 1 + m)]?.getD Rd.no).steps : Int) + 1), ((((roadsV f to bu)[(i + 1 + m)]?.getD Rd.no).time : Int) + (stepV f.times ((allV f)[i]?.getD []) ((allV f)[(i + 1 + m)]?.getD []))), (i + 1 + m : Nat)⟩ : Rd) from (if_neg (by omega)).trans (if_pos (by omega))]; exact hO, F.sub _ (by kernel_rfl)⟩
                  omega
              | true =>
                try rw [h21] at F
                have h21p : (((pfR f to bu i m).steps : Int) < 0) := of_decide_eq_true h21
                refine Y.region F [some (.slice (some ⟨w3.heap.size, 0, none⟩) N N), some (.int .i64 i), some (.pointer (some ⟨w3.heap.size, i * 3, none⟩)), some (.pointer (some ⟨w3.heap.size, i * 3, none⟩)), some (.int .i64 ((pfR f to bu i m).steps)), some (.bool true), some (.bool true), none, none, none, none, none, none, none, none, some (.bool true), some (.bool true), none, none, none, none, none, none, none, none, none, none, none, none, none, none, none, none, none, none, some (.bool true)] [(25, Y.MP.un)] rfl ⟨by kernel_rfl, of_decide_eq_true (by kernel_rfl), by kernel_rfl, by kernel_rfl, by kernel_rfl⟩ ⟨?_, ?_, ?_, ?_, ?_, ?_, ?_, ?_, ?_, ?_, ?_, ?_, ?_, ?_, ?_, ?_, ?_, ?_, ?_, ?_, ?_, ?_, ?_, ?_, ?_, ?_, ?_, ?_, ?_, ?_, ?_, ?_, ?_, ?_, ?_, ?_, trivial⟩ ?_
                · intro ac done u W Sx hR
                  have g : Gr w19 W := hR.1
                  exact X.val (X.w0 rfl) rfl (X.move rfl (Sx.ev 9 (.slice (some ⟨w3.heap.size, 0, none⟩) N N) (by kernel_rfl))) (hR.step (Gr.refl _) rfl)
                · intro ac done u W Sx hR
                  have g : Gr w19 W := hR.1
                  exact X.val (X.w0 rfl) rfl (X.move rfl (Sx.ev 10 (.int .i64 i) (by kernel_rfl))) (hR.step (Gr.refl _) rfl)
                · intro ac done u W Sx hR
                  have g : Gr w19 W := hR.1
                  exact X.val (X.w0 rfl) rfl (X.index rfl (Sx.ev 86 (.slice (some ⟨w3.heap.size, 0, none⟩) N N) (by kernel_rfl)) (Sx.ev 87 (.int .i64 i) (by kernel_rfl)) (X.idx (k := i) Try.underlying114 (Try.siz117 _) (by omega) (by omega) (addr_add0 _ _))) (hR.step (Gr.refl _) rfl)
                · intro ac done u W Sx hR
                  have g : Gr w19 W := hR.1
                  exact X.val (X.w0 rfl) rfl (X.field rfl (Sx.ev 88 (.pointer (some ⟨w3.heap.size, i * 3, none⟩)) (by kernel_rfl)) (X.fld Try.underlying117 rfl (Try.siz3 _) rfl rfl)) (hR.step (Gr.refl _) rfl)
                · intro ac done u W Sx hR
                  have g : Gr w19 W := hR.1
                  exact X.val (X.w0 rfl) rfl (X.load rfl (Sx.ev 89 (.pointer (some ⟨w3.heap.size, i * 3, none⟩)) (by kernel_rfl)) (X.ld1 (Try.agg3 _) ((hC.gr g).at 9 rfl))) (hR.step (Gr.refl _) rfl)
                · intro ac done u W Sx hR
                  have g : Gr w19 W := hR.1
                  exact X.val (X.w0 rfl) rfl (X.binop rfl (Sx.ev 90 (.int .i64 ((pfR f to bu i m).steps)) (by kernel_rfl)) (X.kc (.int .i64 0) rfl) (X.lssI Try.underlying3 h21)) (hR.step (Gr.refl _) rfl)
                · intro ac done u W Sx hR
                  have g : Gr w19 W := hR.1
                  exact X.val (X.w0 rfl) rfl (X.move rfl (Sx.ev 91 (.bool true) (by kernel_rfl))) (hR.step (Gr.refl _) rfl)
                · intro ac done u W Sx hR
                  have g : Gr w19 W := hR.1
                  exact X.skip (X.w2 rfl (Sx.yl 6 92 true (by kernel_rfl) rfl rfl) rfl) rfl (hR.skip rfl)
                · intro ac done u W Sx hR
                  have g : Gr w19 W := hR.1
                  exact X.skip (X.w2 rfl (Sx.yl 6 92 true (by kernel_rfl) rfl rfl) rfl) rfl (hR.skip rfl)
                · intro ac done u W Sx hR
                  have g : Gr w19 W := hR.1
                  exact X.skip (X.w2 rfl (Sx.yl 6 92 true (by kernel_rfl) rfl rfl) rfl) rfl (hR.skip rfl)
                · intro ac done u W Sx hR
                  have g : Gr w19 W := hR.1
                  exact X.skip (X.w2 rfl (Sx.yl 6 92 true (by kernel_rfl) rfl rfl) rfl) rfl (hR.skip rfl)
                · intro ac done u W Sx hR
                  have g : Gr w19 W := hR.1
                  exact X.skip (X.w2 rfl (Sx.yl 6 92 true (by kernel_rfl) rfl rfl) rfl) rfl (hR.skip rfl)
                · intro ac done u W Sx hR
                  have g : Gr w19 W := hR.1
                  exact X.skip (X.w2 rfl (Sx.yl 6 92 true (by kernel_rfl) rfl rfl) rfl) rfl (hR.skip rfl)
                · intro ac done u W Sx hR
                  have g : Gr w19 W := hR.1
                  exact X.skip (X.w2 rfl (Sx.yl 6 92 true (by kernel_rfl) rfl rfl) rfl) rfl (hR.skip rfl)
                · intro ac done u W Sx hR
                  have g : Gr w19 W := hR.1
                  exact X.skip (X.w2 rfl (Sx.yl 6 92 true (by kernel_rfl) rfl rfl) rfl) rfl (hR.skip rfl)
                · intro ac done u W Sx hR
                  have g : Gr w19 W := hR.1
                  exact X.val (X.w0 rfl) rfl (X.pickT rfl (Sx.ev 92 (.bool true) (by kernel_rfl)) (X.kc (.bool true) rfl)) (hR.step (Gr.refl _) rfl)
                · intro ac done u W Sx hR
                  have g : Gr w19 W := hR.1
                  exact X.val (X.w0 rfl) rfl (X.move rfl (Sx.ev 101 (.bool true) (by kernel_rfl))) (hR.step (Gr.refl _) rfl)
                · intro ac done u W Sx hR
                  have g : Gr w19 W := hR.1
                  exact X.skip (X.w2 rfl (Sx.yl 16 102 true (by kernel_rfl) rfl rfl) rfl) rfl (hR.skip rfl)
                · intro ac done u W Sx hR
                  have g : Gr w19 W := hR.1
                  exact X.skip (X.w2 rfl (Sx.yl 16 102 true (by kernel_rfl) rfl rfl) rfl) rfl (hR.skip rfl)
                · intro ac done u W Sx hR
                  have g : Gr w19 W := hR.1
                  exact X.skip (X.w2 rfl (Sx.yl 16 102 true (by kernel_rfl) rfl rfl) rfl) rfl (hR.skip rfl)
                · intro ac done u W Sx hR
                  have g : Gr w19 W := hR.1
                  exact X.skip (X.w2 rfl (Sx.yl 16 102 true (by kernel_rfl) rfl rfl) rfl) rfl (hR.skip rfl)
                · intro ac done u W Sx hR
                  have g : Gr w19 W := hR.1
                  exact X.skip (X.w2 rfl (Sx.yl 16 102 true (by kernel_rfl) rfl rfl) rfl) rfl (hR.skip rfl)
                · intro ac done u W Sx hR
                  have g : Gr w19 W := hR.1
                  exact X.skip (X.w2 rfl (Sx.yl 16 102 true (by kernel_rfl) rfl rfl) rfl) rfl (hR.skip rfl)
                · intro ac done u W Sx hR
                  have g : Gr w19 W := hR.1
                  exact X.skip (X.w2 rfl (Sx.yl 16 102 true (by kernel_rfl) rfl rfl) rfl) rfl (hR.skip rfl)
                · intro ac done u W Sx hR
                  have g : Gr w19 W := hR.1
                  exact X.skip (X.w2 rfl (Sx.yl 16 102 true (by kernel_rfl) rfl rfl) rfl) rfl (hR.skip rfl)
                · intro ac done u W Sx hR
                  have g : Gr w19 W := hR.1
                  exact X.skip (X.w2 rfl (Sx.yl 16 102 true (by kernel_rfl) rfl rfl) rfl) rfl (hR.skipU rfl)
                · intro ac done u W Sx hR
                  have g : Gr w19 W := hR.1
                  have e25 := hR.get (i := 25) Y.MP.un rfl (Sx.an 25 (by kernel_rfl))
                  exact X.skip (Y.w3 rfl (Sx.yn (j := 25) (d := 111) rfl e25)) rfl (hR.skip rfl)
                · intro ac done u W Sx hR
                  have g : Gr w19 W := hR.1
                  have e25 := hR.get (i := 25) Y.MP.un rfl (Sx.an 25 (by kernel_rfl))
                  exact X.skip (Y.w3 rfl (Sx.yn (j := 25) (d := 111) rfl e25)) rfl (hR.skip rfl)
                · intro ac done u W Sx hR
                  have g : Gr w19 W := hR.1
                  have e25 := hR.get (i := 25) Y.MP.un rfl (Sx.an 25 (by kernel_rfl))
                  exact X.skip (Y.w3 rfl (Sx.yn (j := 25) (d := 111) rfl e25)) rfl (hR.skip rfl)
                · intro ac done u W Sx hR
                  have g : Gr w19 W := hR.1
                  have e25 := hR.get (i := 25) Y.MP.un rfl (Sx.an 25 (by kernel_rfl))
                  exact X.skip (Y.w3 rfl (Sx.yn (j := 25) (d := 111) rfl e25)) rfl (hR.skip rfl)
                · intro ac done u W Sx hR
                  have g : Gr w19 W := hR.1
                  have e25 := hR.get (i := 25) Y.MP.un rfl (Sx.an 25 (by kernel_rfl))
                  exact X.skip (Y.w3 rfl (Sx.yn (j := 25) (d := 111) rfl e25)) rfl (hR.skip rfl)
                · intro ac done u W Sx hR
                  have g : Gr w19 W := hR.1
                  have e25 := hR.get (i := 25) Y.MP.un rfl (Sx.an 25 (by kernel_rfl))
                  exact X.skip (Y.w3 rfl (Sx.yn (j := 25) (d := 111) rfl e25)) rfl (hR.skip rfl)
                · intro ac done u W Sx hR
                  have g : Gr w19 W := hR.1
                  have e25 := hR.get (i := 25) Y.MP.un rfl (Sx.an 25 (by kernel_rfl))
                  exact X.skip (Y.w3 rfl (Sx.yn (j := 25) (d := 111) rfl e25)) rfl (hR.skip rfl)
                · intro ac done u W Sx hR
                  have g : Gr w19 W := hR.1
                  have e25 := hR.get (i := 25) Y.MP.un rfl (Sx.an 25 (by kernel_rfl))
                  exact X.skip (Y.w3 rfl (Sx.yn (j := 25) (d := 111) rfl e25)) rfl (hR.skip rfl)
                · intro ac done u W Sx hR
                  have g : Gr w19 W := hR.1
                  exact X.skip (X.w2 rfl (Sx.yl 16 102 true (by kernel_rfl) rfl rfl) rfl) rfl (hR.skip rfl)
                · intro ac done u W Sx hR
                  have g : Gr w19 W := hR.1
                  exact X.val (X.w0 rfl) rfl (X.pickT rfl (Sx.ev 102 (.bool true) (by kernel_rfl)) (X.kc (.bool true) rfl)) (hR.step (Gr.refl _) rfl)
                intro ac u w30 hs hd hl ho hR
                have g : Gr w19 w30 := hR.1
                replace F : Fr ac 127 [(0, .agg #[.slice ta tn tc, .slice ca cn cc]), (1, .slice (some pd8) N lc), (2, .slice ya sn yc), (3, .int .i64 bu), (4, .pointer (some ⟨w.heap.size, 0, none⟩)), (8, .slice none 0 0), (9, .slice (some ⟨w3.heap.size, 0, none⟩) N N), (10, .int .i64 i), (11, .int .i64 (i + 1 + m : Nat)), (12, .int .i64 (stepV f.times ((allV f)[i]?.getD []) ((allV f)[(i + 1 + m)]?.getD []))), (13, .pointer (some ⟨rb20, 0, none⟩)), (21, .bool true), (33, .bool false), (43, .bool true), (70, .bool false), (121, .bool true)] := X.fr hs hd hl _ (by kernel_rfl)
                clear hs hd hl ho hR
                replace G := G.trans g
                replace hC := hC.gr g
                replace GA := GA.trans g
                replace hf := hf.gr g
                replace hR := hR.gr g
                replace hy := hy.gr g
                replace pi8 := pi8.gr g
                replace hO := hO.gr g
                replace pi13 := pi13.gr g
                clear g
                refine X.thenN ?_
                refine Y.condT (F.ev 121 (.bool true) (by kernel_rfl)) ?_
                refine Y.lit (by kernel_rfl) ?_
                refine Y.pval F (X.w0 rfl) rfl (X.move rfl (F.ev 9 (.slice (some ⟨w3.heap.size, 0, none⟩) N N) (by kernel_rfl))) ?_
                clear F ac
                intro ac F
                refine Y.pval F (X.w0 rfl) rfl (X.move rfl (F.ev 10 (.int .i64 i) (by kernel_rfl))) ?_
                clear F ac
                intro ac F
                refine Y.pval F (X.w0 rfl) rfl (X.load rfl (F.ev 13 (.pointer (some ⟨rb20, 0, none⟩)) (by kernel_rfl)) (X.ldN (Try.agg117 _) (Try.siz117 _) (Y.c3 (hC.at 6 rfl) (hC.at 7 rfl) (hC.at 8 rfl)))) ?_
                clear F ac
                intro ac F
                refine Y.pval F (X.w0 rfl) rfl (X.index rfl (F.ev 122 (.slice (some ⟨w3.heap.size, 0, none⟩) N N) (by kernel_rfl)) (F.ev 123 (.int .i64 i) (by kernel_rfl)) (X.idx (k := i) Try.underlying114 (Try.siz117 _) (by omega) (by omega) (addr_add0 _ _))) ?_
                clear F ac
                intro ac F
                obtain ⟨w31, hrun, hO2, hon⟩ := hO.st (j := i) ((((roadsV f to bu)[(i + 1 + m)]?.getD Rd.no).steps : Int) + 1) ((((roadsV f to bu)[(i + 1 + m)]?.getD Rd.no).time : Int) + (stepV f.times ((allV f)[i]?.getD []) ((allV f)[(i + 1 + m)]?.getD []))) (i + 1 + m : Nat) (by omega)
                refine Y.punit F (X.w0 rfl) rfl (X.store rfl (F.ev 125 (.pointer (some ⟨w3.heap.size, i * 3, none⟩)) (by kernel_rfl)) (F.ev 124 (.agg #[.int .i64 ((((roadsV f to bu)[(i + 1 + m)]?.getD Rd.no).steps : Int) + 1), .int .i64 ((((roadsV f to bu)[(i + 1 + m)]?.getD Rd.no).time : Int) + (stepV f.times ((allV f)[i]?.getD []) ((allV f)[(i + 1 + m)]?.getD []))), .int .i64 (i + 1 + m : Nat)]) (by kernel_rfl)) hrun) ?_
                clear F ac hrun
                intro ac F
                replace GA := Y.Only.up GA hon hb0
                replace G := G0A.trans GA
                replace hf := hfA.gr GA
                replace hR := hRA.gr GA
                replace hy := hyA.gr GA
                replace pi8 := pi8A.gr GA
                replace pi13 := pi13A.gr GA
                replace hC := hCA.gr GA
                have hO := hO2
                clear hO2 hon
                rw [updR_twice] at hO
                refine Y.nil ?_
                replace F : Fr ac 127 [(0, .agg #[.slice ta tn tc, .slice ca cn cc]), (1, .slice (some pd8) N lc), (2, .slice ya sn yc), (3, .int .i64 bu), (4, .pointer (some ⟨w.heap.size, 0, none⟩)), (8, .slice none 0 0), (9, .slice (some ⟨w3.heap.size, 0, none⟩) N N), (10, .int .i64 i), (11, .int .i64 (i + 1 + m : Nat)), (12, .int .i64 (stepV f.times ((allV f)[i]?.getD []) ((allV f)[(i + 1 + m)]?.getD []))), (13, .pointer (some ⟨rb20, 0, none⟩)), (21, .bool true), (33, .bool false), (43, .bool true), (70, .bool false), (121, .bool true)] := F.sub _ (by kernel_rfl)
                refine X.blockN ?_
                refine X.thenN ?_
                refine Y.lit (by kernel_rfl) ?_
                refine Y.pval F (X.w0 rfl) rfl (X.move rfl (F.ev 11 (.int .i64 (i + 1 + m : Nat)) (by kernel_rfl))) ?_
                clear F ac
                intro ac F
                refine Y.pval F (X.w0 rfl) rfl (X.binop rfl (F.ev 44 (.int .i64 (i + 1 + m : Nat)) (by kernel_rfl)) (X.kc (.int .i64 1) rfl) (X.addI Try.underlying3 rfl (by omega) (by omega))) ?_
                clear F ac
                intro ac F
                refine Y.pval F (X.w0 rfl) rfl (X.assign rfl (F.ev 45 (.int .i64 (((i + 1 + m : Nat) : Int) + 1)) (by kernel_rfl))) ?_
                clear F ac
                intro ac F
                refine Y.nil ?_
                replace F : Fr ac 127 [(0, .agg #[.slice ta tn tc, .slice ca cn cc]), (1, .slice (some pd8) N lc), (2, .slice ya sn yc), (3, .int .i64 bu), (4, .pointer (some ⟨w.heap.size, 0, none⟩)), (8, .slice none 0 0), (9, .slice (some ⟨w3.heap.size, 0, none⟩) N N), (10, .int .i64 i), (11, .int .i64 (((i + 1 + m : Nat) : Int) + 1)), (12, .int .i64 (stepV f.times ((allV f)[i]?.getD []) ((allV f)[(i + 1 + m)]?.getD []))), (13, .pointer (some ⟨rb20, 0, none⟩)), (21, .bool true), (33, .bool false), (43, .bool true), (70, .bool false), (121, .bool true)] := F.sub _ (by kernel_rfl)
                refine X.thenN ?_
                refine ⟨_, ?_, m + 1, rfl, GA, by omega, by rw [show pfR f to bu i (m + 1) = (⟨((((roadsV f to bu)[(i + 1 + m)]?.getD Rd.no).steps : Int) + 1), ((((roadsV f to bu)[(i + 1 + m)]?.getD Rd.no).time : Int) + (stepV f.times ((allV f)[i]?.getD []) ((allV f)[(i + 1 + m)]?.getD []))), (i + 1 + m : Nat)⟩ : Rd) from (if_neg (by omega)).trans (if_pos (by omega))]; exact hO, F.sub _ (by kernel_rfl)⟩
                omega
            | true =>
              try rw [h17] at F
              have h17p : ((((roadsV f to bu)[(i + 1 + m)]?.getD Rd.no).steps : Int) < 0) := of_decide_eq_true h17
              refine Y.condT (F.ev 70 (.bool true) (by kernel_rfl)) ?_
              refine Y.exit ?_
              refine X.thenX ?_
              refine X.blockX ?_
              refine X.thenN ?_
              refine Y.lit (by kernel_rfl) ?_
              refine Y.pval F (X.w0 rfl) rfl (X.move rfl (F.ev 11 (.int .i64 (i + 1 + m : Nat)) (by kernel_rfl))) ?_
              clear F ac
              intro ac F
              refine Y.pval F (X.w0 rfl) rfl (X.binop rfl (F.ev 44 (.int .i64 (i + 1 + m : Nat)) (by kernel_rfl)) (X.kc (.int .i64 1) rfl) (X.addI Try.underlying3 rfl (by omega) (by omega))) ?_
              clear F ac
              intro ac F
              refine Y.pval F (X.w0 rfl) rfl (X.assign rfl (F.ev 45 (.int .i64 (((i + 1 + m : Nat) : Int) + 1)) (by kernel_rfl))) ?_
              clear F ac
              intro ac F
              refine Y.nil ?_
              replace F : Fr ac 127 [(0, .agg #[.slice ta tn tc, .slice ca cn cc]), (1, .slice (some pd8) N lc), (2, .slice ya sn yc), (3, .int .i64 bu), (4, .pointer (some ⟨w.heap.size, 0, none⟩)), (8, .slice none 0 0), (9, .slice (some ⟨w3.heap.size, 0, none⟩) N N), (10, .int .i64 i), (11, .int .i64 (((i + 1 + m : Nat) : Int) + 1)), (12, .int .i64 (stepV f.times ((allV f)[i]?.getD []) ((allV f)[(i + 1 + m)]?.getD []))), (21, .bool true), (33, .bool false), (43, .bool true), (70, .bool true)] := F.sub _ (by kernel_rfl)
              refine X.thenN ?_
              refine ⟨_, ?_, m + 1, rfl, GA, by omega, by rw [show pfR f to bu i (m + 1) = pfR f to bu i m from if_pos (by omega)]; exact hO, F.sub _ (by kernel_rfl)⟩
              omega
          | true =>
            try rw [h16] at F
            have h16p : ((bu : Int) < (stepV f.times ((allV f)[i]?.getD []) ((allV f)[(i + 1 + m)]?.getD []))) := of_decide_eq_true h16
            refine Y.pskip F (X.w2 rfl (F.yl (j := 7) (d := 63) (b := true) rfl (by kernel_rfl)) rfl) rfl ?_
            clear F ac
            intro ac F
            refine Y.pskip F (X.w2 rfl (F.yl (j := 7) (d := 63) (b := true) rfl (by kernel_rfl)) rfl) rfl ?_
            clear F ac
            intro ac F
            refine Y.pskip F (X.w2 rfl (F.yl (j := 7) (d := 63) (b := true) rfl (by kernel_rfl)) rfl) rfl ?_
            clear F ac
            intro ac F
            refine Y.pskip F (X.w2 rfl (F.yl (j := 7) (d := 63) (b := true) rfl (by kernel_rfl)) rfl) rfl ?_
            clear F ac
            intro ac F
            refine Y.pskip F (X.w2 rfl (F.yl (j := 7) (d := 63) (b := true) rfl (by kernel_rfl)) rfl) rfl ?_
            clear F ac
            intro ac F
            refine Y.pskip F (X.w2 rfl (F.yl (j := 7) (d := 63) (b := true) rfl (by kernel_rfl)) rfl) rfl ?_
            clear F ac
            intro ac F
            refine Y.pval F (X.w0 rfl) rfl (X.pickT rfl (F.ev 63 (.bool true) (by kernel_rfl)) (X.kc (.bool true) rfl)) ?_
            clear F ac
            intro ac F
            refine Y.nil ?_
            replace F : Fr ac 127 [(0, .agg #[.slice ta tn tc, .slice ca cn cc]), (1, .slice (some pd8) N lc), (2, .slice ya sn yc), (3, .int .i64 bu), (4, .pointer (some ⟨w.heap.size, 0, none⟩)), (8, .slice none 0 0), (9, .slice (some ⟨w3.heap.size, 0, none⟩) N N), (10, .int .i64 i), (11, .int .i64 (i + 1 + m : Nat)), (12, .int .i64 (stepV f.times ((allV f)[i]?.getD []) ((allV f)[(i + 1 + m)]?.getD []))), (21, .bool true), (33, .bool false), (43, .bool true), (70, .bool true)] := F.sub _ (by kernel_rfl)
            refine X.thenN ?_
            refine Y.condT (F.ev 70 (.bool true) (by kernel_rfl)) ?_
            refine Y.exit ?_
            refine X.thenX ?_
            refine X.blockX ?_
            refine X.thenN ?_
            refine Y.lit (by kernel_rfl) ?_
            refine Y.pval F (X.w0 rfl) rfl (X.move rfl (F.ev 11 (.int .i64 (i + 1 + m : Nat)) (by kernel_rfl))) ?_
            clear F ac
            intro ac F
            refine Y.pval F (X.w0 rfl) rfl (X.binop rfl (F.ev 44 (.int .i64 (i + 1 + m : Nat)) (by kernel_rfl)) (X.kc (.int .i64 1) rfl) (X.addI Try.underlying3 rfl (by omega) (by omega))) ?_
            clear F ac
            intro ac F
            refine Y.pval F (X.w0 rfl) rfl (X.assign rfl (F.ev 45 (.int .i64 (((i + 1 + m : Nat) : Int) + 1)) (by kernel_rfl))) ?_
            clear F ac
            intro ac F
            refine Y.nil ?_
            replace F : Fr ac 127 [(0, .agg #[.slice ta tn tc, .slice ca cn cc]), (1, .slice (some pd8) N lc), (2, .slice ya sn yc), (3, .int .i64 bu), (4, .pointer (some ⟨w.heap.size, 0, none⟩)), (8, .slice none 0 0), (9, .slice (some ⟨w3.heap.size, 0, none⟩) N N), (10, .int .i64 i), (11, .int .i64 (((i + 1 + m : Nat) : Int) + 1)), (12, .int .i64 (stepV f.times ((allV f)[i]?.getD []) ((allV f)[(i + 1 + m)]?.getD []))), (21, .bool true), (33, .bool false), (43, .bool true), (70, .bool true)] := F.sub _ (by kernel_rfl)
            refine X.thenN ?_
            refine ⟨_, ?_, m + 1, rfl, GA, by omega, by rw [show pfR f to bu i (m + 1) = pfR f to bu i m from if_pos (by omega)]; exact hO, F.sub _ (by kernel_rfl)⟩
            omega
        | true =>
          try rw [h15] at F
          have h15p : ((stepV f.times ((allV f)[i]?.getD []) ((allV f)[(i + 1 + m)]?.getD []) : Int) < 0) := of_decide_eq_true h15
          refine Y.pskip F (X.w2 rfl (F.yl (j := 2) (d := 58) (b := true) rfl (by kernel_rfl)) rfl) rfl ?_
          clear F ac
          intro ac F
          refine Y.pskip F (X.w2 rfl (F.yl (j := 2) (d := 58) (b := true) rfl (by kernel_rfl)) rfl) rfl ?_
          clear F ac
          intro ac F
          refine Y.pskip F (X.w2 rfl (F.yl (j := 2) (d := 58) (b := true) rfl (by kernel_rfl)) rfl) rfl ?_
          clear F ac
          intro ac F
          refine Y.pval F (X.w0 rfl) rfl (X.pickT rfl (F.ev 58 (.bool true) (by kernel_rfl)) (X.kc (.bool true) rfl)) ?_
          clear F ac
          intro ac F
          refine Y.pval F (X.w0 rfl) rfl (X.move rfl (F.ev 62 (.bool true) (by kernel_rfl))) ?_
          clear F ac
          intro ac F
          refine Y.pskip F (X.w2 rfl (F.yl (j := 7) (d := 63) (b := true) rfl (by kernel_rfl)) rfl) rfl ?_
          clear F ac
          intro ac F
          refine Y.pskip F (X.w2 rfl (F.yl (j := 7) (d := 63) (b := true) rfl (by kernel_rfl)) rfl) rfl ?_
          clear F ac
          intro ac F
          refine Y.pskip F (X.w2 rfl (F.yl (j := 7) (d := 63) (b := true) rfl (by kernel_rfl)) rfl) rfl ?_
          clear F ac
          intro ac F
          refine Y.pskip F (X.w2 rfl (F.yl (j := 7) (d := 63) (b := true) rfl (by kernel_rfl)) rfl) rfl ?_
          clear F ac
          intro ac F
          refine Y.pskip F (X.w2 rfl (F.yl (j := 7) (d := 63) (b := true) rfl (by kernel_rfl)) rfl) rfl ?_
          clear F ac
          intro ac F
          refine Y.pskip F (X.w2 rfl (F.yl (j := 7) (d := 63) (b := true) rfl (by kernel_rfl)) rfl) rfl ?_
          clear F ac
          intro ac F
          refine Y.pval F (X.w0 rfl) rfl (X.pickT rfl (F.ev 63 (.bool true) (by kernel_rfl)) (X.kc (.bool true) rfl)) ?_
          clear F ac
          intro ac F
          refine Y.nil ?_
          replace F : Fr ac 127 [(0, .agg #[.slice ta tn tc, .slice ca cn cc]), (1, .slice (some pd8) N lc), (2, .slice ya sn yc), (3, .int .i64 bu), (4, .pointer (some ⟨w.heap.size, 0, none⟩)), (8, .slice none 0 0), (9, .slice (some ⟨w3.heap.size, 0, none⟩) N N), (10, .int .i64 i), (11, .int .i64 (i + 1 + m : Nat)), (12, .int .i64 (stepV f.times ((allV f)[i]?.getD []) ((allV f)[(i + 1 + m)]?.getD []))), (21, .bool true), (33, .bool false), (43, .bool true), (70, .bool true)] := F.sub _ (by kernel_rfl)
          refine X.thenN ?_
          refine Y.condT (F.ev 70 (.bool true) (by kernel_rfl)) ?_
          refine Y.exit ?_
          refine X.thenX ?_
          refine X.blockX ?_
          refine X.thenN ?_
          refine Y.lit (by kernel_rfl) ?_
          refine Y.pval F (X.w0 rfl) rfl (X.move rfl (F.ev 11 (.int .i64 (i + 1 + m : Nat)) (by kernel_rfl))) ?_
          clear F ac
          intro ac F
          refine Y.pval F (X.w0 rfl) rfl (X.binop rfl (F.ev 44 (.int .i64 (i + 1 + m : Nat)) (by kernel_rfl)) (X.kc (.int .i64 1) rfl) (X.addI Try.underlying3 rfl (by omega) (by omega))) ?_
          clear F ac
          intro ac F
          refine Y.pval F (X.w0 rfl) rfl (X.assign rfl (F.ev 45 (.int .i64 (((i + 1 + m : Nat) : Int) + 1)) (by kernel_rfl))) ?_
          clear F ac
          intro ac F
          refine Y.nil ?_
          replace F : Fr ac 127 [(0, .agg #[.slice ta tn tc, .slice ca cn cc]), (1, .slice (some pd8) N lc), (2, .slice ya sn yc), (3, .int .i64 bu), (4, .pointer (some ⟨w.heap.size, 0, none⟩)), (8, .slice none 0 0), (9, .slice (some ⟨w3.heap.size, 0, none⟩) N N), (10, .int .i64 i), (11, .int .i64 (((i + 1 + m : Nat) : Int) + 1)), (12, .int .i64 (stepV f.times ((allV f)[i]?.getD []) ((allV f)[(i + 1 + m)]?.getD []))), (21, .bool true), (33, .bool false), (43, .bool true), (70, .bool true)] := F.sub _ (by kernel_rfl)
          refine X.thenN ?_
          refine ⟨_, ?_, m + 1, rfl, GA, by omega, by rw [show pfR f to bu i (m + 1) = pfR f to bu i m from if_pos (by omega)]; exact hO, F.sub _ (by kernel_rfl)⟩
          omega
    | true =>
      try rw [h10] at F
      refine Y.condT (F.ev 33 (.bool true) (by kernel_rfl)) ?_
      refine Y.seq ?_
      refine Y.lit (by kernel_rfl) ?_
      refine Y.pval F (X.w0 rfl) rfl (X.move rfl (F.ev 9 (.slice (some ⟨w3.heap.size, 0, none⟩) N N) (by kernel_rfl))) ?_
      clear F ac
      intro ac F
      refine Y.pval F (X.w0 rfl) rfl (X.move rfl (F.ev 10 (.int .i64 i) (by kernel_rfl))) ?_
      clear F ac
      intro ac F
      refine Y.pval F (X.w0 rfl) rfl (Y.bd rfl (Y.b3 (X.kc (.int .i64 0) rfl) (X.kc (.int .i64 0) rfl) (X.kc (.int .i64 (-1)) rfl)) (Try.bd117 _ _ _ _)) ?_
      clear F ac
      intro ac F
      refine Y.pval F (X.w0 rfl) rfl (X.index rfl (F.ev 34 (.slice (some ⟨w3.heap.size, 0, none⟩) N N) (by kernel_rfl)) (F.ev 35 (.int .i64 i) (by kernel_rfl)) (X.idx (k := i) Try.underlying114 (Try.siz117 _) (by omega) (by omega) (addr_add0 _ _))) ?_
      clear F ac
      intro ac F
      obtain ⟨w32, hrun, hO2, hon⟩ := hO.st (j := i) 0 0 (-1) (by omega)
      refine Y.punit F (X.w0 rfl) rfl (X.store rfl (F.ev 37 (.pointer (some ⟨w3.heap.size, i * 3, none⟩)) (by kernel_rfl)) (F.ev 36 (.agg #[.int .i64 0, .int .i64 0, .int .i64 (-1)]) (by kernel_rfl)) hrun) ?_
      clear F ac hrun
      intro ac F
      replace GA := Y.Only.up GA hon hb0
      replace G := G0A.trans GA
      replace hf := hfA.gr GA
      replace hR := hRA.gr GA
      replace hy := hyA.gr GA
      replace pi8 := pi8A.gr GA
      replace hC := hCA.gr GA
      have hO := hO2
      clear hO2 hon
      rw [updR_twice] at hO
      refine Y.nil ?_
      replace F : Fr ac 127 [(0, .agg #[.slice ta tn tc, .slice ca cn cc]), (1, .slice (some pd8) N lc), (2, .slice ya sn yc), (3, .int .i64 bu), (4, .pointer (some ⟨w.heap.size, 0, none⟩)), (8, .slice none 0 0), (9, .slice (some ⟨w3.heap.size, 0, none⟩) N N), (10, .int .i64 i), (21, .bool true), (33, .bool true)] := F.sub _ (by kernel_rfl)
      refine X.thenN ?_
      refine Y.exit ?_
      refine X.thenX ?_
      refine X.blockX ?_
      refine X.thenN ?_
      refine Y.lit (by kernel_rfl) ?_
      refine Y.pval F (X.w0 rfl) rfl (X.move rfl (F.ev 10 (.int .i64 i) (by kernel_rfl))) ?_
      clear F ac
      intro ac F
      refine Y.pval F (X.w0 rfl) rfl (X.binop rfl (F.ev 22 (.int .i64 i) (by kernel_rfl)) (X.kc (.int .i64 1) rfl) (X.subI Try.underlying3 rfl (by omega) (by omega))) ?_
      clear F ac
      intro ac F
      refine Y.pval F (X.w0 rfl) rfl (X.assign rfl (F.ev 23 (.int .i64 ((i : Int) - 1)) (by kernel_rfl))) ?_
      clear F ac
      intro ac F
      refine Y.nil ?_
      replace F : Fr ac 127 [(0, .agg #[.slice ta tn tc, .slice ca cn cc]), (1, .slice (some pd8) N lc), (2, .slice ya sn yc), (3, .int .i64 bu), (4, .pointer (some ⟨w.heap.size, 0, none⟩)), (8, .slice none 0 0), (9, .slice (some ⟨w3.heap.size, 0, none⟩) N N), (10, .int .i64 ((i : Int) - 1)), (21, .bool true), (33, .bool true)] := F.sub _ (by kernel_rfl)
      refine X.thenN ?_
      refine ⟨_, ?_, i, rfl, GA, by omega, by rw [tab_step (r := ⟨0, 0, -1⟩) (by rw [pfR_all (m := N - (i + 1)) (by omega), if_pos (of_decide_eq_true h10)]; rfl)] at hO; exact hO, F.sub _ (by kernel_rfl)⟩
      omega
end Go.Proofs.Ytlilojpnhmfnaaa
