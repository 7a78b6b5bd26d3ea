/- Contract: UpdateSigned returns true. -/
import Derived.Test.YtlilojpnhmfnaaaBd9
import Derived.Test.YtlilojpnhmfnaaaBd7
import Derived.Test.YtlilojpnhmfnaaaBd10
import Derived.Test.YtlilojpnhmfnaaaBd6
import Derived.Test.YtlilojpnhmfnaaaBd1
namespace Go.Proofs.Ytlilojpnhmfnaaa
open Go.RowKit

theorem Try.new46 (w : World) : (Instr.alloc 46 true (.tuple #[])).run Try.prog w = .ok (.pointer (some ⟨w.heap.size, 0, none⟩)) (w.alloc (.cells #[.int .i64 0, .int .i64 0, .string ByteArray.empty, .int .i64 0] 46)) := by kernel_rfl
theorem Try.bs53a (c v tg : Int) (d : ByteArray) (W : World) : (Instr.buildSlice 53 1 #[(0, .agg #[.int .i64 c, .int .i64 v, .string d, .int .i64 tg])]).run Try.prog W = .ok (.slice (some ⟨W.heap.size, 0, none⟩) 1 1) (W.alloc (.cells #[.int .i64 c, .int .i64 v, .string d, .int .i64 tg] 46)) := by kernel_rfl
theorem tagR_bd (s c v : Int) (d : ByteArray) : 0 ≤ tagR s c v d ∧ tagR s c v d ≤ 65520 := by
  unfold tagR
  split
  · exact tagL_bd _ _ _ _
  · omega

set_option maxRecDepth 100000 in
set_option maxHeartbeats 4000000 in
theorem signed_any (ta ca a pa : Option Addr) (tn tc cn cc n c ln lc : Nat) (f : Fl) (se : Int) (xs : List Int) (P : List Pk) (w : World) (hf : FlAt w ta tn ca cn f) (hx : Ints w a n xs) (hP : PkAt w pa ln P) (hpc : ln ≤ lc) :
    Calls Try.prog 11 #[.agg #[.slice ta tn tc, .slice ca cn cc], .int .i64 se, .agg #[.slice a n c, .slice pa ln lc]] w fun e w' => e = .returned (.bool true) ∧ Gr w w' := by
  have G := Gr.refl w
  have ht := hf.t
  have hfA := hf
  have hxA := hx
  have hPA := hP
  have htA := ht
  have G0A := G
  have GA := Gr.refl w
  refine Y.calls 204 Try.func11 rfl rfl ?_
  intro ac F0
  have F : Fr ac 204 [(0, .agg #[.slice ta tn tc, .slice ca cn cc]), (1, .int .i64 se), (2, .agg #[.slice a n c, .slice pa ln lc])] := F0.sub _ (by kernel_rfl)
  clear F0
  refine Y.seq ?_
  refine Y.lit (by kernel_rfl) ?_
  refine Y.pval F (X.w0 rfl) rfl (X.box rfl (F.ev 0 (.agg #[.slice ta tn tc, .slice ca cn cc]) (by kernel_rfl)) X.bx) ?_
  clear F ac
  intro ac F
  have hge3 : w.heap.size ≤ w.heap.size := G.size
  have g := Gr.alloc w (.cells #[.slice ta tn tc, .slice ca cn cc] 25)
  have hb := heap_alloc_new w (.cells #[.slice ta tn tc, .slice ca cn cc] 25)
  have hbl : w.heap.size < (w.alloc (.cells #[.slice ta tn tc, .slice ca cn cc] 25)).heap.size := by simp
  have hC2 : RCells (w.alloc (.cells #[.slice ta tn tc, .slice ca cn cc] 25)) [(⟨w.heap.size, 0, none⟩, .slice ta tn tc), (⟨w.heap.size, 1, none⟩, .slice ca cn cc)] := (RCells.nil w).box (b := w.heap.size) #[.slice ta tn tc, .slice ca cn cc] 25 rfl
  generalize w.alloc (.cells #[.slice ta tn tc, .slice ca cn cc] 25) = w4 at *
  replace G := G.trans g
  have hC := hC2
  clear hC2
  replace GA := GA.trans g
  replace hf := hf.gr g
  replace hx := hx.gr g
  replace hP := hP.gr g
  replace ht := ht.gr g
  clear g hb hbl
  refine Y.pval F (X.w0 rfl) rfl (X.box rfl (F.ev 2 (.agg #[.slice a n c, .slice pa ln lc]) (by kernel_rfl)) X.bx) ?_
  clear F ac
  intro ac F
  have hbl5_0 : w.heap.size < w4.heap.size := lt_cell (hC.at 0 rfl)
  have hge5 : w.heap.size ≤ w4.heap.size := G.size
  have g := Gr.alloc w4 (.cells #[.slice a n c, .slice pa ln lc] 55)
  have hb := heap_alloc_new w4 (.cells #[.slice a n c, .slice pa ln lc] 55)
  have hbl : w4.heap.size < (w4.alloc (.cells #[.slice a n c, .slice pa ln lc] 55)).heap.size := by simp
  have hC2 : RCells (w4.alloc (.cells #[.slice a n c, .slice pa ln lc] 55)) [(⟨w.heap.size, 0, none⟩, .slice ta tn tc), (⟨w.heap.size, 1, none⟩, .slice ca cn cc), (⟨w4.heap.size, 0, none⟩, .slice a n c), (⟨w4.heap.size, 1, none⟩, .slice pa ln lc)] := hC.box (b := w4.heap.size) #[.slice a n c, .slice pa ln lc] 55 rfl
  generalize w4.alloc (.cells #[.slice a n c, .slice pa ln lc] 55) = w6 at *
  replace G := G.trans g
  replace hC := hC2
  clear hC2
  replace GA := GA.trans g
  replace hf := hf.gr g
  replace hx := hx.gr g
  replace hP := hP.gr g
  replace ht := ht.gr g
  clear g hb hbl
  refine Y.pval F (X.w0 rfl) rfl (X.assign rfl (X.kc (.bool false) rfl)) ?_
  clear F ac
  intro ac F
  refine Y.nil ?_
  replace F : Fr ac 204 [(0, .agg #[.slice ta tn tc, .slice ca cn cc]), (1, .int .i64 se), (2, .agg #[.slice a n c, .slice pa ln lc]), (3, .pointer (some ⟨w.heap.size, 0, none⟩)), (5, .pointer (some ⟨w4.heap.size, 0, none⟩)), (6, .bool false)] := F.sub _ (by kernel_rfl)
  refine X.thenN ?_
  refine Y.seq ?_
  refine Y.seq ?_
  refine Y.lit (by kernel_rfl) ?_
  refine Y.pval F (X.w0 rfl) rfl (X.field rfl (F.ev 5 (.pointer (some ⟨w4.heap.size, 0, none⟩)) (by kernel_rfl)) (X.fld Try.underlying55 rfl (Try.siz53 _) rfl rfl)) ?_
  clear F ac
  intro ac F
  refine Y.pval F (X.w0 rfl) rfl (X.load rfl (F.ev 19 (.pointer (some ⟨w4.heap.size, 1, none⟩)) (by kernel_rfl)) (X.ld1 (Try.agg53 _) (hC.at 3 rfl))) ?_
  clear F ac
  intro ac F
  refine Y.pval F (X.w0 rfl) rfl (X.len1 Try.underlying53 rfl (F.ev 20 (.slice pa ln lc) (by kernel_rfl))) ?_
  clear F ac
  intro ac F
  refine Y.pval F (X.w0 rfl) rfl (X.binop rfl (F.ev 21 (.int .i64 ln) (by kernel_rfl)) (X.kc (.int .i64 1) rfl) (X.neqI Try.underlying3 rfl)) ?_
  clear F ac
  intro ac F
  refine Y.nil ?_
  replace F : Fr ac 204 [(0, .agg #[.slice ta tn tc, .slice ca cn cc]), (1, .int .i64 se), (2, .agg #[.slice a n c, .slice pa ln lc]), (3, .pointer (some ⟨w.heap.size, 0, none⟩)), (5, .pointer (some ⟨w4.heap.size, 0, none⟩)), (6, .bool false), (22, .bool ((ln : Int) != 1))] := F.sub _ (by kernel_rfl)
  refine X.thenN ?_
  cases h7 : ((ln : Int) != 1) with
  | false =>
    try rw [h7] at F
    have h7p : (ln : Int) = 1 := by simpa using h7
    obtain rfl : 1 = ln := by omega
    obtain ⟨p, rfl⟩ : ∃ p, P = [p] := List.length_eq_one_iff.1 hPA.len
    refine Y.condF (F.ev 22 (.bool false) (by kernel_rfl)) ?_
    refine Y.skip ?_
    refine X.thenN ?_
    refine Y.seq ?_
    refine Y.lit (by kernel_rfl) ?_
    refine Y.pval F (X.w0 rfl) rfl (X.field rfl (F.ev 5 (.pointer (some ⟨w4.heap.size, 0, none⟩)) (by kernel_rfl)) (X.fld Try.underlying55 rfl (Try.siz53 _) rfl rfl)) ?_
    clear F ac
    intro ac F
    refine Y.pval F (X.w0 rfl) rfl (X.load rfl (F.ev 24 (.pointer (some ⟨w4.heap.size, 1, none⟩)) (by kernel_rfl)) (X.ld1 (Try.agg53 _) (hC.at 3 rfl))) ?_
    clear F ac
    intro ac F
    obtain ⟨pd8, pe8, -, pz, pc8, p1, p2, p3⟩ := hPA.at (j := 0) (by omega)
    subst pe8
    have hCA : RCells w [(pd8.add (0 * 4), .int .i64 p.c), (⟨(pd8.add (0 * 4)).block, (pd8.add (0 * 4)).off + 1, none⟩, .int .i64 p.v), (⟨(pd8.add (0 * 4)).block, (pd8.add (0 * 4)).off + 2, none⟩, .string p.data), (⟨(pd8.add (0 * 4)).block, (pd8.add (0 * 4)).off + 3, none⟩, .int .i64 p.tg)] := (RCells.cons pc8 (RCells.cons p1 (RCells.cons p2 (RCells.cons p3 (RCells.nil _)))))
    replace hC : RCells w6 [(⟨w.heap.size, 0, none⟩, .slice ta tn tc), (⟨w.heap.size, 1, none⟩, .slice ca cn cc), (⟨w4.heap.size, 0, none⟩, .slice a n c), (⟨w4.heap.size, 1, none⟩, .slice (some pd8) 1 lc), (pd8.add (0 * 4), .int .i64 p.c), (⟨(pd8.add (0 * 4)).block, (pd8.add (0 * 4)).off + 1, none⟩, .int .i64 p.v), (⟨(pd8.add (0 * 4)).block, (pd8.add (0 * 4)).off + 2, none⟩, .string p.data), (⟨(pd8.add (0 * 4)).block, (pd8.add (0 * 4)).off + 3, none⟩, .int .i64 p.tg)] := hC.append ((RCells.cons ((GA.cell (lt_cell pc8)).trans pc8) (RCells.cons ((GA.cell (lt_cell p1)).trans p1) (RCells.cons ((GA.cell (lt_cell p2)).trans p2) (RCells.cons ((GA.cell (lt_cell p3)).trans p3) (RCells.nil _))))))
    clear pc8
    refine Y.pval F (X.w0 rfl) rfl (X.index rfl (F.ev 25 (.slice (some pd8) 1 lc) (by kernel_rfl)) (X.kc (.int .i64 0) rfl) (X.idx (k := 0) Try.underlying53 (Try.siz46 _) (by omega) rfl rfl)) ?_
    clear F ac
    intro ac F
    refine Y.pval F (X.w0 rfl) rfl (X.load rfl (F.ev 26 (.pointer (some (pd8.add (0 * 4)))) (by kernel_rfl)) (X.ldN (Try.agg46 _) (Try.siz46 _) (X.c4 (hC.at 4 rfl) (hC.at 5 rfl) (hC.at 6 rfl) (hC.at 7 rfl)))) ?_
    clear F ac
    intro ac F
    refine Y.pval F (X.w0 rfl) rfl (Y.al rfl (Try.new46 _)) ?_
    clear F ac
    intro ac F
    have hbl10_0 : w.heap.size < w6.heap.size := lt_cell (hC.at 0 rfl)
    have hbl10_2 : w4.heap.size < w6.heap.size := lt_cell (hC.at 2 rfl)
    have hge10 : w.heap.size ≤ w6.heap.size := G.size
    have g := Gr.alloc w6 (.cells #[.int .i64 0, .int .i64 0, .string ByteArray.empty, .int .i64 0] 46)
    have hb := heap_alloc_new w6 (.cells #[.int .i64 0, .int .i64 0, .string ByteArray.empty, .int .i64 0] 46)
    have hbl : w6.heap.size < (w6.alloc (.cells #[.int .i64 0, .int .i64 0, .string ByteArray.empty, .int .i64 0] 46)).heap.size := by simp
    have hC2 : RCells (w6.alloc (.cells #[.int .i64 0, .int .i64 0, .string ByteArray.empty, .int .i64 0] 46)) [(⟨w.heap.size, 0, none⟩, .slice ta tn tc), (⟨w.heap.size, 1, none⟩, .slice ca cn cc), (⟨w4.heap.size, 0, none⟩, .slice a n c), (⟨w4.heap.size, 1, none⟩, .slice (some pd8) 1 lc), (pd8.add (0 * 4), .int .i64 p.c), (⟨(pd8.add (0 * 4)).block, (pd8.add (0 * 4)).off + 1, none⟩, .int .i64 p.v), (⟨(pd8.add (0 * 4)).block, (pd8.add (0 * 4)).off + 2, none⟩, .string p.data), (⟨(pd8.add (0 * 4)).block, (pd8.add (0 * 4)).off + 3, none⟩, .int .i64 p.tg), (⟨w6.heap.size, 0, none⟩, .int .i64 0), (⟨w6.heap.size, 1, none⟩, .int .i64 0), (⟨w6.heap.size, 2, none⟩, .string ByteArray.empty), (⟨w6.heap.size, 3, none⟩, .int .i64 0)] := hC.box (b := w6.heap.size) #[.int .i64 0, .int .i64 0, .string ByteArray.empty, .int .i64 0] 46 rfl
    generalize w6.alloc (.cells #[.int .i64 0, .int .i64 0, .string ByteArray.empty, .int .i64 0] 46) = w11 at *
    replace G := G.trans g
    replace hC := hC2
    clear hC2
    replace GA := GA.trans g
    replace hf := hf.gr g
    replace hx := hx.gr g
    replace hP := hP.gr g
    replace ht := ht.gr g
    have hO9 := lv4_new hb
    clear g hb hbl
    obtain ⟨w12, hrun, hO2, hon⟩ := lv4_st (t := 46) (y0 := (.int .i64 p.c)) (y1 := (.int .i64 p.v)) (y2 := (.string p.data)) (y3 := (.int .i64 p.tg)) hO9 (Try.siz46 _) rfl rfl rfl rfl
    refine Y.punit F (X.w0 rfl) rfl (X.store rfl (F.ev 7 (.pointer (some ⟨w6.heap.size, 0, none⟩)) (by kernel_rfl)) (F.ev 27 (.agg #[.int .i64 p.c, .int .i64 p.v, .string p.data, .int .i64 p.tg]) (by kernel_rfl)) hrun) ?_
    clear F ac hrun
    intro ac F
    replace GA := Y.Only.up GA hon (by omega)
    replace G := G0A.trans GA
    replace hf := hfA.gr GA
    replace hx := hxA.gr GA
    replace hP := hPA.gr GA
    replace ht := htA.gr GA
    replace hC : RCells w12 [(⟨w6.heap.size, 0, none⟩, .int .i64 p.c), (⟨w6.heap.size, 1, none⟩, .int .i64 p.v), (⟨w6.heap.size, 2, none⟩, .string p.data), (⟨w6.heap.size, 3, none⟩, .int .i64 p.tg), (⟨w.heap.size, 0, none⟩, .slice ta tn tc), (⟨w.heap.size, 1, none⟩, .slice ca cn cc), (⟨w4.heap.size, 0, none⟩, .slice a n c), (⟨w4.heap.size, 1, none⟩, .slice (some pd8) 1 lc), (pd8.add (0 * 4), .int .i64 p.c), (⟨(pd8.add (0 * 4)).block, (pd8.add (0 * 4)).off + 1, none⟩, .int .i64 p.v), (⟨(pd8.add (0 * 4)).block, (pd8.add (0 * 4)).off + 2, none⟩, .string p.data), (⟨(pd8.add (0 * 4)).block, (pd8.add (0 * 4)).off + 3, none⟩, .int .i64 p.tg)] := (RCells.cons (hO2.cell (k := 0) (by decide)) (RCells.cons (hO2.cell (k := 1) (by decide)) (RCells.cons (hO2.cell (k := 2) (by decide)) (RCells.cons (hO2.cell (k := 3) (by decide)) (RCells.cons (hon.cell (hC.at 0 rfl) (by simp only; omega)) (RCells.cons (hon.cell (hC.at 1 rfl) (by simp only; omega)) (RCells.cons (hon.cell (hC.at 2 rfl) (by simp only; omega)) (RCells.cons (hon.cell (hC.at 3 rfl) (by simp only; omega)) (RCells.cons ((hCA.gr GA).at 0 rfl) (RCells.cons ((hCA.gr GA).at 1 rfl) (RCells.cons ((hCA.gr GA).at 2 rfl) (RCells.cons ((hCA.gr GA).at 3 rfl) (RCells.nil _)))))))))))))
    have hO9 := hO2
    clear hO2 hon
    refine Y.nil ?_
    replace F : Fr ac 204 [(0, .agg #[.slice ta tn tc, .slice ca cn cc]), (1, .int .i64 se), (2, .agg #[.slice a n c, .slice (some pd8) 1 lc]), (3, .pointer (some ⟨w.heap.size, 0, none⟩)), (5, .pointer (some ⟨w4.heap.size, 0, none⟩)), (6, .bool false), (7, .pointer (some ⟨w6.heap.size, 0, none⟩)), (22, .bool false)] := F.sub _ (by kernel_rfl)
    refine X.thenN ?_
    refine Y.seq ?_
    refine Y.lit (by kernel_rfl) ?_
    refine Y.pval F (X.w0 rfl) rfl (X.move rfl (F.ev 1 (.int .i64 se) (by kernel_rfl))) ?_
    clear F ac
    intro ac F
    refine Y.pval F (X.w0 rfl) rfl (X.load rfl (F.ev 7 (.pointer (some ⟨w6.heap.size, 0, none⟩)) (by kernel_rfl)) (X.ldN (Try.agg46 _) (Try.siz46 _) (X.c4 (hC.at 0 rfl) (hC.at 1 rfl) (hC.at 2 rfl) (hC.at 3 rfl)))) ?_
    clear F ac
    intro ac F
    refine Y.pcall F (X.w0 rfl) rfl (X.enter (F := 25) rfl (X.kc (.func (.func 25) #[] #[]) rfl) (X.a2 (F.ev 29 (.int .i64 se) (by kernel_rfl)) (F.ev 30 (.agg #[.int .i64 p.c, .int .i64 p.v, .string p.data, .int .i64 p.tg]) (by kernel_rfl))) (enters_of Try.func25 (by kernel_rfl) rfl _)) (Tag_any se p.c p.v p.tg p.data w12 pz) ?_
    clear F ac
    rintro e w13 ⟨rfl, g⟩
    refine ⟨_, rfl, ?_⟩
    intro ac F
    replace G := G.trans g
    replace hC := hC.gr g
    replace GA := GA.trans g
    replace hf := hf.gr g
    replace hx := hx.gr g
    replace hP := hP.gr g
    replace ht := ht.gr g
    replace hO9 := hO9.gr g
    clear g
    refine Y.pval F (X.w0 rfl) rfl (X.move rfl (F.ev 31 (.tuple #[.int .i64 (tagR se p.c p.v p.data), .int .i64 (tagE se p.c p.v p.data)]) (by kernel_rfl))) ?_
    clear F ac
    intro ac F
    refine Y.pval F (X.w0 rfl) rfl (X.extract rfl (F.ev 28 (.tuple #[.int .i64 (tagR se p.c p.v p.data), .int .i64 (tagE se p.c p.v p.data)]) (by kernel_rfl)) rfl) ?_
    clear F ac
    intro ac F
    refine Y.pval F (X.w0 rfl) rfl (X.extract rfl (F.ev 28 (.tuple #[.int .i64 (tagR se p.c p.v p.data), .int .i64 (tagE se p.c p.v p.data)]) (by kernel_rfl)) rfl) ?_
    clear F ac
    intro ac F
    refine Y.pval F (X.w0 rfl) rfl (X.assign rfl (F.ev 32 (.int .i64 (tagR se p.c p.v p.data)) (by kernel_rfl))) ?_
    clear F ac
    intro ac F
    refine Y.pval F (X.w0 rfl) rfl (X.assign rfl (F.ev 33 (.int .i64 (tagE se p.c p.v p.data)) (by kernel_rfl))) ?_
    clear F ac
    intro ac F
    refine Y.nil ?_
    replace F : Fr ac 204 [(0, .agg #[.slice ta tn tc, .slice ca cn cc]), (1, .int .i64 se), (2, .agg #[.slice a n c, .slice (some pd8) 1 lc]), (3, .pointer (some ⟨w.heap.size, 0, none⟩)), (5, .pointer (some ⟨w4.heap.size, 0, none⟩)), (6, .bool false), (7, .pointer (some ⟨w6.heap.size, 0, none⟩)), (8, .int .i64 (tagR se p.c p.v p.data)), (9, .int .i64 (tagE se p.c p.v p.data)), (22, .bool false)] := F.sub _ (by kernel_rfl)
    refine X.thenN ?_
    refine Y.seq ?_
    refine Y.seq ?_
    refine Y.lit (by kernel_rfl) ?_
    refine Y.pval F (X.w0 rfl) rfl (X.move rfl (F.ev 9 (.int .i64 (tagE se p.c p.v p.data)) (by kernel_rfl))) ?_
    clear F ac
    intro ac F
    refine Y.pval F (X.w0 rfl) rfl (X.binop rfl (F.ev 34 (.int .i64 (tagE se p.c p.v p.data)) (by kernel_rfl)) (X.kc (.int .i64 0) rfl) (X.neqI Try.underlying31 rfl)) ?_
    clear F ac
    intro ac F
    refine Y.nil ?_
    replace F : Fr ac 204 [(0, .agg #[.slice ta tn tc, .slice ca cn cc]), (1, .int .i64 se), (2, .agg #[.slice a n c, .slice (some pd8) 1 lc]), (3, .pointer (some ⟨w.heap.size, 0, none⟩)), (5, .pointer (some ⟨w4.heap.size, 0, none⟩)), (6, .bool false), (7, .pointer (some ⟨w6.heap.size, 0, none⟩)), (8, .int .i64 (tagR se p.c p.v p.data)), (9, .int .i64 (tagE se p.c p.v p.data)), (22, .bool false), (35, .bool ((tagE se p.c p.v p.data : Int) != 0))] := F.sub _ (by kernel_rfl)
    refine X.thenN ?_
    cases h14 : ((tagE se p.c p.v p.data : Int) != 0) with
    | false =>
      try rw [h14] at F
      have h14p : (tagE se p.c p.v p.data : Int) = 0 := by simpa using h14
      have hTE : tagE se p.c p.v p.data = 0 := by simpa using h14p
      have hTB := tagE_zero hTE
      refine Y.condF (F.ev 35 (.bool false) (by kernel_rfl)) ?_
      refine Y.skip ?_
      refine X.thenN ?_
      refine Y.seq ?_
      refine Y.lit (by kernel_rfl) ?_
      refine Y.pval F (X.w0 rfl) rfl (X.move rfl (F.ev 8 (.int .i64 (tagR se p.c p.v p.data)) (by kernel_rfl))) ?_
      clear F ac
      intro ac F
      refine Y.pval F (X.w0 rfl) rfl (X.field rfl (F.ev 7 (.pointer (some ⟨w6.heap.size, 0, none⟩)) (by kernel_rfl)) (X.fld Try.underlying46 rfl (Try.siz3 _) rfl rfl)) ?_
      clear F ac
      intro ac F
      obtain ⟨w15, hrun, hO1, hon⟩ := Y.Own.st1 (t := 3) (k := 3) (v := (.int .i64 (tagR se p.c p.v p.data))) hO9 (Try.siz3 _) rfl rfl (by decide)
      have hO2 := lv4_one (y0 := (.int .i64 p.c)) (y1 := (.int .i64 p.v)) (y2 := (.string p.data)) (y3 := (.int .i64 (tagR se p.c p.v p.data))) hO1 rfl rfl rfl rfl
      clear hO1
      refine Y.punit F (X.w0 rfl) rfl (X.store rfl (F.ev 38 (.pointer (some ⟨w6.heap.size, 3, none⟩)) (by kernel_rfl)) (F.ev 37 (.int .i64 (tagR se p.c p.v p.data)) (by kernel_rfl)) hrun) ?_
      clear F ac hrun
      intro ac F
      replace GA := Y.Only.up GA hon (by omega)
      replace G := G0A.trans GA
      replace hf := hfA.gr GA
      replace hx := hxA.gr GA
      replace hP := hPA.gr GA
      replace ht := htA.gr GA
      replace hC : RCells w15 [(⟨w6.heap.size, 0, none⟩, .int .i64 p.c), (⟨w6.heap.size, 1, none⟩, .int .i64 p.v), (⟨w6.heap.size, 2, none⟩, .string p.data), (⟨w6.heap.size, 3, none⟩, .int .i64 (tagR se p.c p.v p.data)), (⟨w.heap.size, 0, none⟩, .slice ta tn tc), (⟨w.heap.size, 1, none⟩, .slice ca cn cc), (⟨w4.heap.size, 0, none⟩, .slice a n c), (⟨w4.heap.size, 1, none⟩, .slice (some pd8) 1 lc), (pd8.add (0 * 4), .int .i64 p.c), (⟨(pd8.add (0 * 4)).block, (pd8.add (0 * 4)).off + 1, none⟩, .int .i64 p.v), (⟨(pd8.add (0 * 4)).block, (pd8.add (0 * 4)).off + 2, none⟩, .string p.data), (⟨(pd8.add (0 * 4)).block, (pd8.add (0 * 4)).off + 3, none⟩, .int .i64 p.tg)] := (RCells.cons (hO2.cell (k := 0) (by decide)) (RCells.cons (hO2.cell (k := 1) (by decide)) (RCells.cons (hO2.cell (k := 2) (by decide)) (RCells.cons (hO2.cell (k := 3) (by decide)) (RCells.cons (hon.cell (hC.at 4 rfl) (by simp only; omega)) (RCells.cons (hon.cell (hC.at 5 rfl) (by simp only; omega)) (RCells.cons (hon.cell (hC.at 6 rfl) (by simp only; omega)) (RCells.cons (hon.cell (hC.at 7 rfl) (by simp only; omega)) (RCells.cons ((hCA.gr GA).at 0 rfl) (RCells.cons ((hCA.gr GA).at 1 rfl) (RCells.cons ((hCA.gr GA).at 2 rfl) (RCells.cons ((hCA.gr GA).at 3 rfl) (RCells.nil _)))))))))))))
      have hO9 := hO2
      clear hO2 hon
      refine Y.nil ?_
      replace F : Fr ac 204 [(0, .agg #[.slice ta tn tc, .slice ca cn cc]), (1, .int .i64 se), (2, .agg #[.slice a n c, .slice (some pd8) 1 lc]), (3, .pointer (some ⟨w.heap.size, 0, none⟩)), (5, .pointer (some ⟨w4.heap.size, 0, none⟩)), (6, .bool false), (7, .pointer (some ⟨w6.heap.size, 0, none⟩)), (8, .int .i64 (tagR se p.c p.v p.data)), (9, .int .i64 (tagE se p.c p.v p.data)), (22, .bool false), (35, .bool false)] := F.sub _ (by kernel_rfl)
      refine X.thenN ?_
      refine Y.seq ?_
      refine Y.lit (by kernel_rfl) ?_
      refine Y.pval F (X.w0 rfl) rfl (X.load rfl (F.ev 3 (.pointer (some ⟨w.heap.size, 0, none⟩)) (by kernel_rfl)) (X.ldN (Try.agg25 _) (Try.siz25 _) (X.c2 (hC.at 4 rfl) (hC.at 5 rfl)))) ?_
      clear F ac
      intro ac F
      refine Y.pval F (X.w0 rfl) rfl (X.move rfl (F.ev 1 (.int .i64 se) (by kernel_rfl))) ?_
      clear F ac
      intro ac F
      refine Y.pval F (X.w0 rfl) rfl (X.load rfl (F.ev 7 (.pointer (some ⟨w6.heap.size, 0, none⟩)) (by kernel_rfl)) (X.ldN (Try.agg46 _) (Try.siz46 _) (X.c4 (hC.at 0 rfl) (hC.at 1 rfl) (hC.at 2 rfl) (hC.at 3 rfl)))) ?_
      clear F ac
      intro ac F
      refine Y.pcall F (X.w0 rfl) rfl (X.enter (F := 27) rfl (X.kc (.func (.func 27) #[] #[]) rfl) (X.a3 (F.ev 39 (.agg #[.slice ta tn tc, .slice ca cn cc]) (by kernel_rfl)) (F.ev 40 (.int .i64 se) (by kernel_rfl)) (F.ev 41 (.agg #[.int .i64 p.c, .int .i64 p.v, .string p.data, .int .i64 (tagR se p.c p.v p.data)]) (by kernel_rfl))) (enters_of Try.func27 (by kernel_rfl) rfl _)) (Accept_any ta ca tn tc cn cc f se p.c p.v (tagR se p.c p.v p.data) p.data w15 hf pz) ?_
      clear F ac
      rintro e w16 ⟨rfl, g⟩
      refine ⟨_, rfl, ?_⟩
      intro ac F
      replace G := G.trans g
      replace hC := hC.gr g
      replace GA := GA.trans g
      replace hf := hf.gr g
      replace hx := hx.gr g
      replace hP := hP.gr g
      replace ht := ht.gr g
      replace hO9 := hO9.gr g
      clear g
      refine Y.pval F (X.w0 rfl) rfl (X.assign rfl (F.ev 42 (.int .i64 (AcceptE f se p.c p.v p.data (tagR se p.c p.v p.data))) (by kernel_rfl))) ?_
      clear F ac
      intro ac F
      refine Y.nil ?_
      replace F : Fr ac 204 [(0, .agg #[.slice ta tn tc, .slice ca cn cc]), (1, .int .i64 se), (2, .agg #[.slice a n c, .slice (some pd8) 1 lc]), (3, .pointer (some ⟨w.heap.size, 0, none⟩)), (5, .pointer (some ⟨w4.heap.size, 0, none⟩)), (6, .bool false), (7, .pointer (some ⟨w6.heap.size, 0, none⟩)), (8, .int .i64 (tagR se p.c p.v p.data)), (9, .int .i64 (AcceptE f se p.c p.v p.data (tagR se p.c p.v p.data))), (22, .bool false), (35, .bool false)] := F.sub _ (by kernel_rfl)
      refine X.thenN ?_
      refine Y.seq ?_
      refine Y.seq ?_
      cases h19 : ((AcceptE f se p.c p.v p.data (tagR se p.c p.v p.data) : Int) != 0) with
      | false =>
        try rw [h19] at F
        have h19p : (AcceptE f se p.c p.v p.data (tagR se p.c p.v p.data) : Int) = 0 := by simpa using h19
        have hAE : AcceptE f se p.c p.v p.data (tagR se p.c p.v p.data) = 0 := by simpa using h19p
        have hchk := chkE_zero (Accept_zero hAE).1
        have h22 : ((chkE f : Int) == 0) = true := by rw [(Accept_zero hAE).1]; rfl
        try rw [h22] at F
        have h25 : decide ((p.c : Int) < tn) = true := decide_eq_true (by have h := hf.t.len; have h2 := (Accept_ver hAE).1; omega)
        have h25p : ((p.c : Int) < tn) := of_decide_eq_true h25
        try rw [h25] at F
        obtain ⟨pd27, pa27, rn27, pq27, pe27, -, pc27, pi27⟩ := htA.at (j := p.c.toNat) (by omega)
        subst pe27
        replace hCA : RCells w [(pd8.add (0 * 4), .int .i64 p.c), (⟨(pd8.add (0 * 4)).block, (pd8.add (0 * 4)).off + 1, none⟩, .int .i64 p.v), (⟨(pd8.add (0 * 4)).block, (pd8.add (0 * 4)).off + 2, none⟩, .string p.data), (⟨(pd8.add (0 * 4)).block, (pd8.add (0 * 4)).off + 3, none⟩, .int .i64 p.tg), (pd27.add p.c.toNat, .slice pa27 rn27 pq27)] := hCA.append ((RCells.cons pc27 (RCells.nil _)))
        replace hC : RCells w16 [(⟨w6.heap.size, 0, none⟩, .int .i64 p.c), (⟨w6.heap.size, 1, none⟩, .int .i64 p.v), (⟨w6.heap.size, 2, none⟩, .string p.data), (⟨w6.heap.size, 3, none⟩, .int .i64 (tagR se p.c p.v p.data)), (⟨w.heap.size, 0, none⟩, .slice (some pd27) tn tc), (⟨w.heap.size, 1, none⟩, .slice ca cn cc), (⟨w4.heap.size, 0, none⟩, .slice a n c), (⟨w4.heap.size, 1, none⟩, .slice (some pd8) 1 lc), (pd8.add (0 * 4), .int .i64 p.c), (⟨(pd8.add (0 * 4)).block, (pd8.add (0 * 4)).off + 1, none⟩, .int .i64 p.v), (⟨(pd8.add (0 * 4)).block, (pd8.add (0 * 4)).off + 2, none⟩, .string p.data), (⟨(pd8.add (0 * 4)).block, (pd8.add (0 * 4)).off + 3, none⟩, .int .i64 p.tg), (pd27.add p.c.toNat, .slice pa27 rn27 pq27)] := hC.append ((RCells.cons ((GA.cell (lt_cell pc27)).trans pc27) (RCells.nil _)))
        clear pc27
        have pi27A := pi27
        replace pi27 := pi27.gr GA
        have h30 : decide ((p.v : Int) ≤ rn27) = true := decide_eq_true (by have h := pi27.len; have h2 := (Accept_ver hAE).2; omega)
        have h30p : ((p.v : Int) ≤ rn27) := of_decide_eq_true h30
        try rw [h30] at F
        refine Y.region F [some (.agg #[.slice (some pd27) tn tc, .slice ca cn cc]), some (.int .i64 (chkE f)), some (.bool true), some (.bool true), some (.pointer (some ⟨w6.heap.size, 0, none⟩)), some (.int .i64 p.c), some (.pointer (some ⟨w.heap.size, 0, none⟩)), some (.slice (some pd27) tn tc), some (.int .i64 tn), some (.bool true), some (.bool true), some (.bool true), some (.pointer (some ⟨w6.heap.size, 1, none⟩)), some (.int .i64 p.v), some (.pointer (some ⟨w.heap.size, 0, none⟩)), some (.slice (some pd27) tn tc), some (.pointer (some ⟨w6.heap.size, 0, none⟩)), some (.int .i64 p.c), some (.pointer (some (pd27.add p.c.toNat))), some (.slice pa27 rn27 pq27), some (.int .i64 rn27), some (.bool true), some (.bool true), some (.bool true), some (.int .i64 (AcceptE f se p.c p.v p.data (tagR se p.c p.v p.data))), some (.bool false), some (.bool false)] [] rfl ⟨by kernel_rfl, of_decide_eq_true (by kernel_rfl), by kernel_rfl, by kernel_rfl, by kernel_rfl⟩ ⟨?_, ?_, ?_, ?_, ?_, ?_, ?_, ?_, ?_, ?_, ?_, ?_, ?_, ?_, ?_, ?_, ?_, ?_, ?_, ?_, ?_, ?_, ?_, ?_, ?_, ?_, ?_, trivial⟩ ?_
        · intro ac done u W Sx hR
          have g : Gr w16 W := hR.1
          exact X.val (X.w0 rfl) rfl (X.load rfl (Sx.ev 3 (.pointer (some ⟨w.heap.size, 0, none⟩)) (by kernel_rfl)) (X.ldN (Try.agg25 _) (Try.siz25 _) (X.c2 ((hC.gr g).at 4 rfl) ((hC.gr g).at 5 rfl)))) (hR.step (Gr.refl _) rfl)
        · intro ac done u W Sx hR
          have g : Gr w16 W := hR.1
          refine X.call (X.w0 rfl) (X.enter (F := 37) rfl (X.kc (.func (.func 37) #[] #[]) rfl) (X.a1 (Sx.ev 43 (.agg #[.slice (some pd27) tn tc, .slice ca cn cc]) (by kernel_rfl))) (enters_of Try.func37 (by kernel_rfl) rfl _)) (check2_any (some pd27) ca tn tc cn cc f W (hf.gr g)) ?_
          rintro e W2 ⟨rfl, g2⟩
          exact ⟨_, rfl, X.kn rfl, hR.step g2 rfl⟩
        · intro ac done u W Sx hR
          have g : Gr w16 W := hR.1
          exact X.val (X.w0 rfl) rfl (X.binop rfl (Sx.ev 44 (.int .i64 (chkE f)) (by kernel_rfl)) (X.kc (.int .i64 0) rfl) (X.eqlI Try.underlying31 h22)) (hR.step (Gr.refl _) rfl)
        · intro ac done u W Sx hR
          have g : Gr w16 W := hR.1
          exact X.val (X.w0 rfl) rfl (X.move rfl (Sx.ev 45 (.bool true) (by kernel_rfl))) (hR.step (Gr.refl _) rfl)
        · intro ac done u W Sx hR
          have g : Gr w16 W := hR.1
          exact X.val (X.w1 rfl (Sx.yl 3 46 true (by kernel_rfl) rfl rfl)) rfl (X.field rfl (Sx.ev 7 (.pointer (some ⟨w6.heap.size, 0, none⟩)) (by kernel_rfl)) (X.fld Try.underlying46 rfl (Try.siz3 _) rfl rfl)) (hR.step (Gr.refl _) rfl)
        · intro ac done u W Sx hR
          have g : Gr w16 W := hR.1
          exact X.val (X.w1 rfl (Sx.yl 3 46 true (by kernel_rfl) rfl rfl)) rfl (X.load rfl (Sx.ev 47 (.pointer (some ⟨w6.heap.size, 0, none⟩)) (by kernel_rfl)) (X.ld1 (Try.agg3 _) ((hC.gr g).at 0 rfl))) (hR.step (Gr.refl _) rfl)
        · intro ac done u W Sx hR
          have g : Gr w16 W := hR.1
          exact X.val (X.w1 rfl (Sx.yl 3 46 true (by kernel_rfl) rfl rfl)) rfl (X.field rfl (Sx.ev 3 (.pointer (some ⟨w.heap.size, 0, none⟩)) (by kernel_rfl)) (X.fld Try.underlying25 rfl (Try.siz22 _) rfl rfl)) (hR.step (Gr.refl _) rfl)
        · intro ac done u W Sx hR
          have g : Gr w16 W := hR.1
          exact X.val (X.w1 rfl (Sx.yl 3 46 true (by kernel_rfl) rfl rfl)) rfl (X.load rfl (Sx.ev 49 (.pointer (some ⟨w.heap.size, 0, none⟩)) (by kernel_rfl)) (X.ld1 (Try.agg22 _) ((hC.gr g).at 4 rfl))) (hR.step (Gr.refl _) rfl)
        · intro ac done u W Sx hR
          have g : Gr w16 W := hR.1
          exact X.val (X.w1 rfl (Sx.yl 3 46 true (by kernel_rfl) rfl rfl)) rfl (X.len1 Try.underlying22 rfl (Sx.ev 50 (.slice (some pd27) tn tc) (by kernel_rfl))) (hR.step (Gr.refl _) rfl)
        · intro ac done u W Sx hR
          have g : Gr w16 W := hR.1
          exact X.val (X.w1 rfl (Sx.yl 3 46 true (by kernel_rfl) rfl rfl)) rfl (X.binop rfl (Sx.ev 48 (.int .i64 p.c) (by kernel_rfl)) (Sx.ev 51 (.int .i64 tn) (by kernel_rfl)) (X.lssI Try.underlying3 h25)) (hR.step (Gr.refl _) rfl)
        · intro ac done u W Sx hR
          have g : Gr w16 W := hR.1
          exact X.val (X.w0 rfl) rfl (X.pickT rfl (Sx.ev 46 (.bool true) (by kernel_rfl)) (Sx.ev 52 (.bool true) (by kernel_rfl))) (hR.step (Gr.refl _) rfl)
        · intro ac done u W Sx hR
          have g : Gr w16 W := hR.1
          exact X.val (X.w0 rfl) rfl (X.move rfl (Sx.ev 53 (.bool true) (by kernel_rfl))) (hR.step (Gr.refl _) rfl)
        · intro ac done u W Sx hR
          have g : Gr w16 W := hR.1
          exact X.val (X.w1 rfl (Sx.yl 11 54 true (by kernel_rfl) rfl rfl)) rfl (X.field rfl (Sx.ev 7 (.pointer (some ⟨w6.heap.size, 0, none⟩)) (by kernel_rfl)) (X.fld Try.underlying46 rfl (Try.siz3 _) rfl rfl)) (hR.step (Gr.refl _) rfl)
        · intro ac done u W Sx hR
          have g : Gr w16 W := hR.1
          exact X.val (X.w1 rfl (Sx.yl 11 54 true (by kernel_rfl) rfl rfl)) rfl (X.load rfl (Sx.ev 55 (.pointer (some ⟨w6.heap.size, 1, none⟩)) (by kernel_rfl)) (X.ld1 (Try.agg3 _) ((hC.gr g).at 1 rfl))) (hR.step (Gr.refl _) rfl)
        · intro ac done u W Sx hR
          have g : Gr w16 W := hR.1
          exact X.val (X.w1 rfl (Sx.yl 11 54 true (by kernel_rfl) rfl rfl)) rfl (X.field rfl (Sx.ev 3 (.pointer (some ⟨w.heap.size, 0, none⟩)) (by kernel_rfl)) (X.fld Try.underlying25 rfl (Try.siz22 _) rfl rfl)) (hR.step (Gr.refl _) rfl)
        · intro ac done u W Sx hR
          have g : Gr w16 W := hR.1
          exact X.val (X.w1 rfl (Sx.yl 11 54 true (by kernel_rfl) rfl rfl)) rfl (X.load rfl (Sx.ev 57 (.pointer (some ⟨w.heap.size, 0, none⟩)) (by kernel_rfl)) (X.ld1 (Try.agg22 _) ((hC.gr g).at 4 rfl))) (hR.step (Gr.refl _) rfl)
        · intro ac done u W Sx hR
          have g : Gr w16 W := hR.1
          exact X.val (X.w1 rfl (Sx.yl 11 54 true (by kernel_rfl) rfl rfl)) rfl (X.field rfl (Sx.ev 7 (.pointer (some ⟨w6.heap.size, 0, none⟩)) (by kernel_rfl)) (X.fld Try.underlying46 rfl (Try.siz3 _) rfl rfl)) (hR.step (Gr.refl _) rfl)
        · intro ac done u W Sx hR
          have g : Gr w16 W := hR.1
          exact X.val (X.w1 rfl (Sx.yl 11 54 true (by kernel_rfl) rfl rfl)) rfl (X.load rfl (Sx.ev 59 (.pointer (some ⟨w6.heap.size, 0, none⟩)) (by kernel_rfl)) (X.ld1 (Try.agg3 _) ((hC.gr g).at 0 rfl))) (hR.step (Gr.refl _) rfl)
        · intro ac done u W Sx hR
          have g : Gr w16 W := hR.1
          exact X.val (X.w1 rfl (Sx.yl 11 54 true (by kernel_rfl) rfl rfl)) rfl (X.index rfl (Sx.ev 58 (.slice (some pd27) tn tc) (by kernel_rfl)) (Sx.ev 60 (.int .i64 p.c) (by kernel_rfl)) (X.idx (k := p.c.toNat) Try.underlying22 (Try.siz26 _) (by omega) (by omega) (by rw [Nat.mul_one]))) (hR.step (Gr.refl _) rfl)
        · intro ac done u W Sx hR
          have g : Gr w16 W := hR.1
          exact X.val (X.w1 rfl (Sx.yl 11 54 true (by kernel_rfl) rfl rfl)) rfl (X.load rfl (Sx.ev 61 (.pointer (some (pd27.add p.c.toNat))) (by kernel_rfl)) (X.ld1 (Try.agg26 _) ((hC.gr g).at 12 rfl))) (hR.step (Gr.refl _) rfl)
        · intro ac done u W Sx hR
          have g : Gr w16 W := hR.1
          exact X.val (X.w1 rfl (Sx.yl 11 54 true (by kernel_rfl) rfl rfl)) rfl (X.len1 Try.underlying26 rfl (Sx.ev 62 (.slice pa27 rn27 pq27) (by kernel_rfl))) (hR.step (Gr.refl _) rfl)
        · intro ac done u W Sx hR
          have g : Gr w16 W := hR.1
          exact X.val (X.w1 rfl (Sx.yl 11 54 true (by kernel_rfl) rfl rfl)) rfl (X.binop rfl (Sx.ev 56 (.int .i64 p.v) (by kernel_rfl)) (Sx.ev 63 (.int .i64 rn27) (by kernel_rfl)) (X.leqI Try.underlying3 h30)) (hR.step (Gr.refl _) rfl)
        · intro ac done u W Sx hR
          have g : Gr w16 W := hR.1
          exact X.val (X.w0 rfl) rfl (X.pickT rfl (Sx.ev 54 (.bool true) (by kernel_rfl)) (Sx.ev 64 (.bool true) (by kernel_rfl))) (hR.step (Gr.refl _) rfl)
        · intro ac done u W Sx hR
          have g : Gr w16 W := hR.1
          exact X.val (X.w0 rfl) rfl (X.move rfl (Sx.ev 65 (.bool true) (by kernel_rfl))) (hR.step (Gr.refl _) rfl)
        · intro ac done u W Sx hR
          have g : Gr w16 W := hR.1
          exact X.val (X.w1 rfl (Sx.yl 23 66 true (by kernel_rfl) rfl rfl)) rfl (X.move rfl (Sx.ev 9 (.int .i64 (AcceptE f se p.c p.v p.data (tagR se p.c p.v p.data))) (by kernel_rfl))) (hR.step (Gr.refl _) rfl)
        · intro ac done u W Sx hR
          have g : Gr w16 W := hR.1
          exact X.val (X.w1 rfl (Sx.yl 23 66 true (by kernel_rfl) rfl rfl)) rfl (X.binop rfl (Sx.ev 67 (.int .i64 (AcceptE f se p.c p.v p.data (tagR se p.c p.v p.data))) (by kernel_rfl)) (X.kc (.int .i64 0) rfl) (X.neqI Try.underlying31 h19)) (hR.step (Gr.refl _) rfl)
        · intro ac done u W Sx hR
          have g : Gr w16 W := hR.1
          exact X.val (X.w0 rfl) rfl (X.pickT rfl (Sx.ev 66 (.bool true) (by kernel_rfl)) (Sx.ev 68 (.bool false) (by kernel_rfl))) (hR.step (Gr.refl _) rfl)
        intro ac u w32 hs hd hl ho hR
        have g : Gr w16 w32 := hR.1
        replace F : Fr ac 204 [(0, .agg #[.slice (some pd27) tn tc, .slice ca cn cc]), (1, .int .i64 se), (2, .agg #[.slice a n c, .slice (some pd8) 1 lc]), (3, .pointer (some ⟨w.heap.size, 0, none⟩)), (5, .pointer (some ⟨w4.heap.size, 0, none⟩)), (6, .bool false), (7, .pointer (some ⟨w6.heap.size, 0, none⟩)), (8, .int .i64 (tagR se p.c p.v p.data)), (9, .int .i64 (AcceptE f se p.c p.v p.data (tagR se p.c p.v p.data))), (22, .bool false), (35, .bool false), (69, .bool false)] := X.fr hs hd hl _ (by kernel_rfl)
        clear hs hd hl ho hR
        replace G := G.trans g
        replace hC := hC.gr g
        replace GA := GA.trans g
        replace hf := hf.gr g
        replace hx := hx.gr g
        replace hP := hP.gr g
        replace ht := ht.gr g
        replace hO9 := hO9.gr g
        replace pi27 := pi27.gr g
        clear g
        refine X.thenN ?_
        refine Y.condF (F.ev 69 (.bool false) (by kernel_rfl)) ?_
        refine Y.skip ?_
        refine X.thenN ?_
        refine Y.seq ?_
        refine Y.seq ?_
        refine Y.lit (by kernel_rfl) ?_
        refine Y.pval F (X.w0 rfl) rfl (X.move rfl (F.ev 9 (.int .i64 (AcceptE f se p.c p.v p.data (tagR se p.c p.v p.data))) (by kernel_rfl))) ?_
        clear F ac
        intro ac F
        refine Y.pval F (X.w0 rfl) rfl (X.binop rfl (F.ev 70 (.int .i64 (AcceptE f se p.c p.v p.data (tagR se p.c p.v p.data))) (by kernel_rfl)) (X.kc (.int .i64 0) rfl) (X.neqI Try.underlying31 h19)) ?_
        clear F ac
        intro ac F
        refine Y.nil ?_
        replace F : Fr ac 204 [(0, .agg #[.slice (some pd27) tn tc, .slice ca cn cc]), (1, .int .i64 se), (2, .agg #[.slice a n c, .slice (some pd8) 1 lc]), (3, .pointer (some ⟨w.heap.size, 0, none⟩)), (5, .pointer (some ⟨w4.heap.size, 0, none⟩)), (6, .bool false), (7, .pointer (some ⟨w6.heap.size, 0, none⟩)), (8, .int .i64 (tagR se p.c p.v p.data)), (9, .int .i64 (AcceptE f se p.c p.v p.data (tagR se p.c p.v p.data))), (22, .bool false), (35, .bool false), (69, .bool false), (71, .bool false)] := F.sub _ (by kernel_rfl)
        refine X.thenN ?_
        refine Y.condF (F.ev 71 (.bool false) (by kernel_rfl)) ?_
        refine Y.skip ?_
        refine X.thenN ?_
        refine Y.seq ?_
        refine Y.seq ?_
        refine Y.lit (by kernel_rfl) ?_
        refine Y.pval F (X.w0 rfl) rfl (X.field rfl (F.ev 7 (.pointer (some ⟨w6.heap.size, 0, none⟩)) (by kernel_rfl)) (X.fld Try.underlying46 rfl (Try.siz9 _) rfl rfl)) ?_
        clear F ac
        intro ac F
        refine Y.pval F (X.w0 rfl) rfl (X.load rfl (F.ev 73 (.pointer (some ⟨w6.heap.size, 2, none⟩)) (by kernel_rfl)) (X.ld1 (Try.agg9 _) (hC.at 2 rfl))) ?_
        clear F ac
        intro ac F
        refine Y.pval F (X.w0 rfl) rfl (Y.lenS Try.underlying9 rfl (F.ev 74 (.string p.data) (by kernel_rfl))) ?_
        clear F ac
        intro ac F
        refine Y.pval F (X.w0 rfl) rfl (X.binop rfl (F.ev 75 (.int .i64 (p.data.size : Nat)) (by kernel_rfl)) (X.kc (.int .i64 0) rfl) (X.gtrI Try.underlying3 rfl)) ?_
        clear F ac
        intro ac F
        refine Y.nil ?_
        replace F : Fr ac 204 [(0, .agg #[.slice (some pd27) tn tc, .slice ca cn cc]), (1, .int .i64 se), (2, .agg #[.slice a n c, .slice (some pd8) 1 lc]), (3, .pointer (some ⟨w.heap.size, 0, none⟩)), (5, .pointer (some ⟨w4.heap.size, 0, none⟩)), (6, .bool false), (7, .pointer (some ⟨w6.heap.size, 0, none⟩)), (8, .int .i64 (tagR se p.c p.v p.data)), (9, .int .i64 (AcceptE f se p.c p.v p.data (tagR se p.c p.v p.data))), (22, .bool false), (35, .bool false), (69, .bool false), (71, .bool false), (76, .bool (decide ((0 : Int) < (p.data.size : Nat))))] := F.sub _ (by kernel_rfl)
        refine X.thenN ?_
        cases h33 : decide ((0 : Int) < (p.data.size : Nat)) with
        | false =>
          try rw [h33] at F
          have h33p : ¬ ((0 : Int) < (p.data.size : Nat)) := of_decide_eq_false h33
          refine Y.condF (F.ev 76 (.bool false) (by kernel_rfl)) ?_
          refine Y.skip ?_
          refine X.thenN ?_
          refine Y.seq ?_
          refine Y.lit (by kernel_rfl) ?_
          refine Y.pval F (X.w0 rfl) rfl (X.load rfl (F.ev 3 (.pointer (some ⟨w.heap.size, 0, none⟩)) (by kernel_rfl)) (X.ldN (Try.agg25 _) (Try.siz25 _) (X.c2 (hC.at 4 rfl) (hC.at 5 rfl)))) ?_
          clear F ac
          intro ac F
          refine Y.pval F (X.w0 rfl) rfl (X.move rfl (F.ev 1 (.int .i64 se) (by kernel_rfl))) ?_
          clear F ac
          intro ac F
          refine Y.pval F (X.w0 rfl) rfl (X.field rfl (F.ev 5 (.pointer (some ⟨w4.heap.size, 0, none⟩)) (by kernel_rfl)) (X.fld Try.underlying55 rfl (Try.siz26 _) rfl rfl)) ?_
          clear F ac
          intro ac F
          refine Y.pval F (X.w0 rfl) rfl (X.load rfl (F.ev 122 (.pointer (some ⟨w4.heap.size, 0, none⟩)) (by kernel_rfl)) (X.ld1 (Try.agg26 _) (hC.at 6 rfl))) ?_
          clear F ac
          intro ac F
          refine Y.pval F (X.w0 rfl) rfl (X.load rfl (F.ev 7 (.pointer (some ⟨w6.heap.size, 0, none⟩)) (by kernel_rfl)) (X.ldN (Try.agg46 _) (Try.siz46 _) (X.c4 (hC.at 0 rfl) (hC.at 1 rfl) (hC.at 2 rfl) (hC.at 3 rfl)))) ?_
          clear F ac
          intro ac F
          refine Y.pval F (X.w0 rfl) rfl (X.bs rfl (X.b1 (F.ev 124 (.agg #[.int .i64 p.c, .int .i64 p.v, .string p.data, .int .i64 (tagR se p.c p.v p.data)]) (by kernel_rfl))) (Try.bs53a _ _ _ _ _)) ?_
          clear F ac
          intro ac F
          have hbl34_0 : w6.heap.size < w32.heap.size := lt_cell (hC.at 0 rfl)
          have hbl34_4 : w.heap.size < w32.heap.size := lt_cell (hC.at 4 rfl)
          have hbl34_6 : w4.heap.size < w32.heap.size := lt_cell (hC.at 6 rfl)
          have hge34 : w.heap.size ≤ w32.heap.size := G.size
          have g := Gr.alloc w32 (.cells #[.int .i64 p.c, .int .i64 p.v, .string p.data, .int .i64 (tagR se p.c p.v p.data)] 46)
          have hb := heap_alloc_new w32 (.cells #[.int .i64 p.c, .int .i64 p.v, .string p.data, .int .i64 (tagR se p.c p.v p.data)] 46)
          have hbl : w32.heap.size < (w32.alloc (.cells #[.int .i64 p.c, .int .i64 p.v, .string p.data, .int .i64 (tagR se p.c p.v p.data)] 46)).heap.size := by simp
          generalize w32.alloc (.cells #[.int .i64 p.c, .int .i64 p.v, .string p.data, .int .i64 (tagR se p.c p.v p.data)] 46) = w35 at *
          replace G := G.trans g
          replace hC := hC.gr g
          replace GA := GA.trans g
          replace hf := hf.gr g
          replace hx := hx.gr g
          replace hP := hP.gr g
          replace ht := ht.gr g
          replace hO9 := hO9.gr g
          replace pi27 := pi27.gr g
          have hPk := pk1 hb pz
          clear g hb hbl
          refine Y.pcall F (X.w0 rfl) rfl (X.enter (F := 34) rfl (X.kc (.func (.func 34) #[] #[]) rfl) (X.a4 (F.ev 120 (.agg #[.slice (some pd27) tn tc, .slice ca cn cc]) (by kernel_rfl)) (F.ev 121 (.int .i64 se) (by kernel_rfl)) (F.ev 123 (.slice a n c) (by kernel_rfl)) (F.ev 125 (.slice (some ⟨w32.heap.size, 0, none⟩) 1 1) (by kernel_rfl))) (enters_of Try.func34 (by kernel_rfl) rfl _)) (install_any (some pd27) ca a (some ⟨w32.heap.size, 0, none⟩) tn tc cn cc n c 1 1 f se xs ([⟨p.c, p.v, p.data, tagR se p.c p.v p.data⟩]) w35 hf hx hPk (Nat.le_refl 1)) ?_
          clear F ac
          rintro e w38 ⟨ia37, in37, ic37, rfl, hI37, g⟩
          refine ⟨_, rfl, ?_⟩
          intro ac F
          replace G := G.trans g
          replace hC := hC.gr g
          replace GA := GA.trans g
          replace hf := hf.gr g
          replace hx := hx.gr g
          replace hP := hP.gr g
          replace ht := ht.gr g
          replace hO9 := hO9.gr g
          replace pi27 := pi27.gr g
          replace hPk := hPk.gr g
          clear g
          refine Y.pval F (X.w0 rfl) rfl (X.move rfl (F.ev 126 (.tuple #[.slice ia37 in37 ic37, .int .i64 ((instR f se xs ([⟨p.c, p.v, p.data, tagR se p.c p.v p.data⟩])).2.1), .int .i64 ((instR f se xs ([⟨p.c, p.v, p.data, tagR se p.c p.v p.data⟩])).2.2)]) (by kernel_rfl))) ?_
          clear F ac
          intro ac F
          refine Y.pval F (X.w0 rfl) rfl (X.extract rfl (F.ev 119 (.tuple #[.slice ia37 in37 ic37, .int .i64 ((instR f se xs ([⟨p.c, p.v, p.data, tagR se p.c p.v p.data⟩])).2.1), .int .i64 ((instR f se xs ([⟨p.c, p.v, p.data, tagR se p.c p.v p.data⟩])).2.2)]) (by kernel_rfl)) rfl) ?_
          clear F ac
          intro ac F
          refine Y.pval F (X.w0 rfl) rfl (X.extract rfl (F.ev 119 (.tuple #[.slice ia37 in37 ic37, .int .i64 ((instR f se xs ([⟨p.c, p.v, p.data, tagR se p.c p.v p.data⟩])).2.1), .int .i64 ((instR f se xs ([⟨p.c, p.v, p.data, tagR se p.c p.v p.data⟩])).2.2)]) (by kernel_rfl)) rfl) ?_
          clear F ac
          intro ac F
          refine Y.pval F (X.w0 rfl) rfl (X.extract rfl (F.ev 119 (.tuple #[.slice ia37 in37 ic37, .int .i64 ((instR f se xs ([⟨p.c, p.v, p.data, tagR se p.c p.v p.data⟩])).2.1), .int .i64 ((instR f se xs ([⟨p.c, p.v, p.data, tagR se p.c p.v p.data⟩])).2.2)]) (by kernel_rfl)) rfl) ?_
          clear F ac
          intro ac F
          refine Y.pval F (X.w0 rfl) rfl (X.assign rfl (F.ev 127 (.slice ia37 in37 ic37) (by kernel_rfl))) ?_
          clear F ac
          intro ac F
          refine Y.pval F (X.w0 rfl) rfl (X.assign rfl (F.ev 128 (.int .i64 ((instR f se xs ([⟨p.c, p.v, p.data, tagR se p.c p.v p.data⟩])).2.1)) (by kernel_rfl))) ?_
          clear F ac
          intro ac F
          refine Y.pval F (X.w0 rfl) rfl (X.assign rfl (F.ev 129 (.int .i64 ((instR f se xs ([⟨p.c, p.v, p.data, tagR se p.c p.v p.data⟩])).2.2)) (by kernel_rfl))) ?_
          clear F ac
          intro ac F
          refine Y.nil ?_
          replace F : Fr ac 204 [(0, .agg #[.slice (some pd27) tn tc, .slice ca cn cc]), (1, .int .i64 se), (2, .agg #[.slice a n c, .slice (some pd8) 1 lc]), (3, .pointer (some ⟨w.heap.size, 0, none⟩)), (5, .pointer (some ⟨w4.heap.size, 0, none⟩)), (6, .bool false), (7, .pointer (some ⟨w6.heap.size, 0, none⟩)), (8, .int .i64 (tagR se p.c p.v p.data)), (9, .int .i64 ((instR f se xs ([⟨p.c, p.v, p.data, tagR se p.c p.v p.data⟩])).2.2)), (13, .slice ia37 in37 ic37), (22, .bool false), (35, .bool false), (69, .bool false), (71, .bool false), (76, .bool false)] := F.sub _ (by kernel_rfl)
          refine X.thenN ?_
          refine Y.seq ?_
          refine Y.seq ?_
          refine Y.lit (by kernel_rfl) ?_
          refine Y.pval F (X.w0 rfl) rfl (X.move rfl (F.ev 9 (.int .i64 ((instR f se xs ([⟨p.c, p.v, p.data, tagR se p.c p.v p.data⟩])).2.2)) (by kernel_rfl))) ?_
          clear F ac
          intro ac F
          refine Y.pval F (X.w0 rfl) rfl (X.binop rfl (F.ev 130 (.int .i64 ((instR f se xs ([⟨p.c, p.v, p.data, tagR se p.c p.v p.data⟩])).2.2)) (by kernel_rfl)) (X.kc (.int .i64 0) rfl) (X.neqI Try.underlying31 rfl)) ?_
          clear F ac
          intro ac F
          refine Y.nil ?_
          replace F : Fr ac 204 [(0, .agg #[.slice (some pd27) tn tc, .slice ca cn cc]), (1, .int .i64 se), (2, .agg #[.slice a n c, .slice (some pd8) 1 lc]), (3, .pointer (some ⟨w.heap.size, 0, none⟩)), (5, .pointer (some ⟨w4.heap.size, 0, none⟩)), (6, .bool false), (7, .pointer (some ⟨w6.heap.size, 0, none⟩)), (8, .int .i64 (tagR se p.c p.v p.data)), (9, .int .i64 ((instR f se xs ([⟨p.c, p.v, p.data, tagR se p.c p.v p.data⟩])).2.2)), (13, .slice ia37 in37 ic37), (22, .bool false), (35, .bool false), (69, .bool false), (71, .bool false), (76, .bool false), (131, .bool (((instR f se xs ([⟨p.c, p.v, p.data, tagR se p.c p.v p.data⟩])).2.2 : Int) != 0))] := F.sub _ (by kernel_rfl)
          refine X.thenN ?_
          cases h39 : (((instR f se xs ([⟨p.c, p.v, p.data, tagR se p.c p.v p.data⟩])).2.2 : Int) != 0) with
          | false =>
            try rw [h39] at F
            have h39p : ((instR f se xs ([⟨p.c, p.v, p.data, tagR se p.c p.v p.data⟩])).2.2 : Int) = 0 := by simpa using h39
            have hSG := inst_one (p := ⟨p.c, p.v, p.data, tagR se p.c p.v p.data⟩) hchk hTB.1 (by simpa using h39p) hAE
            generalize (instR f se xs [⟨p.c, p.v, p.data, tagR se p.c p.v p.data⟩]).1 = nx at *
            refine Y.condF (F.ev 131 (.bool false) (by kernel_rfl)) ?_
            refine Y.skip ?_
            refine X.thenN ?_
            refine Y.seq ?_
            refine Y.lit (by kernel_rfl) ?_
            refine Y.pval F (X.w0 rfl) rfl (X.load rfl (F.ev 3 (.pointer (some ⟨w.heap.size, 0, none⟩)) (by kernel_rfl)) (X.ldN (Try.agg25 _) (Try.siz25 _) (X.c2 (hC.at 4 rfl) (hC.at 5 rfl)))) ?_
            clear F ac
            intro ac F
            refine Y.pval F (X.w0 rfl) rfl (X.move rfl (F.ev 13 (.slice ia37 in37 ic37) (by kernel_rfl))) ?_
            clear F ac
            intro ac F
            refine Y.pcall F (X.w0 rfl) rfl (X.enter (F := 38) rfl (X.kc (.func (.func 38) #[] #[]) rfl) (X.a2 (F.ev 134 (.agg #[.slice (some pd27) tn tc, .slice ca cn cc]) (by kernel_rfl)) (F.ev 135 (.slice ia37 in37 ic37) (by kernel_rfl))) (enters_of Try.func38 (by kernel_rfl) rfl _)) (Works_any (some pd27) ca ia37 tn tc cn cc in37 ic37 f nx w38 hf hI37) ?_
            clear F ac
            rintro e w41 ⟨rfl, g⟩
            refine ⟨_, rfl, ?_⟩
            intro ac F
            replace G := G.trans g
            replace hC := hC.gr g
            replace GA := GA.trans g
            replace hf := hf.gr g
            replace hx := hx.gr g
            replace hP := hP.gr g
            replace ht := ht.gr g
            replace hO9 := hO9.gr g
            replace pi27 := pi27.gr g
            replace hPk := hPk.gr g
            replace hI37 := hI37.gr g
            clear g
            refine Y.pval F (X.w0 rfl) rfl (X.move rfl (F.ev 136 (.tuple #[.int .i64 (wI f nx), .bool (wB f nx), .int .i64 (wE f nx)]) (by kernel_rfl))) ?_
            clear F ac
            intro ac F
            refine Y.pval F (X.w0 rfl) rfl (X.extract rfl (F.ev 133 (.tuple #[.int .i64 (wI f nx), .bool (wB f nx), .int .i64 (wE f nx)]) (by kernel_rfl)) rfl) ?_
            clear F ac
            intro ac F
            refine Y.pval F (X.w0 rfl) rfl (X.extract rfl (F.ev 133 (.tuple #[.int .i64 (wI f nx), .bool (wB f nx), .int .i64 (wE f nx)]) (by kernel_rfl)) rfl) ?_
            clear F ac
            intro ac F
            refine Y.pval F (X.w0 rfl) rfl (X.extract rfl (F.ev 133 (.tuple #[.int .i64 (wI f nx), .bool (wB f nx), .int .i64 (wE f nx)]) (by kernel_rfl)) rfl) ?_
            clear F ac
            intro ac F
            refine Y.pval F (X.w0 rfl) rfl (X.assign rfl (F.ev 137 (.int .i64 (wI f nx)) (by kernel_rfl))) ?_
            clear F ac
            intro ac F
            refine Y.pval F (X.w0 rfl) rfl (X.assign rfl (F.ev 138 (.bool (wB f nx)) (by kernel_rfl))) ?_
            clear F ac
            intro ac F
            refine Y.pval F (X.w0 rfl) rfl (X.assign rfl (F.ev 139 (.int .i64 (wE f nx)) (by kernel_rfl))) ?_
            clear F ac
            intro ac F
            refine Y.nil ?_
            replace F : Fr ac 204 [(0, .agg #[.slice (some pd27) tn tc, .slice ca cn cc]), (1, .int .i64 se), (2, .agg #[.slice a n c, .slice (some pd8) 1 lc]), (3, .pointer (some ⟨w.heap.size, 0, none⟩)), (5, .pointer (some ⟨w4.heap.size, 0, none⟩)), (6, .bool false), (7, .pointer (some ⟨w6.heap.size, 0, none⟩)), (8, .int .i64 (tagR se p.c p.v p.data)), (9, .int .i64 ((instR f se xs ([⟨p.c, p.v, p.data, tagR se p.c p.v p.data⟩])).2.2)), (13, .slice ia37 in37 ic37), (16, .bool (wB f nx)), (17, .int .i64 (wE f nx)), (22, .bool false), (35, .bool false), (69, .bool false), (71, .bool false), (76, .bool false), (131, .bool false)] := F.sub _ (by kernel_rfl)
            refine X.thenN ?_
            refine Y.seq ?_
            refine Y.seq ?_
            refine Y.lit (by kernel_rfl) ?_
            refine Y.pval F (X.w0 rfl) rfl (X.move rfl (F.ev 17 (.int .i64 (wE f nx)) (by kernel_rfl))) ?_
            clear F ac
            intro ac F
            refine Y.pval F (X.w0 rfl) rfl (X.binop rfl (F.ev 140 (.int .i64 (wE f nx)) (by kernel_rfl)) (X.kc (.int .i64 0) rfl) (X.neqI Try.underlying31 rfl)) ?_
            clear F ac
            intro ac F
            refine Y.pval F (X.w0 rfl) rfl (X.move rfl (F.ev 141 (.bool ((wE f nx : Int) != 0)) (by kernel_rfl))) ?_
            clear F ac
            intro ac F
            have h43 : ((wE f nx : Int) != 0) = false := by rw [wE_zero hchk hSG.st]; rfl
            try rw [h43] at F
            refine Y.pval F (X.w1 rfl (F.yl (j := 2) (d := 142) (b := false) rfl (by kernel_rfl))) rfl (X.move rfl (F.ev 16 (.bool (wB f nx)) (by kernel_rfl))) ?_
            clear F ac
            intro ac F
            refine Y.pval F (X.w1 rfl (F.yl (j := 2) (d := 142) (b := false) rfl (by kernel_rfl))) rfl (X.notB rfl (F.ev 143 (.bool (wB f nx)) (by kernel_rfl)) rfl) ?_
            clear F ac
            intro ac F
            refine Y.pval F (X.w0 rfl) rfl (X.pickF rfl (F.ev 142 (.bool false) (by kernel_rfl)) (F.ev 144 (.bool (!(wB f nx))) (by kernel_rfl))) ?_
            clear F ac
            intro ac F
            refine Y.pval F (X.w0 rfl) rfl (X.move rfl (F.ev 145 (.bool (!(wB f nx))) (by kernel_rfl))) ?_
            clear F ac
            intro ac F
            have h45 : wB f nx = true := wB_true hchk hSG.st hSG.w
            try rw [h45] at F
            refine Y.pval F (X.w1 rfl (F.yl (j := 6) (d := 146) (b := false) rfl (by kernel_rfl))) rfl (X.move rfl (F.ev 13 (.slice ia37 in37 ic37) (by kernel_rfl))) ?_
            clear F ac
            intro ac F
            refine Y.pval F (X.w1 rfl (F.yl (j := 6) (d := 146) (b := false) rfl (by kernel_rfl))) rfl (X.len1 Try.underlying26 rfl (F.ev 147 (.slice ia37 in37 ic37) (by kernel_rfl))) ?_
            clear F ac
            intro ac F
            refine Y.pval F (X.w1 rfl (F.yl (j := 6) (d := 146) (b := false) rfl (by kernel_rfl))) rfl (X.field rfl (F.ev 5 (.pointer (some ⟨w4.heap.size, 0, none⟩)) (by kernel_rfl)) (X.fld Try.underlying55 rfl (Try.siz26 _) rfl rfl)) ?_
            clear F ac
            intro ac F
            refine Y.pval F (X.w1 rfl (F.yl (j := 6) (d := 146) (b := false) rfl (by kernel_rfl))) rfl (X.load rfl (F.ev 149 (.pointer (some ⟨w4.heap.size, 0, none⟩)) (by kernel_rfl)) (X.ld1 (Try.agg26 _) (hC.at 6 rfl))) ?_
            clear F ac
            intro ac F
            refine Y.pval F (X.w1 rfl (F.yl (j := 6) (d := 146) (b := false) rfl (by kernel_rfl))) rfl (X.len1 Try.underlying26 rfl (F.ev 150 (.slice a n c) (by kernel_rfl))) ?_
            clear F ac
            intro ac F
            refine Y.pval F (X.w1 rfl (F.yl (j := 6) (d := 146) (b := false) rfl (by kernel_rfl))) rfl (X.binop rfl (F.ev 148 (.int .i64 in37) (by kernel_rfl)) (F.ev 151 (.int .i64 n) (by kernel_rfl)) (X.neqI Try.underlying3 rfl)) ?_
            clear F ac
            intro ac F
            refine Y.pval F (X.w0 rfl) rfl (X.pickF rfl (F.ev 146 (.bool false) (by kernel_rfl)) (F.ev 152 (.bool ((in37 : Int) != n)) (by kernel_rfl))) ?_
            clear F ac
            intro ac F
            refine Y.nil ?_
            replace F : Fr ac 204 [(0, .agg #[.slice (some pd27) tn tc, .slice ca cn cc]), (1, .int .i64 se), (2, .agg #[.slice a n c, .slice (some pd8) 1 lc]), (3, .pointer (some ⟨w.heap.size, 0, none⟩)), (5, .pointer (some ⟨w4.heap.size, 0, none⟩)), (6, .bool false), (7, .pointer (some ⟨w6.heap.size, 0, none⟩)), (8, .int .i64 (tagR se p.c p.v p.data)), (9, .int .i64 ((instR f se xs ([⟨p.c, p.v, p.data, tagR se p.c p.v p.data⟩])).2.2)), (13, .slice ia37 in37 ic37), (16, .bool true), (17, .int .i64 (wE f nx)), (22, .bool false), (35, .bool false), (69, .bool false), (71, .bool false), (76, .bool false), (131, .bool false), (153, .bool ((in37 : Int) != n))] := F.sub _ (by kernel_rfl)
            refine X.thenN ?_
            have h47 : ((in37 : Int) != n) = false := by have h1 := hSG.len; have h2 := hI37.len; have h3 := hx.len; simp; omega
            try rw [h47] at F
            refine Y.condF (F.ev 153 (.bool false) (by kernel_rfl)) ?_
            refine Y.skip ?_
            refine X.thenN ?_
            refine Y.seq ?_
            refine Y.seq ?_
            refine Y.lit (by kernel_rfl) ?_
            refine Y.pval F (X.w0 rfl) rfl (X.assign rfl (X.kc (.int .i64 0) rfl)) ?_
            clear F ac
            intro ac F
            refine Y.nil ?_
            replace F : Fr ac 204 [(0, .agg #[.slice (some pd27) tn tc, .slice ca cn cc]), (1, .int .i64 se), (2, .agg #[.slice a n c, .slice (some pd8) 1 lc]), (3, .pointer (some ⟨w.heap.size, 0, none⟩)), (5, .pointer (some ⟨w4.heap.size, 0, none⟩)), (6, .bool false), (7, .pointer (some ⟨w6.heap.size, 0, none⟩)), (8, .int .i64 (tagR se p.c p.v p.data)), (9, .int .i64 ((instR f se xs ([⟨p.c, p.v, p.data, tagR se p.c p.v p.data⟩])).2.2)), (13, .slice ia37 in37 ic37), (16, .bool true), (17, .int .i64 (wE f nx)), (18, .int .i64 0), (22, .bool false), (35, .bool false), (69, .bool false), (71, .bool false), (76, .bool false), (131, .bool false), (153, .bool false)] := F.sub _ (by kernel_rfl)
            refine X.thenN ?_
            refine Y.block ?_
            have hfB := hf
            have hxB := hx
            have hPB := hP
            have htB := ht
            have pi27B := pi27
            have hPkB := hPk
            have hI37B := hI37
            have hCB := hC
            have GB := G
            refine Y.loop (fun me_ ac wr => ∃ (k : Nat), me_ = in37 - k ∧ Gr w41 wr ∧ k ≤ in37 ∧ Fr ac 204 [(0, .agg #[.slice (some pd27) tn tc, .slice ca cn cc]), (1, .int .i64 se), (2, .agg #[.slice a n c, .slice (some pd8) 1 lc]), (3, .pointer (some ⟨w.heap.size, 0, none⟩)), (5, .pointer (some ⟨w4.heap.size, 0, none⟩)), (7, .pointer (some ⟨w6.heap.size, 0, none⟩)), (8, .int .i64 (tagR se p.c p.v p.data)), (9, .int .i64 ((instR f se xs ([⟨p.c, p.v, p.data, tagR se p.c p.v p.data⟩])).2.2)), (13, .slice ia37 in37 ic37), (16, .bool true), (17, .int .i64 (wE f nx)), (18, .int .i64 k), (22, .bool false), (35, .bool false), (69, .bool false), (71, .bool false), (76, .bool false), (131, .bool false), (153, .bool false)]) _ ⟨0, rfl, Gr.refl _, Nat.zero_le _, F.sub _ (by kernel_rfl)⟩ ?_
            clear F
            intro me_ ac w48 hI
            obtain ⟨k, rfl, gr, hk, F⟩ := hI
            replace G := GB.trans gr
            replace hC := hCB.gr gr
            replace hf := hfB.gr gr
            replace hx := hxB.gr gr
            replace hP := hPB.gr gr
            replace ht := htB.gr gr
            replace pi27 := pi27B.gr gr
            replace hPk := hPkB.gr gr
            replace hI37 := hI37B.gr gr
            have GB_ := gr
            clear gr
            refine Y.seq ?_
            refine Y.seq ?_
            refine Y.lit (by kernel_rfl) ?_
            refine Y.pval F (X.w0 rfl) rfl (X.move rfl (F.ev 18 (.int .i64 k) (by kernel_rfl))) ?_
            clear F ac
            intro ac F
            refine Y.pval F (X.w0 rfl) rfl (X.move rfl (F.ev 13 (.slice ia37 in37 ic37) (by kernel_rfl))) ?_
            clear F ac
            intro ac F
            refine Y.pval F (X.w0 rfl) rfl (X.len1 Try.underlying26 rfl (F.ev 155 (.slice ia37 in37 ic37) (by kernel_rfl))) ?_
            clear F ac
            intro ac F
            refine Y.pval F (X.w0 rfl) rfl (X.binop rfl (F.ev 154 (.int .i64 k) (by kernel_rfl)) (F.ev 156 (.int .i64 in37) (by kernel_rfl)) (X.lssI Try.underlying3 rfl)) ?_
            clear F ac
            intro ac F
            refine Y.nil ?_
            replace F : Fr ac 204 [(0, .agg #[.slice (some pd27) tn tc, .slice ca cn cc]), (1, .int .i64 se), (2, .agg #[.slice a n c, .slice (some pd8) 1 lc]), (3, .pointer (some ⟨w.heap.size, 0, none⟩)), (5, .pointer (some ⟨w4.heap.size, 0, none⟩)), (7, .pointer (some ⟨w6.heap.size, 0, none⟩)), (8, .int .i64 (tagR se p.c p.v p.data)), (9, .int .i64 ((instR f se xs ([⟨p.c, p.v, p.data, tagR se p.c p.v p.data⟩])).2.2)), (13, .slice ia37 in37 ic37), (16, .bool true), (17, .int .i64 (wE f nx)), (18, .int .i64 k), (22, .bool false), (35, .bool false), (69, .bool false), (71, .bool false), (76, .bool false), (131, .bool false), (153, .bool false), (157, .bool (decide ((k : Int) < in37)))] := F.sub _ (by kernel_rfl)
            refine X.thenN ?_
            cases h49 : decide ((k : Int) < in37) with
            | false =>
              try rw [h49] at F
              have h49p : ¬ ((k : Int) < in37) := of_decide_eq_false h49
              refine Y.condF (F.ev 157 (.bool false) (by kernel_rfl)) ?_
              refine Y.exit ?_
              refine X.thenX ?_
              refine X.thenX ?_
              refine X.blockX ?_
              refine X.thenN ?_
              refine Y.seq ?_
              refine Y.lit (by kernel_rfl) ?_
              refine Y.pcall F (X.w0 rfl) rfl (X.enter (F := 16) rfl (X.kc (.func (.func 16) #[] #[]) rfl) rfl (enters_of Try.func16 (by kernel_rfl) rfl _)) (look_any w48) ?_
              clear F ac
              rintro e w51 ⟨rfl, g⟩
              refine ⟨_, rfl, ?_⟩
              intro ac F
              replace G := G.trans g
              replace hC := hC.gr g
              replace GB_ := GB_.trans g
              replace hf := hf.gr g
              replace hx := hx.gr g
              replace hP := hP.gr g
              replace ht := ht.gr g
              replace pi27 := pi27.gr g
              replace hPk := hPk.gr g
              replace hI37 := hI37.gr g
              clear g
              refine Y.pval F (X.w0 rfl) rfl (X.assign rfl (F.ev 203 (.bool true) (by kernel_rfl))) ?_
              clear F ac
              intro ac F
              refine Y.nil ?_
              replace F : Fr ac 204 [(0, .agg #[.slice (some pd27) tn tc, .slice ca cn cc]), (1, .int .i64 se), (2, .agg #[.slice a n c, .slice (some pd8) 1 lc]), (3, .pointer (some ⟨w.heap.size, 0, none⟩)), (5, .pointer (some ⟨w4.heap.size, 0, none⟩)), (6, .bool true), (7, .pointer (some ⟨w6.heap.size, 0, none⟩)), (8, .int .i64 (tagR se p.c p.v p.data)), (9, .int .i64 ((instR f se xs ([⟨p.c, p.v, p.data, tagR se p.c p.v p.data⟩])).2.2)), (13, .slice ia37 in37 ic37), (16, .bool true), (17, .int .i64 (wE f nx)), (18, .int .i64 k), (22, .bool false), (35, .bool false), (69, .bool false), (71, .bool false), (76, .bool false), (131, .bool false), (153, .bool false), (157, .bool false)] := F.sub _ (by kernel_rfl)
              refine X.thenN ?_
              refine Y.ret ?_
              exact Y.ret0 F (Y.rs1 F rfl (by kernel_rfl)) ⟨rfl, G⟩
            | true =>
              try rw [h49] at F
              have h49p : ((k : Int) < in37) := of_decide_eq_true h49
              have hkn : k < n := by have h1 := hSG.len; have h2 := hI37.len; have h3 := hx.len; omega
              have hil := hI37.lt
              refine Y.condT (F.ev 157 (.bool true) (by kernel_rfl)) ?_
              refine Y.skip ?_
              refine X.thenN ?_
              refine Y.seq ?_
              refine Y.block ?_
              refine Y.seq ?_
              cases h52 : ((k : Int) == p.c) with
              | false =>
                try rw [h52] at F
                have h52p : ¬ (k : Int) = p.c := by simpa using h52
                have h54 : ((k : Int) != p.c) = true := by have h := h52; simp at h ⊢; exact h
                try rw [h54] at F
                obtain ⟨pd55, pe55, -, pc55⟩ := hI37.at (j := k) (by omega)
                subst pe55
                replace hC : RCells w48 [(⟨w6.heap.size, 0, none⟩, .int .i64 p.c), (⟨w6.heap.size, 1, none⟩, .int .i64 p.v), (⟨w6.heap.size, 2, none⟩, .string p.data), (⟨w6.heap.size, 3, none⟩, .int .i64 (tagR se p.c p.v p.data)), (⟨w.heap.size, 0, none⟩, .slice (some pd27) tn tc), (⟨w.heap.size, 1, none⟩, .slice ca cn cc), (⟨w4.heap.size, 0, none⟩, .slice a n c), (⟨w4.heap.size, 1, none⟩, .slice (some pd8) 1 lc), (pd8.add (0 * 4), .int .i64 p.c), (⟨(pd8.add (0 * 4)).block, (pd8.add (0 * 4)).off + 1, none⟩, .int .i64 p.v), (⟨(pd8.add (0 * 4)).block, (pd8.add (0 * 4)).off + 2, none⟩, .string p.data), (⟨(pd8.add (0 * 4)).block, (pd8.add (0 * 4)).off + 3, none⟩, .int .i64 p.tg), (pd27.add p.c.toNat, .slice pa27 rn27 pq27), (pd55.add k, .int .i64 (nx[k]?.getD 0))] := hC.append ((RCells.cons pc55 (RCells.nil _)))
                clear pc55
                obtain ⟨pd56, pe56, -, pc56⟩ := hx.at (j := k) (by omega)
                subst pe56
                replace hC : RCells w48 [(⟨w6.heap.size, 0, none⟩, .int .i64 p.c), (⟨w6.heap.size, 1, none⟩, .int .i64 p.v), (⟨w6.heap.size, 2, none⟩, .string p.data), (⟨w6.heap.size, 3, none⟩, .int .i64 (tagR se p.c p.v p.data)), (⟨w.heap.size, 0, none⟩, .slice (some pd27) tn tc), (⟨w.heap.size, 1, none⟩, .slice ca cn cc), (⟨w4.heap.size, 0, none⟩, .slice (some pd56) n c), (⟨w4.heap.size, 1, none⟩, .slice (some pd8) 1 lc), (pd8.add (0 * 4), .int .i64 p.c), (⟨(pd8.add (0 * 4)).block, (pd8.add (0 * 4)).off + 1, none⟩, .int .i64 p.v), (⟨(pd8.add (0 * 4)).block, (pd8.add (0 * 4)).off + 2, none⟩, .string p.data), (⟨(pd8.add (0 * 4)).block, (pd8.add (0 * 4)).off + 3, none⟩, .int .i64 p.tg), (pd27.add p.c.toNat, .slice pa27 rn27 pq27), (pd55.add k, .int .i64 (nx[k]?.getD 0)), (pd56.add k, .int .i64 (xs[k]?.getD 0))] := hC.append ((RCells.cons pc56 (RCells.nil _)))
                clear pc56
                refine Y.region F [some (.int .i64 k), some (.pointer (some ⟨w6.heap.size, 0, none⟩)), some (.int .i64 p.c), some (.bool false), some (.bool false), none, none, none, none, none, none, none, none, none, none, none, none, none, none, none, none, none, none, none, some (.bool false), some (.bool false), some (.int .i64 k), some (.pointer (some ⟨w6.heap.size, 0, none⟩)), some (.int .i64 p.c), some (.bool true), some (.bool true), some (.slice (some pd55) in37 ic37), some (.int .i64 k), some (.pointer (some (pd55.add k))), some (.int .i64 (nx[k]?.getD 0)), some (.pointer (some ⟨w4.heap.size, 0, none⟩)), some (.slice (some pd56) n c), some (.int .i64 k), some (.pointer (some (pd56.add k))), some (.int .i64 (xs[k]?.getD 0)), some (.bool ((nx[k]?.getD 0 : Int) != (xs[k]?.getD 0))), some (.bool ((nx[k]?.getD 0 : Int) != (xs[k]?.getD 0))), some (.bool ((nx[k]?.getD 0 : Int) != (xs[k]?.getD 0)))] [(12, Y.MP.un)] rfl ⟨by kernel_rfl, of_decide_eq_true (by kernel_rfl), by kernel_rfl, by kernel_rfl, by kernel_rfl⟩ ⟨?_, ?_, ?_, ?_, ?_, ?_, ?_, ?_, ?_, ?_, ?_, ?_, ?_, ?_, ?_, ?_, ?_, ?_, ?_, ?_, ?_, ?_, ?_, ?_, ?_, ?_, ?_, ?_, ?_, ?_, ?_, ?_, ?_, ?_, ?_, ?_, ?_, ?_, ?_, ?_, ?_, ?_, ?_, trivial⟩ ?_
                · intro ac done u W Sx hR
                  have g : Gr w48 W := hR.1
                  exact X.val (X.w0 rfl) rfl (X.move rfl (Sx.ev 18 (.int .i64 k) (by kernel_rfl))) (hR.step (Gr.refl _) rfl)
                · intro ac done u W Sx hR
                  have g : Gr w48 W := hR.1
                  exact X.val (X.w0 rfl) rfl (X.field rfl (Sx.ev 7 (.pointer (some ⟨w6.heap.size, 0, none⟩)) (by kernel_rfl)) (X.fld Try.underlying46 rfl (Try.siz3 _) rfl rfl)) (hR.step (Gr.refl _) rfl)
                · intro ac done u W Sx hR
                  have g : Gr w48 W := hR.1
                  exact X.val (X.w0 rfl) rfl (X.load rfl (Sx.ev 161 (.pointer (some ⟨w6.heap.size, 0, none⟩)) (by kernel_rfl)) (X.ld1 (Try.agg3 _) ((hC.gr g).at 0 rfl))) (hR.step (Gr.refl _) rfl)
                · intro ac done u W Sx hR
                  have g : Gr w48 W := hR.1
                  exact X.val (X.w0 rfl) rfl (X.binop rfl (Sx.ev 160 (.int .i64 k) (by kernel_rfl)) (Sx.ev 162 (.int .i64 p.c) (by kernel_rfl)) (X.eqlI Try.underlying3 h52)) (hR.step (Gr.refl _) rfl)
                · intro ac done u W Sx hR
                  have g : Gr w48 W := hR.1
                  exact X.val (X.w0 rfl) rfl (X.move rfl (Sx.ev 163 (.bool false) (by kernel_rfl))) (hR.step (Gr.refl _) rfl)
                · intro ac done u W Sx hR
                  have g : Gr w48 W := hR.1
                  exact X.skip (X.w2 rfl (Sx.yl 4 164 false (by kernel_rfl) rfl rfl) rfl) rfl (hR.skip rfl)
                · intro ac done u W Sx hR
                  have g : Gr w48 W := hR.1
                  exact X.skip (X.w2 rfl (Sx.yl 4 164 false (by kernel_rfl) rfl rfl) rfl) rfl (hR.skip rfl)
                · intro ac done u W Sx hR
                  have g : Gr w48 W := hR.1
                  exact X.skip (X.w2 rfl (Sx.yl 4 164 false (by kernel_rfl) rfl rfl) rfl) rfl (hR.skip rfl)
                · intro ac done u W Sx hR
                  have g : Gr w48 W := hR.1
                  exact X.skip (X.w2 rfl (Sx.yl 4 164 false (by kernel_rfl) rfl rfl) rfl) rfl (hR.skip rfl)
                · intro ac done u W Sx hR
                  have g : Gr w48 W := hR.1
                  exact X.skip (X.w2 rfl (Sx.yl 4 164 false (by kernel_rfl) rfl rfl) rfl) rfl (hR.skip rfl)
                · intro ac done u W Sx hR
                  have g : Gr w48 W := hR.1
                  exact X.skip (X.w2 rfl (Sx.yl 4 164 false (by kernel_rfl) rfl rfl) rfl) rfl (hR.skip rfl)
                · intro ac done u W Sx hR
                  have g : Gr w48 W := hR.1
                  exact X.skip (X.w2 rfl (Sx.yl 4 164 false (by kernel_rfl) rfl rfl) rfl) rfl (hR.skip rfl)
                · intro ac done u W Sx hR
                  have g : Gr w48 W := hR.1
                  exact X.skip (X.w2 rfl (Sx.yl 4 164 false (by kernel_rfl) rfl rfl) rfl) rfl (hR.skipU rfl)
                · intro ac done u W Sx hR
                  have g : Gr w48 W := hR.1
                  have e12 := hR.get (i := 12) Y.MP.un rfl (Sx.an 12 (by kernel_rfl))
                  exact X.skip (Y.w3 rfl (Sx.yn (j := 12) (d := 172) rfl e12)) rfl (hR.skip rfl)
                · intro ac done u W Sx hR
                  have g : Gr w48 W := hR.1
                  have e12 := hR.get (i := 12) Y.MP.un rfl (Sx.an 12 (by kernel_rfl))
                  exact X.skip (Y.w3 rfl (Sx.yn (j := 12) (d := 172) rfl e12)) rfl (hR.skip rfl)
                · intro ac done u W Sx hR
                  have g : Gr w48 W := hR.1
                  have e12 := hR.get (i := 12) Y.MP.un rfl (Sx.an 12 (by kernel_rfl))
                  exact X.skip (Y.w3 rfl (Sx.yn (j := 12) (d := 172) rfl e12)) rfl (hR.skip rfl)
                · intro ac done u W Sx hR
                  have g : Gr w48 W := hR.1
                  have e12 := hR.get (i := 12) Y.MP.un rfl (Sx.an 12 (by kernel_rfl))
                  exact X.skip (Y.w3 rfl (Sx.yn (j := 12) (d := 172) rfl e12)) rfl (hR.skip rfl)
                · intro ac done u W Sx hR
                  have g : Gr w48 W := hR.1
                  have e12 := hR.get (i := 12) Y.MP.un rfl (Sx.an 12 (by kernel_rfl))
                  exact X.skip (Y.w3 rfl (Sx.yn (j := 12) (d := 172) rfl e12)) rfl (hR.skip rfl)
                · intro ac done u W Sx hR
                  have g : Gr w48 W := hR.1
                  have e12 := hR.get (i := 12) Y.MP.un rfl (Sx.an 12 (by kernel_rfl))
                  exact X.skip (Y.w3 rfl (Sx.yn (j := 12) (d := 172) rfl e12)) rfl (hR.skip rfl)
                · intro ac done u W Sx hR
                  have g : Gr w48 W := hR.1
                  have e12 := hR.get (i := 12) Y.MP.un rfl (Sx.an 12 (by kernel_rfl))
                  exact X.skip (Y.w3 rfl (Sx.yn (j := 12) (d := 172) rfl e12)) rfl (hR.skip rfl)
                · intro ac done u W Sx hR
                  have g : Gr w48 W := hR.1
                  have e12 := hR.get (i := 12) Y.MP.un rfl (Sx.an 12 (by kernel_rfl))
                  exact X.skip (Y.w3 rfl (Sx.yn (j := 12) (d := 172) rfl e12)) rfl (hR.skip rfl)
                · intro ac done u W Sx hR
                  have g : Gr w48 W := hR.1
                  have e12 := hR.get (i := 12) Y.MP.un rfl (Sx.an 12 (by kernel_rfl))
                  exact X.skip (Y.w3 rfl (Sx.yn (j := 12) (d := 172) rfl e12)) rfl (hR.skip rfl)
                · intro ac done u W Sx hR
                  have g : Gr w48 W := hR.1
                  have e12 := hR.get (i := 12) Y.MP.un rfl (Sx.an 12 (by kernel_rfl))
                  exact X.skip (Y.w3 rfl (Sx.yn (j := 12) (d := 172) rfl e12)) rfl (hR.skip rfl)
                · intro ac done u W Sx hR
                  have g : Gr w48 W := hR.1
                  exact X.skip (X.w2 rfl (Sx.yl 4 164 false (by kernel_rfl) rfl rfl) rfl) rfl (hR.skip rfl)
                · intro ac done u W Sx hR
                  have g : Gr w48 W := hR.1
                  exact X.val (X.w0 rfl) rfl (X.pickF rfl (Sx.ev 164 (.bool false) (by kernel_rfl)) (X.kc (.bool false) rfl)) (hR.step (Gr.refl _) rfl)
                · intro ac done u W Sx hR
                  have g : Gr w48 W := hR.1
                  exact X.val (X.w0 rfl) rfl (X.move rfl (Sx.ev 184 (.bool false) (by kernel_rfl))) (hR.step (Gr.refl _) rfl)
                · intro ac done u W Sx hR
                  have g : Gr w48 W := hR.1
                  exact X.val (X.w1 rfl (Sx.yl 25 185 false (by kernel_rfl) rfl rfl)) rfl (X.move rfl (Sx.ev 18 (.int .i64 k) (by kernel_rfl))) (hR.step (Gr.refl _) rfl)
                · intro ac done u W Sx hR
                  have g : Gr w48 W := hR.1
                  exact X.val (X.w1 rfl (Sx.yl 25 185 false (by kernel_rfl) rfl rfl)) rfl (X.field rfl (Sx.ev 7 (.pointer (some ⟨w6.heap.size, 0, none⟩)) (by kernel_rfl)) (X.fld Try.underlying46 rfl (Try.siz3 _) rfl rfl)) (hR.step (Gr.refl _) rfl)
                · intro ac done u W Sx hR
                  have g : Gr w48 W := hR.1
                  exact X.val (X.w1 rfl (Sx.yl 25 185 false (by kernel_rfl) rfl rfl)) rfl (X.load rfl (Sx.ev 187 (.pointer (some ⟨w6.heap.size, 0, none⟩)) (by kernel_rfl)) (X.ld1 (Try.agg3 _) ((hC.gr g).at 0 rfl))) (hR.step (Gr.refl _) rfl)
                · intro ac done u W Sx hR
                  have g : Gr w48 W := hR.1
                  exact X.val (X.w1 rfl (Sx.yl 25 185 false (by kernel_rfl) rfl rfl)) rfl (X.binop rfl (Sx.ev 186 (.int .i64 k) (by kernel_rfl)) (Sx.ev 188 (.int .i64 p.c) (by kernel_rfl)) (X.neqI Try.underlying3 h54)) (hR.step (Gr.refl _) rfl)
                · intro ac done u W Sx hR
                  have g : Gr w48 W := hR.1
                  exact X.val (X.w1 rfl (Sx.yl 25 185 false (by kernel_rfl) rfl rfl)) rfl (X.move rfl (Sx.ev 189 (.bool true) (by kernel_rfl))) (hR.step (Gr.refl _) rfl)
                · intro ac done u W Sx hR
                  have g : Gr w48 W := hR.1
                  exact X.val (X.w1 rfl (Sx.yl 30 190 true (by kernel_rfl) rfl rfl)) rfl (X.move rfl (Sx.ev 13 (.slice (some pd55) in37 ic37) (by kernel_rfl))) (hR.step (Gr.refl _) rfl)
                · intro ac done u W Sx hR
                  have g : Gr w48 W := hR.1
                  exact X.val (X.w1 rfl (Sx.yl 30 190 true (by kernel_rfl) rfl rfl)) rfl (X.move rfl (Sx.ev 18 (.int .i64 k) (by kernel_rfl))) (hR.step (Gr.refl _) rfl)
                · intro ac done u W Sx hR
                  have g : Gr w48 W := hR.1
                  exact X.val (X.w1 rfl (Sx.yl 30 190 true (by kernel_rfl) rfl rfl)) rfl (X.index rfl (Sx.ev 191 (.slice (some pd55) in37 ic37) (by kernel_rfl)) (Sx.ev 192 (.int .i64 k) (by kernel_rfl)) (X.idx (k := k) Try.underlying26 (Try.siz3 _) (by omega) (by omega) (by rw [Nat.mul_one]))) (hR.step (Gr.refl _) rfl)
                · intro ac done u W Sx hR
                  have g : Gr w48 W := hR.1
                  exact X.val (X.w1 rfl (Sx.yl 30 190 true (by kernel_rfl) rfl rfl)) rfl (X.load rfl (Sx.ev 193 (.pointer (some (pd55.add k))) (by kernel_rfl)) (X.ld1 (Try.agg3 _) ((hC.gr g).at 13 rfl))) (hR.step (Gr.refl _) rfl)
                · intro ac done u W Sx hR
                  have g : Gr w48 W := hR.1
                  exact X.val (X.w1 rfl (Sx.yl 30 190 true (by kernel_rfl) rfl rfl)) rfl (X.field rfl (Sx.ev 5 (.pointer (some ⟨w4.heap.size, 0, none⟩)) (by kernel_rfl)) (X.fld Try.underlying55 rfl (Try.siz26 _) rfl rfl)) (hR.step (Gr.refl _) rfl)
                · intro ac done u W Sx hR
                  have g : Gr w48 W := hR.1
                  exact X.val (X.w1 rfl (Sx.yl 30 190 true (by kernel_rfl) rfl rfl)) rfl (X.load rfl (Sx.ev 195 (.pointer (some ⟨w4.heap.size, 0, none⟩)) (by kernel_rfl)) (X.ld1 (Try.agg26 _) ((hC.gr g).at 6 rfl))) (hR.step (Gr.refl _) rfl)
                · intro ac done u W Sx hR
                  have g : Gr w48 W := hR.1
                  exact X.val (X.w1 rfl (Sx.yl 30 190 true (by kernel_rfl) rfl rfl)) rfl (X.move rfl (Sx.ev 18 (.int .i64 k) (by kernel_rfl))) (hR.step (Gr.refl _) rfl)
                · intro ac done u W Sx hR
                  have g : Gr w48 W := hR.1
                  exact X.val (X.w1 rfl (Sx.yl 30 190 true (by kernel_rfl) rfl rfl)) rfl (X.index rfl (Sx.ev 196 (.slice (some pd56) n c) (by kernel_rfl)) (Sx.ev 197 (.int .i64 k) (by kernel_rfl)) (X.idx (k := k) Try.underlying26 (Try.siz3 _) (by omega) (by omega) (by rw [Nat.mul_one]))) (hR.step (Gr.refl _) rfl)
                · intro ac done u W Sx hR
                  have g : Gr w48 W := hR.1
                  exact X.val (X.w1 rfl (Sx.yl 30 190 true (by kernel_rfl) rfl rfl)) rfl (X.load rfl (Sx.ev 198 (.pointer (some (pd56.add k))) (by kernel_rfl)) (X.ld1 (Try.agg3 _) ((hC.gr g).at 14 rfl))) (hR.step (Gr.refl _) rfl)
                · intro ac done u W Sx hR
                  have g : Gr w48 W := hR.1
                  exact X.val (X.w1 rfl (Sx.yl 30 190 true (by kernel_rfl) rfl rfl)) rfl (X.binop rfl (Sx.ev 194 (.int .i64 (nx[k]?.getD 0)) (by kernel_rfl)) (Sx.ev 199 (.int .i64 (xs[k]?.getD 0)) (by kernel_rfl)) (X.neqI Try.underlying3 rfl)) (hR.step (Gr.refl _) rfl)
                · intro ac done u W Sx hR
                  have g : Gr w48 W := hR.1
                  exact X.val (X.w1 rfl (Sx.yl 25 185 false (by kernel_rfl) rfl rfl)) rfl (X.pickT rfl (Sx.ev 190 (.bool true) (by kernel_rfl)) (Sx.ev 200 (.bool ((nx[k]?.getD 0 : Int) != (xs[k]?.getD 0))) (by kernel_rfl))) (hR.step (Gr.refl _) rfl)
                · intro ac done u W Sx hR
                  have g : Gr w48 W := hR.1
                  exact X.val (X.w0 rfl) rfl (X.pickF rfl (Sx.ev 185 (.bool false) (by kernel_rfl)) (Sx.ev 201 (.bool ((nx[k]?.getD 0 : Int) != (xs[k]?.getD 0))) (by kernel_rfl))) (hR.step (Gr.refl _) rfl)
                intro ac u w57 hs hd hl ho hR
                have g : Gr w48 w57 := hR.1
                replace F : Fr ac 204 [(0, .agg #[.slice (some pd27) tn tc, .slice ca cn cc]), (1, .int .i64 se), (2, .agg #[.slice (some pd56) n c, .slice (some pd8) 1 lc]), (3, .pointer (some ⟨w.heap.size, 0, none⟩)), (5, .pointer (some ⟨w4.heap.size, 0, none⟩)), (7, .pointer (some ⟨w6.heap.size, 0, none⟩)), (8, .int .i64 (tagR se p.c p.v p.data)), (9, .int .i64 ((instR f se xs ([⟨p.c, p.v, p.data, tagR se p.c p.v p.data⟩])).2.2)), (13, .slice (some pd55) in37 ic37), (16, .bool true), (17, .int .i64 (wE f nx)), (18, .int .i64 k), (22, .bool false), (35, .bool false), (69, .bool false), (71, .bool false), (76, .bool false), (131, .bool false), (153, .bool false), (157, .bool true), (202, .bool ((nx[k]?.getD 0 : Int) != (xs[k]?.getD 0)))] := X.fr hs hd hl _ (by kernel_rfl)
                clear hs hd hl ho hR
                replace G := G.trans g
                replace hC := hC.gr g
                replace GB_ := GB_.trans g
                replace hf := hf.gr g
                replace hx := hx.gr g
                replace hP := hP.gr g
                replace ht := ht.gr g
                replace pi27 := pi27.gr g
                replace hPk := hPk.gr g
                replace hI37 := hI37.gr g
                clear g
                refine X.thenN ?_
                have h59 : ((nx[k]?.getD 0 : Int) != (xs[k]?.getD 0)) = false := by have h := (hSG.off k (by have := hI37.len; omega) (by simpa using h52)); simp [h]
                try rw [h59] at F
                refine Y.condF (F.ev 202 (.bool false) (by kernel_rfl)) ?_
                refine Y.skip ?_
                refine X.blockN ?_
                refine X.thenN ?_
                refine Y.lit (by kernel_rfl) ?_
                refine Y.pval F (X.w0 rfl) rfl (X.move rfl (F.ev 18 (.int .i64 k) (by kernel_rfl))) ?_
                clear F ac
                intro ac F
                refine Y.pval F (X.w0 rfl) rfl (X.binop rfl (F.ev 158 (.int .i64 k) (by kernel_rfl)) (X.kc (.int .i64 1) rfl) (X.addI Try.underlying3 rfl (by omega) (by omega))) ?_
                clear F ac
                intro ac F
                refine Y.pval F (X.w0 rfl) rfl (X.assign rfl (F.ev 159 (.int .i64 ((k : Int) + 1)) (by kernel_rfl))) ?_
                clear F ac
                intro ac F
                refine Y.nil ?_
                replace F : Fr ac 204 [(0, .agg #[.slice (some pd27) tn tc, .slice ca cn cc]), (1, .int .i64 se), (2, .agg #[.slice (some pd56) n c, .slice (some pd8) 1 lc]), (3, .pointer (some ⟨w.heap.size, 0, none⟩)), (5, .pointer (some ⟨w4.heap.size, 0, none⟩)), (7, .pointer (some ⟨w6.heap.size, 0, none⟩)), (8, .int .i64 (tagR se p.c p.v p.data)), (9, .int .i64 ((instR f se xs ([⟨p.c, p.v, p.data, tagR se p.c p.v p.data⟩])).2.2)), (13, .slice (some pd55) in37 ic37), (16, .bool true), (17, .int .i64 (wE f nx)), (18, .int .i64 ((k : Int) + 1)), (22, .bool false), (35, .bool false), (69, .bool false), (71, .bool false), (76, .bool false), (131, .bool false), (153, .bool false), (157, .bool true), (202, .bool false)] := F.sub _ (by kernel_rfl)
                refine X.thenN ?_
                refine ⟨_, ?_, k + 1, rfl, GB_, by omega, F.sub _ (by kernel_rfl)⟩
                omega
              | true =>
                try rw [h52] at F
                have h52p : (k : Int) = p.c := by simpa using h52
                obtain ⟨pd60, pe60, -, pc60⟩ := hI37.at (j := k) (by omega)
                subst pe60
                replace hC : RCells w48 [(⟨w6.heap.size, 0, none⟩, .int .i64 p.c), (⟨w6.heap.size, 1, none⟩, .int .i64 p.v), (⟨w6.heap.size, 2, none⟩, .string p.data), (⟨w6.heap.size, 3, none⟩, .int .i64 (tagR se p.c p.v p.data)), (⟨w.heap.size, 0, none⟩, .slice (some pd27) tn tc), (⟨w.heap.size, 1, none⟩, .slice ca cn cc), (⟨w4.heap.size, 0, none⟩, .slice a n c), (⟨w4.heap.size, 1, none⟩, .slice (some pd8) 1 lc), (pd8.add (0 * 4), .int .i64 p.c), (⟨(pd8.add (0 * 4)).block, (pd8.add (0 * 4)).off + 1, none⟩, .int .i64 p.v), (⟨(pd8.add (0 * 4)).block, (pd8.add (0 * 4)).off + 2, none⟩, .string p.data), (⟨(pd8.add (0 * 4)).block, (pd8.add (0 * 4)).off + 3, none⟩, .int .i64 p.tg), (pd27.add p.c.toNat, .slice pa27 rn27 pq27), (pd60.add k, .int .i64 (nx[k]?.getD 0))] := hC.append ((RCells.cons pc60 (RCells.nil _)))
                clear pc60
                have h62 : ((nx[k]?.getD 0 : Int) != p.v) = false := by have h := (hSG.on k (by have := hI37.len; omega) (by simpa using h52)); simp [h.1]
                try rw [h62] at F
                obtain ⟨pd63, pe63, -, pc63⟩ := hx.at (j := k) (by omega)
                subst pe63
                replace hC : RCells w48 [(⟨w6.heap.size, 0, none⟩, .int .i64 p.c), (⟨w6.heap.size, 1, none⟩, .int .i64 p.v), (⟨w6.heap.size, 2, none⟩, .string p.data), (⟨w6.heap.size, 3, none⟩, .int .i64 (tagR se p.c p.v p.data)), (⟨w.heap.size, 0, none⟩, .slice (some pd27) tn tc), (⟨w.heap.size, 1, none⟩, .slice ca cn cc), (⟨w4.heap.size, 0, none⟩, .slice (some pd63) n c), (⟨w4.heap.size, 1, none⟩, .slice (some pd8) 1 lc), (pd8.add (0 * 4), .int .i64 p.c), (⟨(pd8.add (0 * 4)).block, (pd8.add (0 * 4)).off + 1, none⟩, .int .i64 p.v), (⟨(pd8.add (0 * 4)).block, (pd8.add (0 * 4)).off + 2, none⟩, .string p.data), (⟨(pd8.add (0 * 4)).block, (pd8.add (0 * 4)).off + 3, none⟩, .int .i64 p.tg), (pd27.add p.c.toNat, .slice pa27 rn27 pq27), (pd60.add k, .int .i64 (nx[k]?.getD 0)), (pd63.add k, .int .i64 (xs[k]?.getD 0))] := hC.append ((RCells.cons pc63 (RCells.nil _)))
                clear pc63
                have h65 : decide ((nx[k]?.getD 0 : Int) ≤ (xs[k]?.getD 0)) = false := decide_eq_false (by have h := (hSG.on k (by have := hI37.len; omega) (by simpa using h52)); omega)
                have h65p : ¬ ((nx[k]?.getD 0 : Int) ≤ (xs[k]?.getD 0)) := of_decide_eq_false h65
                try rw [h65] at F
                have h67 : ((k : Int) != p.c) = false := by have h := h52; simp at h ⊢; exact h
                try rw [h67] at F
                refine Y.region F [some (.int .i64 k), some (.pointer (some ⟨w6.heap.size, 0, none⟩)), some (.int .i64 p.c), some (.bool true), some (.bool true), some (.slice (some pd60) in37 ic37), some (.int .i64 k), some (.pointer (some (pd60.add k))), some (.int .i64 (nx[k]?.getD 0)), some (.pointer (some ⟨w6.heap.size, 1, none⟩)), some (.int .i64 p.v), some (.bool false), some (.bool false), some (.slice (some pd60) in37 ic37), some (.int .i64 k), some (.pointer (some (pd60.add k))), some (.int .i64 (nx[k]?.getD 0)), some (.pointer (some ⟨w4.heap.size, 0, none⟩)), some (.slice (some pd63) n c), some (.int .i64 k), some (.pointer (some (pd63.add k))), some (.int .i64 (xs[k]?.getD 0)), some (.bool false), some (.bool false), some (.bool false), some (.bool false), some (.int .i64 k), some (.pointer (some ⟨w6.heap.size, 0, none⟩)), some (.int .i64 p.c), some (.bool false), some (.bool false), none, none, none, none, none, none, none, none, none, none, some (.bool false), some (.bool false)] [] rfl ⟨by kernel_rfl, of_decide_eq_true (by kernel_rfl), by kernel_rfl, by kernel_rfl, by kernel_rfl⟩ ⟨?_, ?_, ?_, ?_, ?_, ?_, ?_, ?_, ?_, ?_, ?_, ?_, ?_, ?_, ?_, ?_, ?_, ?_, ?_, ?_, ?_, ?_, ?_, ?_, ?_, ?_, ?_, ?_, ?_, ?_, ?_, ?_, ?_, ?_, ?_, ?_, ?_, ?_, ?_, ?_, ?_, ?_, ?_, trivial⟩ ?_
                · intro ac done u W Sx hR
                  have g : Gr w48 W := hR.1
                  exact X.val (X.w0 rfl) rfl (X.move rfl (Sx.ev 18 (.int .i64 k) (by kernel_rfl))) (hR.step (Gr.refl _) rfl)
                · intro ac done u W Sx hR
                  have g : Gr w48 W := hR.1
                  exact X.val (X.w0 rfl) rfl (X.field rfl (Sx.ev 7 (.pointer (some ⟨w6.heap.size, 0, none⟩)) (by kernel_rfl)) (X.fld Try.underlying46 rfl (Try.siz3 _) rfl rfl)) (hR.step (Gr.refl _) rfl)
                · intro ac done u W Sx hR
                  have g : Gr w48 W := hR.1
                  exact X.val (X.w0 rfl) rfl (X.load rfl (Sx.ev 161 (.pointer (some ⟨w6.heap.size, 0, none⟩)) (by kernel_rfl)) (X.ld1 (Try.agg3 _) ((hC.gr g).at 0 rfl))) (hR.step (Gr.refl _) rfl)
                · intro ac done u W Sx hR
                  have g : Gr w48 W := hR.1
                  exact X.val (X.w0 rfl) rfl (X.binop rfl (Sx.ev 160 (.int .i64 k) (by kernel_rfl)) (Sx.ev 162 (.int .i64 p.c) (by kernel_rfl)) (X.eqlI Try.underlying3 h52)) (hR.step (Gr.refl _) rfl)
                · intro ac done u W Sx hR
                  have g : Gr w48 W := hR.1
                  exact X.val (X.w0 rfl) rfl (X.move rfl (Sx.ev 163 (.bool true) (by kernel_rfl))) (hR.step (Gr.refl _) rfl)
                · intro ac done u W Sx hR
                  have g : Gr w48 W := hR.1
                  exact X.val (X.w1 rfl (Sx.yl 4 164 true (by kernel_rfl) rfl rfl)) rfl (X.move rfl (Sx.ev 13 (.slice (some pd60) in37 ic37) (by kernel_rfl))) (hR.step (Gr.refl _) rfl)
                · intro ac done u W Sx hR
                  have g : Gr w48 W := hR.1
                  exact X.val (X.w1 rfl (Sx.yl 4 164 true (by kernel_rfl) rfl rfl)) rfl (X.move rfl (Sx.ev 18 (.int .i64 k) (by kernel_rfl))) (hR.step (Gr.refl _) rfl)
                · intro ac done u W Sx hR
                  have g : Gr w48 W := hR.1
                  exact X.val (X.w1 rfl (Sx.yl 4 164 true (by kernel_rfl) rfl rfl)) rfl (X.index rfl (Sx.ev 165 (.slice (some pd60) in37 ic37) (by kernel_rfl)) (Sx.ev 166 (.int .i64 k) (by kernel_rfl)) (X.idx (k := k) Try.underlying26 (Try.siz3 _) (by omega) (by omega) (by rw [Nat.mul_one]))) (hR.step (Gr.refl _) rfl)
                · intro ac done u W Sx hR
                  have g : Gr w48 W := hR.1
                  exact X.val (X.w1 rfl (Sx.yl 4 164 true (by kernel_rfl) rfl rfl)) rfl (X.load rfl (Sx.ev 167 (.pointer (some (pd60.add k))) (by kernel_rfl)) (X.ld1 (Try.agg3 _) ((hC.gr g).at 13 rfl))) (hR.step (Gr.refl _) rfl)
                · intro ac done u W Sx hR
                  have g : Gr w48 W := hR.1
                  exact X.val (X.w1 rfl (Sx.yl 4 164 true (by kernel_rfl) rfl rfl)) rfl (X.field rfl (Sx.ev 7 (.pointer (some ⟨w6.heap.size, 0, none⟩)) (by kernel_rfl)) (X.fld Try.underlying46 rfl (Try.siz3 _) rfl rfl)) (hR.step (Gr.refl _) rfl)
                · intro ac done u W Sx hR
                  have g : Gr w48 W := hR.1
                  exact X.val (X.w1 rfl (Sx.yl 4 164 true (by kernel_rfl) rfl rfl)) rfl (X.load rfl (Sx.ev 169 (.pointer (some ⟨w6.heap.size, 1, none⟩)) (by kernel_rfl)) (X.ld1 (Try.agg3 _) ((hC.gr g).at 1 rfl))) (hR.step (Gr.refl _) rfl)
                · intro ac done u W Sx hR
                  have g : Gr w48 W := hR.1
                  exact X.val (X.w1 rfl (Sx.yl 4 164 true (by kernel_rfl) rfl rfl)) rfl (X.binop rfl (Sx.ev 168 (.int .i64 (nx[k]?.getD 0)) (by kernel_rfl)) (Sx.ev 170 (.int .i64 p.v) (by kernel_rfl)) (X.neqI Try.underlying3 h62)) (hR.step (Gr.refl _) rfl)
                · intro ac done u W Sx hR
                  have g : Gr w48 W := hR.1
                  exact X.val (X.w1 rfl (Sx.yl 4 164 true (by kernel_rfl) rfl rfl)) rfl (X.move rfl (Sx.ev 171 (.bool false) (by kernel_rfl))) (hR.step (Gr.refl _) rfl)
                · intro ac done u W Sx hR
                  have g : Gr w48 W := hR.1
                  exact X.val (X.w1 rfl (Sx.yl 12 172 false (by kernel_rfl) rfl rfl)) rfl (X.move rfl (Sx.ev 13 (.slice (some pd60) in37 ic37) (by kernel_rfl))) (hR.step (Gr.refl _) rfl)
                · intro ac done u W Sx hR
                  have g : Gr w48 W := hR.1
                  exact X.val (X.w1 rfl (Sx.yl 12 172 false (by kernel_rfl) rfl rfl)) rfl (X.move rfl (Sx.ev 18 (.int .i64 k) (by kernel_rfl))) (hR.step (Gr.refl _) rfl)
                · intro ac done u W Sx hR
                  have g : Gr w48 W := hR.1
                  exact X.val (X.w1 rfl (Sx.yl 12 172 false (by kernel_rfl) rfl rfl)) rfl (X.index rfl (Sx.ev 173 (.slice (some pd60) in37 ic37) (by kernel_rfl)) (Sx.ev 174 (.int .i64 k) (by kernel_rfl)) (X.idx (k := k) Try.underlying26 (Try.siz3 _) (by omega) (by omega) (by rw [Nat.mul_one]))) (hR.step (Gr.refl _) rfl)
                · intro ac done u W Sx hR
                  have g : Gr w48 W := hR.1
                  exact X.val (X.w1 rfl (Sx.yl 12 172 false (by kernel_rfl) rfl rfl)) rfl (X.load rfl (Sx.ev 175 (.pointer (some (pd60.add k))) (by kernel_rfl)) (X.ld1 (Try.agg3 _) ((hC.gr g).at 13 rfl))) (hR.step (Gr.refl _) rfl)
                · intro ac done u W Sx hR
                  have g : Gr w48 W := hR.1
                  exact X.val (X.w1 rfl (Sx.yl 12 172 false (by kernel_rfl) rfl rfl)) rfl (X.field rfl (Sx.ev 5 (.pointer (some ⟨w4.heap.size, 0, none⟩)) (by kernel_rfl)) (X.fld Try.underlying55 rfl (Try.siz26 _) rfl rfl)) (hR.step (Gr.refl _) rfl)
                · intro ac done u W Sx hR
                  have g : Gr w48 W := hR.1
                  exact X.val (X.w1 rfl (Sx.yl 12 172 false (by kernel_rfl) rfl rfl)) rfl (X.load rfl (Sx.ev 177 (.pointer (some ⟨w4.heap.size, 0, none⟩)) (by kernel_rfl)) (X.ld1 (Try.agg26 _) ((hC.gr g).at 6 rfl))) (hR.step (Gr.refl _) rfl)
                · intro ac done u W Sx hR
                  have g : Gr w48 W := hR.1
                  exact X.val (X.w1 rfl (Sx.yl 12 172 false (by kernel_rfl) rfl rfl)) rfl (X.move rfl (Sx.ev 18 (.int .i64 k) (by kernel_rfl))) (hR.step (Gr.refl _) rfl)
                · intro ac done u W Sx hR
                  have g : Gr w48 W := hR.1
                  exact X.val (X.w1 rfl (Sx.yl 12 172 false (by kernel_rfl) rfl rfl)) rfl (X.index rfl (Sx.ev 178 (.slice (some pd63) n c) (by kernel_rfl)) (Sx.ev 179 (.int .i64 k) (by kernel_rfl)) (X.idx (k := k) Try.underlying26 (Try.siz3 _) (by omega) (by omega) (by rw [Nat.mul_one]))) (hR.step (Gr.refl _) rfl)
                · intro ac done u W Sx hR
                  have g : Gr w48 W := hR.1
                  exact X.val (X.w1 rfl (Sx.yl 12 172 false (by kernel_rfl) rfl rfl)) rfl (X.load rfl (Sx.ev 180 (.pointer (some (pd63.add k))) (by kernel_rfl)) (X.ld1 (Try.agg3 _) ((hC.gr g).at 14 rfl))) (hR.step (Gr.refl _) rfl)
                · intro ac done u W Sx hR
                  have g : Gr w48 W := hR.1
                  exact X.val (X.w1 rfl (Sx.yl 12 172 false (by kernel_rfl) rfl rfl)) rfl (X.binop rfl (Sx.ev 176 (.int .i64 (nx[k]?.getD 0)) (by kernel_rfl)) (Sx.ev 181 (.int .i64 (xs[k]?.getD 0)) (by kernel_rfl)) (X.leqI Try.underlying3 h65)) (hR.step (Gr.refl _) rfl)
                · intro ac done u W Sx hR
                  have g : Gr w48 W := hR.1
                  exact X.val (X.w1 rfl (Sx.yl 4 164 true (by kernel_rfl) rfl rfl)) rfl (X.pickF rfl (Sx.ev 172 (.bool false) (by kernel_rfl)) (Sx.ev 182 (.bool false) (by kernel_rfl))) (hR.step (Gr.refl _) rfl)
                · intro ac done u W Sx hR
                  have g : Gr w48 W := hR.1
                  exact X.val (X.w0 rfl) rfl (X.pickT rfl (Sx.ev 164 (.bool true) (by kernel_rfl)) (Sx.ev 183 (.bool false) (by kernel_rfl))) (hR.step (Gr.refl _) rfl)
                · intro ac done u W Sx hR
                  have g : Gr w48 W := hR.1
                  exact X.val (X.w0 rfl) rfl (X.move rfl (Sx.ev 184 (.bool false) (by kernel_rfl))) (hR.step (Gr.refl _) rfl)
                · intro ac done u W Sx hR
                  have g : Gr w48 W := hR.1
                  exact X.val (X.w1 rfl (Sx.yl 25 185 false (by kernel_rfl) rfl rfl)) rfl (X.move rfl (Sx.ev 18 (.int .i64 k) (by kernel_rfl))) (hR.step (Gr.refl _) rfl)
                · intro ac done u W Sx hR
                  have g : Gr w48 W := hR.1
                  exact X.val (X.w1 rfl (Sx.yl 25 185 false (by kernel_rfl) rfl rfl)) rfl (X.field rfl (Sx.ev 7 (.pointer (some ⟨w6.heap.size, 0, none⟩)) (by kernel_rfl)) (X.fld Try.underlying46 rfl (Try.siz3 _) rfl rfl)) (hR.step (Gr.refl _) rfl)
                · intro ac done u W Sx hR
                  have g : Gr w48 W := hR.1
                  exact X.val (X.w1 rfl (Sx.yl 25 185 false (by kernel_rfl) rfl rfl)) rfl (X.load rfl (Sx.ev 187 (.pointer (some ⟨w6.heap.size, 0, none⟩)) (by kernel_rfl)) (X.ld1 (Try.agg3 _) ((hC.gr g).at 0 rfl))) (hR.step (Gr.refl _) rfl)
                · intro ac done u W Sx hR
                  have g : Gr w48 W := hR.1
                  exact X.val (X.w1 rfl (Sx.yl 25 185 false (by kernel_rfl) rfl rfl)) rfl (X.binop rfl (Sx.ev 186 (.int .i64 k) (by kernel_rfl)) (Sx.ev 188 (.int .i64 p.c) (by kernel_rfl)) (X.neqI Try.underlying3 h67)) (hR.step (Gr.refl _) rfl)
                · intro ac done u W Sx hR
                  have g : Gr w48 W := hR.1
                  exact X.val (X.w1 rfl (Sx.yl 25 185 false (by kernel_rfl) rfl rfl)) rfl (X.move rfl (Sx.ev 189 (.bool false) (by kernel_rfl))) (hR.step (Gr.refl _) rfl)
                · intro ac done u W Sx hR
                  have g : Gr w48 W := hR.1
                  exact X.skip (X.w2 rfl (Sx.yl 30 190 false (by kernel_rfl) rfl rfl) rfl) rfl (hR.skip rfl)
                · intro ac done u W Sx hR
                  have g : Gr w48 W := hR.1
                  exact X.skip (X.w2 rfl (Sx.yl 30 190 false (by kernel_rfl) rfl rfl) rfl) rfl (hR.skip rfl)
                · intro ac done u W Sx hR
                  have g : Gr w48 W := hR.1
                  exact X.skip (X.w2 rfl (Sx.yl 30 190 false (by kernel_rfl) rfl rfl) rfl) rfl (hR.skip rfl)
                · intro ac done u W Sx hR
                  have g : Gr w48 W := hR.1
                  exact X.skip (X.w2 rfl (Sx.yl 30 190 false (by kernel_rfl) rfl rfl) rfl) rfl (hR.skip rfl)
                · intro ac done u W Sx hR
                  have g : Gr w48 W := hR.1
                  exact X.skip (X.w2 rfl (Sx.yl 30 190 false (by kernel_rfl) rfl rfl) rfl) rfl (hR.skip rfl)
                · intro ac done u W Sx hR
                  have g : Gr w48 W := hR.1
                  exact X.skip (X.w2 rfl (Sx.yl 30 190 false (by kernel_rfl) rfl rfl) rfl) rfl (hR.skip rfl)
                · intro ac done u W Sx hR
                  have g : Gr w48 W := hR.1
                  exact X.skip (X.w2 rfl (Sx.yl 30 190 false (by kernel_rfl) rfl rfl) rfl) rfl (hR.skip rfl)
                · intro ac done u W Sx hR
                  have g : Gr w48 W := hR.1
                  exact X.skip (X.w2 rfl (Sx.yl 30 190 false (by kernel_rfl) rfl rfl) rfl) rfl (hR.skip rfl)
                · intro ac done u W Sx hR
                  have g : Gr w48 W := hR.1
                  exact X.skip (X.w2 rfl (Sx.yl 30 190 false (by kernel_rfl) rfl rfl) rfl) rfl (hR.skip rfl)
                · intro ac done u W Sx hR
                  have g : Gr w48 W := hR.1
                  exact X.skip (X.w2 rfl (Sx.yl 30 190 false (by kernel_rfl) rfl rfl) rfl) rfl (hR.skip rfl)
                · intro ac done u W Sx hR
                  have g : Gr w48 W := hR.1
                  exact X.val (X.w1 rfl (Sx.yl 25 185 false (by kernel_rfl) rfl rfl)) rfl (X.pickF rfl (Sx.ev 190 (.bool false) (by kernel_rfl)) (X.kc (.bool false) rfl)) (hR.step (Gr.refl _) rfl)
                · intro ac done u W Sx hR
                  have g : Gr w48 W := hR.1
                  exact X.val (X.w0 rfl) rfl (X.pickF rfl (Sx.ev 185 (.bool false) (by kernel_rfl)) (Sx.ev 201 (.bool false) (by kernel_rfl))) (hR.step (Gr.refl _) rfl)
                intro ac u w68 hs hd hl ho hR
                have g : Gr w48 w68 := hR.1
                replace F : Fr ac 204 [(0, .agg #[.slice (some pd27) tn tc, .slice ca cn cc]), (1, .int .i64 se), (2, .agg #[.slice (some pd63) n c, .slice (some pd8) 1 lc]), (3, .pointer (some ⟨w.heap.size, 0, none⟩)), (5, .pointer (some ⟨w4.heap.size, 0, none⟩)), (7, .pointer (some ⟨w6.heap.size, 0, none⟩)), (8, .int .i64 (tagR se p.c p.v p.data)), (9, .int .i64 ((instR f se xs ([⟨p.c, p.v, p.data, tagR se p.c p.v p.data⟩])).2.2)), (13, .slice (some pd60) in37 ic37), (16, .bool true), (17, .int .i64 (wE f nx)), (18, .int .i64 k), (22, .bool false), (35, .bool false), (69, .bool false), (71, .bool false), (76, .bool false), (131, .bool false), (153, .bool false), (157, .bool true), (202, .bool false)] := X.fr hs hd hl _ (by kernel_rfl)
                clear hs hd hl ho hR
                replace G := G.trans g
                replace hC := hC.gr g
                replace GB_ := GB_.trans g
                replace hf := hf.gr g
                replace hx := hx.gr g
                replace hP := hP.gr g
                replace ht := ht.gr g
                replace pi27 := pi27.gr g
                replace hPk := hPk.gr g
                replace hI37 := hI37.gr g
                clear g
                refine X.thenN ?_
                refine Y.condF (F.ev 202 (.bool false) (by kernel_rfl)) ?_
                refine Y.skip ?_
                refine X.blockN ?_
                refine X.thenN ?_
                refine Y.lit (by kernel_rfl) ?_
                refine Y.pval F (X.w0 rfl) rfl (X.move rfl (F.ev 18 (.int .i64 k) (by kernel_rfl))) ?_
                clear F ac
                intro ac F
                refine Y.pval F (X.w0 rfl) rfl (X.binop rfl (F.ev 158 (.int .i64 k) (by kernel_rfl)) (X.kc (.int .i64 1) rfl) (X.addI Try.underlying3 rfl (by omega) (by omega))) ?_
                clear F ac
                intro ac F
                refine Y.pval F (X.w0 rfl) rfl (X.assign rfl (F.ev 159 (.int .i64 ((k : Int) + 1)) (by kernel_rfl))) ?_
                clear F ac
                intro ac F
                refine Y.nil ?_
                replace F : Fr ac 204 [(0, .agg #[.slice (some pd27) tn tc, .slice ca cn cc]), (1, .int .i64 se), (2, .agg #[.slice (some pd63) n c, .slice (some pd8) 1 lc]), (3, .pointer (some ⟨w.heap.size, 0, none⟩)), (5, .pointer (some ⟨w4.heap.size, 0, none⟩)), (7, .pointer (some ⟨w6.heap.size, 0, none⟩)), (8, .int .i64 (tagR se p.c p.v p.data)), (9, .int .i64 ((instR f se xs ([⟨p.c, p.v, p.data, tagR se p.c p.v p.data⟩])).2.2)), (13, .slice (some pd60) in37 ic37), (16, .bool true), (17, .int .i64 (wE f nx)), (18, .int .i64 ((k : Int) + 1)), (22, .bool false), (35, .bool false), (69, .bool false), (71, .bool false), (76, .bool false), (131, .bool false), (153, .bool false), (157, .bool true), (202, .bool false)] := F.sub _ (by kernel_rfl)
                refine X.thenN ?_
                refine ⟨_, ?_, k + 1, rfl, GB_, by omega, F.sub _ (by kernel_rfl)⟩
                omega
          | true =>
            try rw [h39] at F
            have h39p : ¬ ((instR f se xs ([⟨p.c, p.v, p.data, tagR se p.c p.v p.data⟩])).2.2 : Int) = 0 := by simpa using h39
            refine Y.condT (F.ev 131 (.bool true) (by kernel_rfl)) ?_
            refine Y.seq ?_
            refine Y.lit (by kernel_rfl) ?_
            refine Y.pcall F (X.w0 rfl) rfl (X.enter (F := 16) rfl (X.kc (.func (.func 16) #[] #[]) rfl) rfl (enters_of Try.func16 (by kernel_rfl) rfl _)) (look_any w38) ?_
            clear F ac
            rintro e w70 ⟨rfl, g⟩
            refine ⟨_, rfl, ?_⟩
            intro ac F
            replace G := G.trans g
            replace hC := hC.gr g
            replace GA := GA.trans g
            replace hf := hf.gr g
            replace hx := hx.gr g
            replace hP := hP.gr g
            replace ht := ht.gr g
            replace hO9 := hO9.gr g
            replace pi27 := pi27.gr g
            replace hPk := hPk.gr g
            replace hI37 := hI37.gr g
            clear g
            refine Y.pval F (X.w0 rfl) rfl (X.assign rfl (F.ev 132 (.bool true) (by kernel_rfl))) ?_
            clear F ac
            intro ac F
            refine Y.nil ?_
            replace F : Fr ac 204 [(0, .agg #[.slice (some pd27) tn tc, .slice ca cn cc]), (1, .int .i64 se), (2, .agg #[.slice a n c, .slice (some pd8) 1 lc]), (3, .pointer (some ⟨w.heap.size, 0, none⟩)), (5, .pointer (some ⟨w4.heap.size, 0, none⟩)), (6, .bool true), (7, .pointer (some ⟨w6.heap.size, 0, none⟩)), (8, .int .i64 (tagR se p.c p.v p.data)), (9, .int .i64 ((instR f se xs ([⟨p.c, p.v, p.data, tagR se p.c p.v p.data⟩])).2.2)), (13, .slice ia37 in37 ic37), (22, .bool false), (35, .bool false), (69, .bool false), (71, .bool false), (76, .bool false), (131, .bool true)] := F.sub _ (by kernel_rfl)
            refine X.thenN ?_
            refine Y.ret ?_
            refine X.thenR ?_
            exact Y.ret0 F (Y.rs1 F rfl (by kernel_rfl)) ⟨rfl, G⟩
        | true =>
          try rw [h33] at F
          have h33p : ((0 : Int) < (p.data.size : Nat)) := of_decide_eq_true h33
          refine Y.condT (F.ev 76 (.bool true) (by kernel_rfl)) ?_
          refine Y.seq ?_
          have hq0 : (0 : Int) < (p.data.size : Nat) := by omega
          have hq1 := tmod_bd (p := p.tg) hq0
          have hq2 := tmod_in (p := Int.tmod p.tg (p.data.size : Nat) + (p.data.size : Nat)) hq0 (by omega)
          refine Y.region F [some (.pointer (some ⟨w4.heap.size, 1, none⟩)), some (.slice (some pd8) 1 lc), some (.pointer (some (pd8.add (0 * 4)))), some (.pointer (some (⟨(pd8.add (0 * 4)).block, (pd8.add (0 * 4)).off + 3, none⟩))), some (.int .i64 p.tg), some (.pointer (some ⟨w6.heap.size, 2, none⟩)), some (.string p.data), some (.int .i64 (p.data.size : Nat)), some (.int .i64 (Int.tmod (p.tg : Int) ((p.data.size : Nat) : Int))), some (.pointer (some ⟨w6.heap.size, 2, none⟩)), some (.string p.data), some (.int .i64 (p.data.size : Nat)), some (.int .i64 ((Int.tmod (p.tg : Int) ((p.data.size : Nat) : Int) : Int) + (p.data.size : Nat))), some (.pointer (some ⟨w6.heap.size, 2, none⟩)), some (.string p.data), some (.int .i64 (p.data.size : Nat)), some (.int .i64 (Int.tmod ((Int.tmod (p.tg : Int) ((p.data.size : Nat) : Int) : Int) + (p.data.size : Nat) : Int) ((p.data.size : Nat) : Int))), some (.int .i64 (Int.tmod ((Int.tmod (p.tg : Int) ((p.data.size : Nat) : Int) : Int) + (p.data.size : Nat) : Int) ((p.data.size : Nat) : Int)))] [] rfl ⟨by kernel_rfl, of_decide_eq_true (by kernel_rfl), by kernel_rfl, by kernel_rfl, by kernel_rfl⟩ ⟨?_, ?_, ?_, ?_, ?_, ?_, ?_, ?_, ?_, ?_, ?_, ?_, ?_, ?_, ?_, ?_, ?_, ?_, trivial⟩ ?_
          · intro ac done u W Sx hR
            have g : Gr w32 W := hR.1
            exact X.val (X.w0 rfl) rfl (X.field rfl (Sx.ev 5 (.pointer (some ⟨w4.heap.size, 0, none⟩)) (by kernel_rfl)) (X.fld Try.underlying55 rfl (Try.siz53 _) rfl rfl)) (hR.step (Gr.refl _) rfl)
          · intro ac done u W Sx hR
            have g : Gr w32 W := hR.1
            exact X.val (X.w0 rfl) rfl (X.load rfl (Sx.ev 77 (.pointer (some ⟨w4.heap.size, 1, none⟩)) (by kernel_rfl)) (X.ld1 (Try.agg53 _) ((hC.gr g).at 7 rfl))) (hR.step (Gr.refl _) rfl)
          · intro ac done u W Sx hR
            have g : Gr w32 W := hR.1
            exact X.val (X.w0 rfl) rfl (X.index rfl (Sx.ev 78 (.slice (some pd8) 1 lc) (by kernel_rfl)) (X.kc (.int .i64 0) rfl) (X.idx (k := 0) Try.underlying53 (Try.siz46 _) (by omega) rfl rfl)) (hR.step (Gr.refl _) rfl)
          · intro ac done u W Sx hR
            have g : Gr w32 W := hR.1
            exact X.val (X.w0 rfl) rfl (X.field rfl (Sx.ev 79 (.pointer (some (pd8.add (0 * 4)))) (by kernel_rfl)) (X.fld Try.underlying46 rfl (Try.siz3 _) rfl rfl)) (hR.step (Gr.refl _) rfl)
          · intro ac done u W Sx hR
            have g : Gr w32 W := hR.1
            exact X.val (X.w0 rfl) rfl (X.load rfl (Sx.ev 80 (.pointer (some (⟨(pd8.add (0 * 4)).block, (pd8.add (0 * 4)).off + 3, none⟩))) (by kernel_rfl)) (X.ld1 (Try.agg3 _) ((hC.gr g).at 11 rfl))) (hR.step (Gr.refl _) rfl)
          · intro ac done u W Sx hR
            have g : Gr w32 W := hR.1
            exact X.val (X.w0 rfl) rfl (X.field rfl (Sx.ev 7 (.pointer (some ⟨w6.heap.size, 0, none⟩)) (by kernel_rfl)) (X.fld Try.underlying46 rfl (Try.siz9 _) rfl rfl)) (hR.step (Gr.refl _) rfl)
          · intro ac done u W Sx hR
            have g : Gr w32 W := hR.1
            exact X.val (X.w0 rfl) rfl (X.load rfl (Sx.ev 82 (.pointer (some ⟨w6.heap.size, 2, none⟩)) (by kernel_rfl)) (X.ld1 (Try.agg9 _) ((hC.gr g).at 2 rfl))) (hR.step (Gr.refl _) rfl)
          · intro ac done u W Sx hR
            have g : Gr w32 W := hR.1
            exact X.val (X.w0 rfl) rfl (Y.lenS Try.underlying9 rfl (Sx.ev 83 (.string p.data) (by kernel_rfl))) (hR.step (Gr.refl _) rfl)
          · intro ac done u W Sx hR
            have g : Gr w32 W := hR.1
            exact X.val (X.w0 rfl) rfl (X.binop rfl (Sx.ev 81 (.int .i64 p.tg) (by kernel_rfl)) (Sx.ev 84 (.int .i64 (p.data.size : Nat)) (by kernel_rfl)) (X.remI Try.underlying3 rfl (by omega) (by omega))) (hR.step (Gr.refl _) rfl)
          · intro ac done u W Sx hR
            have g : Gr w32 W := hR.1
            exact X.val (X.w0 rfl) rfl (X.field rfl (Sx.ev 7 (.pointer (some ⟨w6.heap.size, 0, none⟩)) (by kernel_rfl)) (X.fld Try.underlying46 rfl (Try.siz9 _) rfl rfl)) (hR.step (Gr.refl _) rfl)
          · intro ac done u W Sx hR
            have g : Gr w32 W := hR.1
            exact X.val (X.w0 rfl) rfl (X.load rfl (Sx.ev 86 (.pointer (some ⟨w6.heap.size, 2, none⟩)) (by kernel_rfl)) (X.ld1 (Try.agg9 _) ((hC.gr g).at 2 rfl))) (hR.step (Gr.refl _) rfl)
          · intro ac done u W Sx hR
            have g : Gr w32 W := hR.1
            exact X.val (X.w0 rfl) rfl (Y.lenS Try.underlying9 rfl (Sx.ev 87 (.string p.data) (by kernel_rfl))) (hR.step (Gr.refl _) rfl)
          · intro ac done u W Sx hR
            have g : Gr w32 W := hR.1
            exact X.val (X.w0 rfl) rfl (X.binop rfl (Sx.ev 85 (.int .i64 (Int.tmod (p.tg : Int) ((p.data.size : Nat) : Int))) (by kernel_rfl)) (Sx.ev 88 (.int .i64 (p.data.size : Nat)) (by kernel_rfl)) (X.addI Try.underlying3 rfl (by omega) (by omega))) (hR.step (Gr.refl _) rfl)
          · intro ac done u W Sx hR
            have g : Gr w32 W := hR.1
            exact X.val (X.w0 rfl) rfl (X.field rfl (Sx.ev 7 (.pointer (some ⟨w6.heap.size, 0, none⟩)) (by kernel_rfl)) (X.fld Try.underlying46 rfl (Try.siz9 _) rfl rfl)) (hR.step (Gr.refl _) rfl)
          · intro ac done u W Sx hR
            have g : Gr w32 W := hR.1
            exact X.val (X.w0 rfl) rfl (X.load rfl (Sx.ev 90 (.pointer (some ⟨w6.heap.size, 2, none⟩)) (by kernel_rfl)) (X.ld1 (Try.agg9 _) ((hC.gr g).at 2 rfl))) (hR.step (Gr.refl _) rfl)
          · intro ac done u W Sx hR
            have g : Gr w32 W := hR.1
            exact X.val (X.w0 rfl) rfl (Y.lenS Try.underlying9 rfl (Sx.ev 91 (.string p.data) (by kernel_rfl))) (hR.step (Gr.refl _) rfl)
          · intro ac done u W Sx hR
            have g : Gr w32 W := hR.1
            exact X.val (X.w0 rfl) rfl (X.binop rfl (Sx.ev 89 (.int .i64 ((Int.tmod (p.tg : Int) ((p.data.size : Nat) : Int) : Int) + (p.data.size : Nat))) (by kernel_rfl)) (Sx.ev 92 (.int .i64 (p.data.size : Nat)) (by kernel_rfl)) (X.remI Try.underlying3 rfl (by omega) (by omega))) (hR.step (Gr.refl _) rfl)
          · intro ac done u W Sx hR
            have g : Gr w32 W := hR.1
            exact X.val (X.w0 rfl) rfl (X.assign rfl (Sx.ev 93 (.int .i64 (Int.tmod ((Int.tmod (p.tg : Int) ((p.data.size : Nat) : Int) : Int) + (p.data.size : Nat) : Int) ((p.data.size : Nat) : Int))) (by kernel_rfl))) (hR.step (Gr.refl _) rfl)
          intro ac u w71 hs hd hl ho hR
          have g : Gr w32 w71 := hR.1
          replace F : Fr ac 204 [(0, .agg #[.slice (some pd27) tn tc, .slice ca cn cc]), (1, .int .i64 se), (2, .agg #[.slice a n c, .slice (some pd8) 1 lc]), (3, .pointer (some ⟨w.heap.size, 0, none⟩)), (5, .pointer (some ⟨w4.heap.size, 0, none⟩)), (6, .bool false), (7, .pointer (some ⟨w6.heap.size, 0, none⟩)), (8, .int .i64 (tagR se p.c p.v p.data)), (9, .int .i64 (AcceptE f se p.c p.v p.data (tagR se p.c p.v p.data))), (10, .int .i64 (Int.tmod ((Int.tmod (p.tg : Int) ((p.data.size : Nat) : Int) : Int) + (p.data.size : Nat) : Int) ((p.data.size : Nat) : Int))), (22, .bool false), (35, .bool false), (69, .bool false), (71, .bool false), (76, .bool true)] := X.fr hs hd hl _ (by kernel_rfl)
          clear hs hd hl ho hR
          replace G := G.trans g
          replace hC := hC.gr g
          replace GA := GA.trans g
          replace hf := hf.gr g
          replace hx := hx.gr g
          replace hP := hP.gr g
          replace ht := ht.gr g
          replace hO9 := hO9.gr g
          replace pi27 := pi27.gr g
          clear g
          obtain ⟨kk, hkk⟩ : ∃ kk : Nat, Int.tmod ((Int.tmod (p.tg : Int) ((p.data.size : Nat) : Int) : Int) + (p.data.size : Nat) : Int) ((p.data.size : Nat) : Int) = (kk : Int) := ⟨_, (Int.toNat_of_nonneg hq2.1).symm⟩
          rw [hkk] at F
          have hkl : kk < p.data.size := by have := hq2.2; omega
          refine X.thenN ?_
          refine Y.seq ?_
          refine Y.lit (by kernel_rfl) ?_
          refine Y.pval F (X.w0 rfl) rfl (X.load rfl (F.ev 7 (.pointer (some ⟨w6.heap.size, 0, none⟩)) (by kernel_rfl)) (X.ldN (Try.agg46 _) (Try.siz46 _) (X.c4 (hC.at 0 rfl) (hC.at 1 rfl) (hC.at 2 rfl) (hC.at 3 rfl)))) ?_
          clear F ac
          intro ac F
          refine Y.pval F (X.w0 rfl) rfl (Y.al rfl (Try.new46 _)) ?_
          clear F ac
          intro ac F
          have hbl73_0 : w6.heap.size < w71.heap.size := lt_cell (hC.at 0 rfl)
          have hbl73_4 : w.heap.size < w71.heap.size := lt_cell (hC.at 4 rfl)
          have hbl73_6 : w4.heap.size < w71.heap.size := lt_cell (hC.at 6 rfl)
          have hge73 : w.heap.size ≤ w71.heap.size := G.size
          have g := Gr.alloc w71 (.cells #[.int .i64 0, .int .i64 0, .string ByteArray.empty, .int .i64 0] 46)
          have hb := heap_alloc_new w71 (.cells #[.int .i64 0, .int .i64 0, .string ByteArray.empty, .int .i64 0] 46)
          have hbl : w71.heap.size < (w71.alloc (.cells #[.int .i64 0, .int .i64 0, .string ByteArray.empty, .int .i64 0] 46)).heap.size := by simp
          have hC2 : RCells (w71.alloc (.cells #[.int .i64 0, .int .i64 0, .string ByteArray.empty, .int .i64 0] 46)) [(⟨w6.heap.size, 0, none⟩, .int .i64 p.c), (⟨w6.heap.size, 1, none⟩, .int .i64 p.v), (⟨w6.heap.size, 2, none⟩, .string p.data), (⟨w6.heap.size, 3, none⟩, .int .i64 (tagR se p.c p.v p.data)), (⟨w.heap.size, 0, none⟩, .slice (some pd27) tn tc), (⟨w.heap.size, 1, none⟩, .slice ca cn cc), (⟨w4.heap.size, 0, none⟩, .slice a n c), (⟨w4.heap.size, 1, none⟩, .slice (some pd8) 1 lc), (pd8.add (0 * 4), .int .i64 p.c), (⟨(pd8.add (0 * 4)).block, (pd8.add (0 * 4)).off + 1, none⟩, .int .i64 p.v), (⟨(pd8.add (0 * 4)).block, (pd8.add (0 * 4)).off + 2, none⟩, .string p.data), (⟨(pd8.add (0 * 4)).block, (pd8.add (0 * 4)).off + 3, none⟩, .int .i64 p.tg), (pd27.add p.c.toNat, .slice pa27 rn27 pq27), (⟨w71.heap.size, 0, none⟩, .int .i64 0), (⟨w71.heap.size, 1, none⟩, .int .i64 0), (⟨w71.heap.size, 2, none⟩, .string ByteArray.empty), (⟨w71.heap.size, 3, none⟩, .int .i64 0)] := hC.box (b := w71.heap.size) #[.int .i64 0, .int .i64 0, .string ByteArray.empty, .int .i64 0] 46 rfl
          generalize w71.alloc (.cells #[.int .i64 0, .int .i64 0, .string ByteArray.empty, .int .i64 0] 46) = w74 at *
          replace G := G.trans g
          replace hC := hC2
          clear hC2
          replace GA := GA.trans g
          replace hf := hf.gr g
          replace hx := hx.gr g
          replace hP := hP.gr g
          replace ht := ht.gr g
          replace hO9 := hO9.gr g
          replace pi27 := pi27.gr g
          have hO72 := lv4_new hb
          clear g hb hbl
          obtain ⟨w75, hrun, hO2, hon⟩ := lv4_st (t := 46) (y0 := (.int .i64 p.c)) (y1 := (.int .i64 p.v)) (y2 := (.string p.data)) (y3 := (.int .i64 (tagR se p.c p.v p.data))) hO72 (Try.siz46 _) rfl rfl rfl rfl
          refine Y.punit F (X.w0 rfl) rfl (X.store rfl (F.ev 11 (.pointer (some ⟨w71.heap.size, 0, none⟩)) (by kernel_rfl)) (F.ev 94 (.agg #[.int .i64 p.c, .int .i64 p.v, .string p.data, .int .i64 (tagR se p.c p.v p.data)]) (by kernel_rfl)) hrun) ?_
          clear F ac hrun
          intro ac F
          replace GA := Y.Only.up GA hon (by omega)
          replace G := G0A.trans GA
          replace hf := hfA.gr GA
          replace hx := hxA.gr GA
          replace hP := hPA.gr GA
          replace ht := htA.gr GA
          replace hO9 := hO9.only hon (by omega)
          replace pi27 := pi27A.gr GA
          replace hC : RCells w75 [(⟨w71.heap.size, 0, none⟩, .int .i64 p.c), (⟨w71.heap.size, 1, none⟩, .int .i64 p.v), (⟨w71.heap.size, 2, none⟩, .string p.data), (⟨w71.heap.size, 3, none⟩, .int .i64 (tagR se p.c p.v p.data)), (⟨w6.heap.size, 0, none⟩, .int .i64 p.c), (⟨w6.heap.size, 1, none⟩, .int .i64 p.v), (⟨w6.heap.size, 2, none⟩, .string p.data), (⟨w6.heap.size, 3, none⟩, .int .i64 (tagR se p.c p.v p.data)), (⟨w.heap.size, 0, none⟩, .slice (some pd27) tn tc), (⟨w.heap.size, 1, none⟩, .slice ca cn cc), (⟨w4.heap.size, 0, none⟩, .slice a n c), (⟨w4.heap.size, 1, none⟩, .slice (some pd8) 1 lc), (pd8.add (0 * 4), .int .i64 p.c), (⟨(pd8.add (0 * 4)).block, (pd8.add (0 * 4)).off + 1, none⟩, .int .i64 p.v), (⟨(pd8.add (0 * 4)).block, (pd8.add (0 * 4)).off + 2, none⟩, .string p.data), (⟨(pd8.add (0 * 4)).block, (pd8.add (0 * 4)).off + 3, none⟩, .int .i64 p.tg), (pd27.add p.c.toNat, .slice pa27 rn27 pq27)] := (RCells.cons (hO2.cell (k := 0) (by decide)) (RCells.cons (hO2.cell (k := 1) (by decide)) (RCells.cons (hO2.cell (k := 2) (by decide)) (RCells.cons (hO2.cell (k := 3) (by decide)) (RCells.cons (hon.cell (hC.at 0 rfl) (by simp only; omega)) (RCells.cons (hon.cell (hC.at 1 rfl) (by simp only; omega)) (RCells.cons (hon.cell (hC.at 2 rfl) (by simp only; omega)) (RCells.cons (hon.cell (hC.at 3 rfl) (by simp only; omega)) (RCells.cons (hon.cell (hC.at 4 rfl) (by simp only; omega)) (RCells.cons (hon.cell (hC.at 5 rfl) (by simp only; omega)) (RCells.cons (hon.cell (hC.at 6 rfl) (by simp only; omega)) (RCells.cons (hon.cell (hC.at 7 rfl) (by simp only; omega)) (RCells.cons ((hCA.gr GA).at 0 rfl) (RCells.cons ((hCA.gr GA).at 1 rfl) (RCells.cons ((hCA.gr GA).at 2 rfl) (RCells.cons ((hCA.gr GA).at 3 rfl) (RCells.cons ((hCA.gr GA).at 4 rfl) (RCells.nil _))))))))))))))))))
          have hO72 := hO2
          clear hO2 hon
          refine Y.nil ?_
          replace F : Fr ac 204 [(0, .agg #[.slice (some pd27) tn tc, .slice ca cn cc]), (1, .int .i64 se), (2, .agg #[.slice a n c, .slice (some pd8) 1 lc]), (3, .pointer (some ⟨w.heap.size, 0, none⟩)), (5, .pointer (some ⟨w4.heap.size, 0, none⟩)), (6, .bool false), (7, .pointer (some ⟨w6.heap.size, 0, none⟩)), (8, .int .i64 (tagR se p.c p.v p.data)), (9, .int .i64 (AcceptE f se p.c p.v p.data (tagR se p.c p.v p.data))), (10, .int .i64 kk), (11, .pointer (some ⟨w71.heap.size, 0, none⟩)), (22, .bool false), (35, .bool false), (69, .bool false), (71, .bool false), (76, .bool true)] := F.sub _ (by kernel_rfl)
          refine X.thenN ?_
          refine Y.seq ?_
          refine Y.lit (by kernel_rfl) ?_
          refine Y.pval F (X.w0 rfl) rfl (X.field rfl (F.ev 7 (.pointer (some ⟨w6.heap.size, 0, none⟩)) (by kernel_rfl)) (X.fld Try.underlying46 rfl (Try.siz9 _) rfl rfl)) ?_
          clear F ac
          intro ac F
          refine Y.pval F (X.w0 rfl) rfl (X.load rfl (F.ev 95 (.pointer (some ⟨w6.heap.size, 2, none⟩)) (by kernel_rfl)) (X.ld1 (Try.agg9 _) (hC.at 6 rfl))) ?_
          clear F ac
          intro ac F
          have hbl77_0 : w71.heap.size < w75.heap.size := lt_cell (hC.at 0 rfl)
          have hbl77_4 : w6.heap.size < w75.heap.size := lt_cell (hC.at 4 rfl)
          have hbl77_8 : w.heap.size < w75.heap.size := lt_cell (hC.at 8 rfl)
          have hbl77_10 : w4.heap.size < w75.heap.size := lt_cell (hC.at 10 rfl)
          have hge77 : w.heap.size ≤ w75.heap.size := G.size
          obtain ⟨bc, w76, hrun, hBy, g⟩ := bytes_of p.data w75
          refine Y.pval F (X.w0 rfl) rfl (Y.cv rfl (F.ev 96 (.string p.data) (by kernel_rfl)) hrun) ?_
          clear F ac hrun
          intro ac F
          replace G := G.trans g
          replace hC := hC.gr g
          replace GA := GA.trans g
          replace hf := hf.gr g
          replace hx := hx.gr g
          replace hP := hP.gr g
          replace ht := ht.gr g
          replace hO9 := hO9.gr g
          replace pi27 := pi27.gr g
          replace hO72 := hO72.gr g
          clear g
          refine Y.pval F (X.w0 rfl) rfl (X.assign rfl (F.ev 97 (.slice (some ⟨w75.heap.size, 0, none⟩) (p.data.size : Nat) bc) (by kernel_rfl))) ?_
          clear F ac
          intro ac F
          refine Y.nil ?_
          replace F : Fr ac 204 [(0, .agg #[.slice (some pd27) tn tc, .slice ca cn cc]), (1, .int .i64 se), (2, .agg #[.slice a n c, .slice (some pd8) 1 lc]), (3, .pointer (some ⟨w.heap.size, 0, none⟩)), (5, .pointer (some ⟨w4.heap.size, 0, none⟩)), (6, .bool false), (7, .pointer (some ⟨w6.heap.size, 0, none⟩)), (8, .int .i64 (tagR se p.c p.v p.data)), (9, .int .i64 (AcceptE f se p.c p.v p.data (tagR se p.c p.v p.data))), (10, .int .i64 kk), (11, .pointer (some ⟨w71.heap.size, 0, none⟩)), (12, .slice (some ⟨w75.heap.size, 0, none⟩) (p.data.size : Nat) bc), (22, .bool false), (35, .bool false), (69, .bool false), (71, .bool false), (76, .bool true)] := F.sub _ (by kernel_rfl)
          refine X.thenN ?_
          refine Y.seq ?_
          have hkk2 : kk < p.data.data.toList.length := by rw [Array.length_toList]; exact hkl
          have hm1 := tagR_bd se p.c p.v p.data
          have hm2 := tmod_in (p := tagR se p.c p.v p.data + (kk : Int)) (q := 255) (by decide) (by omega)
          have hx1 := xorV_bd ((p.data.data.toList[kk]?.getD 0).toNat : Nat) (1 + Int.tmod (tagR se p.c p.v p.data + (kk : Int)) 255)
          have hxne := xor_byte_ne (p.data.data.toList[kk]?.getD 0) (z := 1 + Int.tmod (tagR se p.c p.v p.data + (kk : Int)) 255) (by omega)
          replace hC : RCells w76 [(⟨w71.heap.size, 0, none⟩, .int .i64 p.c), (⟨w71.heap.size, 1, none⟩, .int .i64 p.v), (⟨w71.heap.size, 2, none⟩, .string p.data), (⟨w71.heap.size, 3, none⟩, .int .i64 (tagR se p.c p.v p.data)), (⟨w6.heap.size, 0, none⟩, .int .i64 p.c), (⟨w6.heap.size, 1, none⟩, .int .i64 p.v), (⟨w6.heap.size, 2, none⟩, .string p.data), (⟨w6.heap.size, 3, none⟩, .int .i64 (tagR se p.c p.v p.data)), (⟨w.heap.size, 0, none⟩, .slice (some pd27) tn tc), (⟨w.heap.size, 1, none⟩, .slice ca cn cc), (⟨w4.heap.size, 0, none⟩, .slice a n c), (⟨w4.heap.size, 1, none⟩, .slice (some pd8) 1 lc), (pd8.add (0 * 4), .int .i64 p.c), (⟨(pd8.add (0 * 4)).block, (pd8.add (0 * 4)).off + 1, none⟩, .int .i64 p.v), (⟨(pd8.add (0 * 4)).block, (pd8.add (0 * 4)).off + 2, none⟩, .string p.data), (⟨(pd8.add (0 * 4)).block, (pd8.add (0 * 4)).off + 3, none⟩, .int .i64 p.tg), (pd27.add p.c.toNat, .slice pa27 rn27 pq27), (⟨w75.heap.size, kk, none⟩, .int .u8 ((p.data.data.toList[kk]?.getD 0).toNat : Nat))] := hC.append ((RCells.cons (hBy.at hkk2) (RCells.nil _)))
          refine Y.regionS F [some (.slice (some ⟨w75.heap.size, 0, none⟩) (p.data.size : Nat) bc), some (.int .i64 kk), some (.pointer (some ⟨w75.heap.size, kk, none⟩)), some (.int .u8 ((p.data.data.toList[kk]?.getD 0).toNat : Nat)), some (.pointer (some ⟨w6.heap.size, 3, none⟩)), some (.int .i64 (tagR se p.c p.v p.data)), some (.int .i64 kk), some (.int .i64 ((tagR se p.c p.v p.data : Int) + kk)), some (.int .i64 (Int.tmod ((tagR se p.c p.v p.data : Int) + kk : Int) 255)), some (.int .i64 (1 + (Int.tmod ((tagR se p.c p.v p.data : Int) + kk : Int) 255))), some (.int .u8 (1 + (Int.tmod ((tagR se p.c p.v p.data : Int) + kk : Int) 255))), some (.int .u8 (xorV ((p.data.data.toList[kk]?.getD 0).toNat : Nat) (1 + (Int.tmod ((tagR se p.c p.v p.data : Int) + kk : Int) 255)))), some (.pointer (some ⟨w75.heap.size, kk, none⟩)), none] [] 13 (fun _ W => OwnBy W (w75.heap.size) (p.data.data.toList.set kk (UInt8.ofNat (xorV ((p.data.data.toList[kk]?.getD 0).toNat : Nat) (1 + (Int.tmod ((tagR se p.c p.v p.data : Int) + kk : Int) 255))).toNat)) ∧ Only (fun x => x = w75.heap.size) w76 W) rfl ⟨by kernel_rfl, of_decide_eq_true (by kernel_rfl), by kernel_rfl, by kernel_rfl, by kernel_rfl⟩ (of_decide_eq_true (by kernel_rfl)) ⟨?_, ?_, ?_, ?_, ?_, ?_, ?_, ?_, ?_, ?_, ?_, ?_, ?_, ?_, trivial⟩ ?_
          · intro ac done u W Sx hT
            have hs := Sx.no 13 (by kernel_rfl)
            have hR := hT.1 hs
            have g : Gr w76 W := hR.1
            exact X.val (X.w0 rfl) rfl (X.move rfl (Sx.ev 12 (.slice (some ⟨w75.heap.size, 0, none⟩) (p.data.size : Nat) bc) (by kernel_rfl))) (Y.RT.of hs rfl (hR.step (Gr.refl _) rfl))
          · intro ac done u W Sx hT
            have hs := Sx.no 13 (by kernel_rfl)
            have hR := hT.1 hs
            have g : Gr w76 W := hR.1
            exact X.val (X.w0 rfl) rfl (X.move rfl (Sx.ev 10 (.int .i64 kk) (by kernel_rfl))) (Y.RT.of hs rfl (hR.step (Gr.refl _) rfl))
          · intro ac done u W Sx hT
            have hs := Sx.no 13 (by kernel_rfl)
            have hR := hT.1 hs
            have g : Gr w76 W := hR.1
            exact X.val (X.w0 rfl) rfl (X.index rfl (Sx.ev 98 (.slice (some ⟨w75.heap.size, 0, none⟩) (p.data.size : Nat) bc) (by kernel_rfl)) (Sx.ev 99 (.int .i64 kk) (by kernel_rfl)) (X.idx (k := kk) Try.underlying66 (Try.siz5 _) (by omega) rfl (by rw [Nat.mul_one]; exact addr_add0 _ _))) (Y.RT.of hs rfl (hR.step (Gr.refl _) rfl))
          · intro ac done u W Sx hT
            have hs := Sx.no 13 (by kernel_rfl)
            have hR := hT.1 hs
            have g : Gr w76 W := hR.1
            exact X.val (X.w0 rfl) rfl (X.load rfl (Sx.ev 100 (.pointer (some ⟨w75.heap.size, kk, none⟩)) (by kernel_rfl)) (X.ld1 (Try.agg5 _) ((hC.gr g).at 17 rfl))) (Y.RT.of hs rfl (hR.step (Gr.refl _) rfl))
          · intro ac done u W Sx hT
            have hs := Sx.no 13 (by kernel_rfl)
            have hR := hT.1 hs
            have g : Gr w76 W := hR.1
            exact X.val (X.w0 rfl) rfl (X.field rfl (Sx.ev 7 (.pointer (some ⟨w6.heap.size, 0, none⟩)) (by kernel_rfl)) (X.fld Try.underlying46 rfl (Try.siz3 _) rfl rfl)) (Y.RT.of hs rfl (hR.step (Gr.refl _) rfl))
          · intro ac done u W Sx hT
            have hs := Sx.no 13 (by kernel_rfl)
            have hR := hT.1 hs
            have g : Gr w76 W := hR.1
            exact X.val (X.w0 rfl) rfl (X.load rfl (Sx.ev 102 (.pointer (some ⟨w6.heap.size, 3, none⟩)) (by kernel_rfl)) (X.ld1 (Try.agg3 _) ((hC.gr g).at 7 rfl))) (Y.RT.of hs rfl (hR.step (Gr.refl _) rfl))
          · intro ac done u W Sx hT
            have hs := Sx.no 13 (by kernel_rfl)
            have hR := hT.1 hs
            have g : Gr w76 W := hR.1
            exact X.val (X.w0 rfl) rfl (X.move rfl (Sx.ev 10 (.int .i64 kk) (by kernel_rfl))) (Y.RT.of hs rfl (hR.step (Gr.refl _) rfl))
          · intro ac done u W Sx hT
            have hs := Sx.no 13 (by kernel_rfl)
            have hR := hT.1 hs
            have g : Gr w76 W := hR.1
            exact X.val (X.w0 rfl) rfl (X.binop rfl (Sx.ev 103 (.int .i64 (tagR se p.c p.v p.data)) (by kernel_rfl)) (Sx.ev 104 (.int .i64 kk) (by kernel_rfl)) (X.addI Try.underlying3 rfl (by omega) (by omega))) (Y.RT.of hs rfl (hR.step (Gr.refl _) rfl))
          · intro ac done u W Sx hT
            have hs := Sx.no 13 (by kernel_rfl)
            have hR := hT.1 hs
            have g : Gr w76 W := hR.1
            exact X.val (X.w0 rfl) rfl (X.binop rfl (Sx.ev 105 (.int .i64 ((tagR se p.c p.v p.data : Int) + kk)) (by kernel_rfl)) (X.kc (.int .i64 255) rfl) (X.remI Try.underlying3 rfl (by omega) (by omega))) (Y.RT.of hs rfl (hR.step (Gr.refl _) rfl))
          · intro ac done u W Sx hT
            have hs := Sx.no 13 (by kernel_rfl)
            have hR := hT.1 hs
            have g : Gr w76 W := hR.1
            exact X.val (X.w0 rfl) rfl (X.binop rfl (X.kc (.int .i64 1) rfl) (Sx.ev 106 (.int .i64 (Int.tmod ((tagR se p.c p.v p.data : Int) + kk : Int) 255)) (by kernel_rfl)) (X.addI Try.underlying3 rfl (by omega) (by omega))) (Y.RT.of hs rfl (hR.step (Gr.refl _) rfl))
          · intro ac done u W Sx hT
            have hs := Sx.no 13 (by kernel_rfl)
            have hR := hT.1 hs
            have g : Gr w76 W := hR.1
            exact X.val (X.w0 rfl) rfl (Y.cv rfl (Sx.ev 107 (.int .i64 (1 + (Int.tmod ((tagR se p.c p.v p.data : Int) + kk : Int) 255))) (by kernel_rfl)) (Try.cv35 _ _ (by omega))) (Y.RT.of hs rfl (hR.step (Gr.refl _) rfl))
          · intro ac done u W Sx hT
            have hs := Sx.no 13 (by kernel_rfl)
            have hR := hT.1 hs
            have g : Gr w76 W := hR.1
            exact X.val (X.w0 rfl) rfl (X.binop rfl (Sx.ev 101 (.int .u8 ((p.data.data.toList[kk]?.getD 0).toNat : Nat)) (by kernel_rfl)) (Sx.ev 108 (.int .u8 (1 + (Int.tmod ((tagR se p.c p.v p.data : Int) + kk : Int) 255))) (by kernel_rfl)) (X.xorB Try.underlying5)) (Y.RT.of hs rfl (hR.step (Gr.refl _) rfl))
          · intro ac done u W Sx hT
            have hs := Sx.no 13 (by kernel_rfl)
            have hR := hT.1 hs
            have g : Gr w76 W := hR.1
            exact X.val (X.w0 rfl) rfl (X.index rfl (Sx.ev 98 (.slice (some ⟨w75.heap.size, 0, none⟩) (p.data.size : Nat) bc) (by kernel_rfl)) (Sx.ev 99 (.int .i64 kk) (by kernel_rfl)) (X.idx (k := kk) Try.underlying66 (Try.siz5 _) (by omega) rfl (by rw [Nat.mul_one]; exact addr_add0 _ _))) (Y.RT.of hs rfl (hR.step (Gr.refl _) rfl))
          · intro ac done u W Sx hT
            have hR := hT.1 Sx.nd
            have g : Gr w76 W := hR.1
            obtain ⟨W2, hrun, hB2, hon⟩ := (hBy.gr g).st hkk2 (xorV ((p.data.data.toList[kk]?.getD 0).toNat : Nat) (1 + (Int.tmod ((tagR se p.c p.v p.data : Int) + kk : Int) 255))) hx1.1 hx1.2
            exact X.unit (X.w0 rfl) rfl (X.store rfl (Sx.ev 110 (.pointer (some ⟨w75.heap.size, kk, none⟩)) (by kernel_rfl)) (Sx.ev 109 (.int .u8 (xorV ((p.data.data.toList[kk]?.getD 0).toNat : Nat) (1 + (Int.tmod ((tagR se p.c p.v p.data : Int) + kk : Int) 255)))) (by kernel_rfl)) hrun) (Y.RT.fin ⟨hB2, (g.only _).trans hon⟩)
          rintro ac u w78 hs hd hl ho ⟨hBy2, hon⟩
          replace F : Fr ac 204 [(0, .agg #[.slice (some pd27) tn tc, .slice ca cn cc]), (1, .int .i64 se), (2, .agg #[.slice a n c, .slice (some pd8) 1 lc]), (3, .pointer (some ⟨w.heap.size, 0, none⟩)), (5, .pointer (some ⟨w4.heap.size, 0, none⟩)), (6, .bool false), (7, .pointer (some ⟨w6.heap.size, 0, none⟩)), (8, .int .i64 (tagR se p.c p.v p.data)), (9, .int .i64 (AcceptE f se p.c p.v p.data (tagR se p.c p.v p.data))), (10, .int .i64 kk), (11, .pointer (some ⟨w71.heap.size, 0, none⟩)), (12, .slice (some ⟨w75.heap.size, 0, none⟩) (p.data.size : Nat) bc), (22, .bool false), (35, .bool false), (69, .bool false), (71, .bool false), (76, .bool true)] := X.fr hs hd hl _ (by kernel_rfl)
          clear hs hd hl ho
          replace GA := Y.Only.up GA hon (by omega)
          replace G := G0A.trans GA
          replace hf := hfA.gr GA
          replace hx := hxA.gr GA
          replace hP := hPA.gr GA
          replace ht := htA.gr GA
          replace hO9 := hO9.only hon (by omega)
          replace pi27 := pi27A.gr GA
          replace hO72 := hO72.only hon (by omega)
          replace hC : RCells w78 [(⟨w71.heap.size, 0, none⟩, .int .i64 p.c), (⟨w71.heap.size, 1, none⟩, .int .i64 p.v), (⟨w71.heap.size, 2, none⟩, .string p.data), (⟨w71.heap.size, 3, none⟩, .int .i64 (tagR se p.c p.v p.data)), (⟨w6.heap.size, 0, none⟩, .int .i64 p.c), (⟨w6.heap.size, 1, none⟩, .int .i64 p.v), (⟨w6.heap.size, 2, none⟩, .string p.data), (⟨w6.heap.size, 3, none⟩, .int .i64 (tagR se p.c p.v p.data)), (⟨w.heap.size, 0, none⟩, .slice (some pd27) tn tc), (⟨w.heap.size, 1, none⟩, .slice ca cn cc), (⟨w4.heap.size, 0, none⟩, .slice a n c), (⟨w4.heap.size, 1, none⟩, .slice (some pd8) 1 lc), (pd8.add (0 * 4), .int .i64 p.c), (⟨(pd8.add (0 * 4)).block, (pd8.add (0 * 4)).off + 1, none⟩, .int .i64 p.v), (⟨(pd8.add (0 * 4)).block, (pd8.add (0 * 4)).off + 2, none⟩, .string p.data), (⟨(pd8.add (0 * 4)).block, (pd8.add (0 * 4)).off + 3, none⟩, .int .i64 p.tg), (pd27.add p.c.toNat, .slice pa27 rn27 pq27)] := (RCells.cons (hon.cell (hC.at 0 rfl) (by simp only; omega)) (RCells.cons (hon.cell (hC.at 1 rfl) (by simp only; omega)) (RCells.cons (hon.cell (hC.at 2 rfl) (by simp only; omega)) (RCells.cons (hon.cell (hC.at 3 rfl) (by simp only; omega)) (RCells.cons (hon.cell (hC.at 4 rfl) (by simp only; omega)) (RCells.cons (hon.cell (hC.at 5 rfl) (by simp only; omega)) (RCells.cons (hon.cell (hC.at 6 rfl) (by simp only; omega)) (RCells.cons (hon.cell (hC.at 7 rfl) (by simp only; omega)) (RCells.cons (hon.cell (hC.at 8 rfl) (by simp only; omega)) (RCells.cons (hon.cell (hC.at 9 rfl) (by simp only; omega)) (RCells.cons (hon.cell (hC.at 10 rfl) (by simp only; omega)) (RCells.cons (hon.cell (hC.at 11 rfl) (by simp only; omega)) (RCells.cons ((hCA.gr GA).at 0 rfl) (RCells.cons ((hCA.gr GA).at 1 rfl) (RCells.cons ((hCA.gr GA).at 2 rfl) (RCells.cons ((hCA.gr GA).at 3 rfl) (RCells.cons ((hCA.gr GA).at 4 rfl) (RCells.nil _))))))))))))))))))
          have hBy := hBy2
          clear hBy2 hon
          have pz2 : (⟨(p.data.data.toList.set kk (UInt8.ofNat (xorV ((p.data.data.toList[kk]?.getD 0).toNat : Nat) (1 + (Int.tmod ((tagR se p.c p.v p.data : Int) + kk : Int) 255))).toNat)).toArray⟩ : ByteArray).size < 1152921504606846976 := by
            show ((p.data.data.toList.set kk (UInt8.ofNat (xorV ((p.data.data.toList[kk]?.getD 0).toNat : Nat) (1 + (Int.tmod ((tagR se p.c p.v p.data : Int) + kk : Int) 255))).toNat)).toArray).size < _
            rw [List.size_toArray, List.length_set, Array.length_toList]; exact pz
          refine X.thenN ?_
          refine Y.seq ?_
          refine Y.lit (by kernel_rfl) ?_
          refine Y.pval F (X.w0 rfl) rfl (X.move rfl (F.ev 12 (.slice (some ⟨w75.heap.size, 0, none⟩) (p.data.size : Nat) bc) (by kernel_rfl))) ?_
          clear F ac
          intro ac F
          refine Y.pval F (X.w0 rfl) rfl (Y.cv rfl (F.ev 111 (.slice (some ⟨w75.heap.size, 0, none⟩) (p.data.size : Nat) bc) (by kernel_rfl)) (string_of hBy (by rw [List.length_set, Array.length_toList]; rfl))) ?_
          clear F ac
          intro ac F
          refine Y.pval F (X.w0 rfl) rfl (X.field rfl (F.ev 11 (.pointer (some ⟨w71.heap.size, 0, none⟩)) (by kernel_rfl)) (X.fld Try.underlying46 rfl (Try.siz9 _) rfl rfl)) ?_
          clear F ac
          intro ac F
          obtain ⟨w79, hrun, hO1, hon⟩ := Y.Own.st1 (t := 9) (k := 2) (v := (.string (⟨(p.data.data.toList.set kk (UInt8.ofNat (xorV ((p.data.data.toList[kk]?.getD 0).toNat : Nat) (1 + (Int.tmod ((tagR se p.c p.v p.data : Int) + kk : Int) 255))).toNat)).toArray⟩))) hO72 (Try.siz9 _) rfl rfl (by decide)
          have hO2 := lv4_one (y0 := (.int .i64 p.c)) (y1 := (.int .i64 p.v)) (y2 := (.string (⟨(p.data.data.toList.set kk (UInt8.ofNat (xorV ((p.data.data.toList[kk]?.getD 0).toNat : Nat) (1 + (Int.tmod ((tagR se p.c p.v p.data : Int) + kk : Int) 255))).toNat)).toArray⟩))) (y3 := (.int .i64 (tagR se p.c p.v p.data))) hO1 rfl rfl rfl rfl
          clear hO1
          refine Y.punit F (X.w0 rfl) rfl (X.store rfl (F.ev 113 (.pointer (some ⟨w71.heap.size, 2, none⟩)) (by kernel_rfl)) (F.ev 112 (.string (⟨(p.data.data.toList.set kk (UInt8.ofNat (xorV ((p.data.data.toList[kk]?.getD 0).toNat : Nat) (1 + (Int.tmod ((tagR se p.c p.v p.data : Int) + kk : Int) 255))).toNat)).toArray⟩)) (by kernel_rfl)) hrun) ?_
          clear F ac hrun
          intro ac F
          replace GA := Y.Only.up GA hon (by omega)
          replace G := G0A.trans GA
          replace hf := hfA.gr GA
          replace hx := hxA.gr GA
          replace hP := hPA.gr GA
          replace ht := htA.gr GA
          replace hO9 := hO9.only hon (by omega)
          replace pi27 := pi27A.gr GA
          replace hBy := hBy.only hon (by omega)
          replace hC : RCells w79 [(⟨w71.heap.size, 0, none⟩, .int .i64 p.c), (⟨w71.heap.size, 1, none⟩, .int .i64 p.v), (⟨w71.heap.size, 2, none⟩, .string (⟨(p.data.data.toList.set kk (UInt8.ofNat (xorV ((p.data.data.toList[kk]?.getD 0).toNat : Nat) (1 + (Int.tmod ((tagR se p.c p.v p.data : Int) + kk : Int) 255))).toNat)).toArray⟩)), (⟨w71.heap.size, 3, none⟩, .int .i64 (tagR se p.c p.v p.data)), (⟨w6.heap.size, 0, none⟩, .int .i64 p.c), (⟨w6.heap.size, 1, none⟩, .int .i64 p.v), (⟨w6.heap.size, 2, none⟩, .string p.data), (⟨w6.heap.size, 3, none⟩, .int .i64 (tagR se p.c p.v p.data)), (⟨w.heap.size, 0, none⟩, .slice (some pd27) tn tc), (⟨w.heap.size, 1, none⟩, .slice ca cn cc), (⟨w4.heap.size, 0, none⟩, .slice a n c), (⟨w4.heap.size, 1, none⟩, .slice (some pd8) 1 lc), (pd8.add (0 * 4), .int .i64 p.c), (⟨(pd8.add (0 * 4)).block, (pd8.add (0 * 4)).off + 1, none⟩, .int .i64 p.v), (⟨(pd8.add (0 * 4)).block, (pd8.add (0 * 4)).off + 2, none⟩, .string p.data), (⟨(pd8.add (0 * 4)).block, (pd8.add (0 * 4)).off + 3, none⟩, .int .i64 p.tg), (pd27.add p.c.toNat, .slice pa27 rn27 pq27)] := (RCells.cons (hO2.cell (k := 0) (by decide)) (RCells.cons (hO2.cell (k := 1) (by decide)) (RCells.cons (hO2.cell (k := 2) (by decide)) (RCells.cons (hO2.cell (k := 3) (by decide)) (RCells.cons (hon.cell (hC.at 4 rfl) (by simp only; omega)) (RCells.cons (hon.cell (hC.at 5 rfl) (by simp only; omega)) (RCells.cons (hon.cell (hC.at 6 rfl) (by simp only; omega)) (RCells.cons (hon.cell (hC.at 7 rfl) (by simp only; omega)) (RCells.cons (hon.cell (hC.at 8 rfl) (by simp only; omega)) (RCells.cons (hon.cell (hC.at 9 rfl) (by simp only; omega)) (RCells.cons (hon.cell (hC.at 10 rfl) (by simp only; omega)) (RCells.cons (hon.cell (hC.at 11 rfl) (by simp only; omega)) (RCells.cons ((hCA.gr GA).at 0 rfl) (RCells.cons ((hCA.gr GA).at 1 rfl) (RCells.cons ((hCA.gr GA).at 2 rfl) (RCells.cons ((hCA.gr GA).at 3 rfl) (RCells.cons ((hCA.gr GA).at 4 rfl) (RCells.nil _))))))))))))))))))
          have hO72 := hO2
          clear hO2 hon
          refine Y.nil ?_
          replace F : Fr ac 204 [(0, .agg #[.slice (some pd27) tn tc, .slice ca cn cc]), (1, .int .i64 se), (2, .agg #[.slice a n c, .slice (some pd8) 1 lc]), (3, .pointer (some ⟨w.heap.size, 0, none⟩)), (5, .pointer (some ⟨w4.heap.size, 0, none⟩)), (6, .bool false), (7, .pointer (some ⟨w6.heap.size, 0, none⟩)), (8, .int .i64 (tagR se p.c p.v p.data)), (9, .int .i64 (AcceptE f se p.c p.v p.data (tagR se p.c p.v p.data))), (10, .int .i64 kk), (11, .pointer (some ⟨w71.heap.size, 0, none⟩)), (12, .slice (some ⟨w75.heap.size, 0, none⟩) (p.data.size : Nat) bc), (22, .bool false), (35, .bool false), (69, .bool false), (71, .bool false), (76, .bool true)] := F.sub _ (by kernel_rfl)
          refine X.thenN ?_
          refine Y.seq ?_
          refine Y.lit (by kernel_rfl) ?_
          refine Y.pval F (X.w0 rfl) rfl (X.load rfl (F.ev 3 (.pointer (some ⟨w.heap.size, 0, none⟩)) (by kernel_rfl)) (X.ldN (Try.agg25 _) (Try.siz25 _) (X.c2 (hC.at 8 rfl) (hC.at 9 rfl)))) ?_
          clear F ac
          intro ac F
          refine Y.pval F (X.w0 rfl) rfl (X.move rfl (F.ev 1 (.int .i64 se) (by kernel_rfl))) ?_
          clear F ac
          intro ac F
          refine Y.pval F (X.w0 rfl) rfl (X.load rfl (F.ev 11 (.pointer (some ⟨w71.heap.size, 0, none⟩)) (by kernel_rfl)) (X.ldN (Try.agg46 _) (Try.siz46 _) (X.c4 (hC.at 0 rfl) (hC.at 1 rfl) (hC.at 2 rfl) (hC.at 3 rfl)))) ?_
          clear F ac
          intro ac F
          refine Y.pcall F (X.w0 rfl) rfl (X.enter (F := 27) rfl (X.kc (.func (.func 27) #[] #[]) rfl) (X.a3 (F.ev 114 (.agg #[.slice (some pd27) tn tc, .slice ca cn cc]) (by kernel_rfl)) (F.ev 115 (.int .i64 se) (by kernel_rfl)) (F.ev 116 (.agg #[.int .i64 p.c, .int .i64 p.v, .string (⟨(p.data.data.toList.set kk (UInt8.ofNat (xorV ((p.data.data.toList[kk]?.getD 0).toNat : Nat) (1 + (Int.tmod ((tagR se p.c p.v p.data : Int) + kk : Int) 255))).toNat)).toArray⟩), .int .i64 (tagR se p.c p.v p.data)]) (by kernel_rfl))) (enters_of Try.func27 (by kernel_rfl) rfl _)) (Accept_any (some pd27) ca tn tc cn cc f se p.c p.v (tagR se p.c p.v p.data) (⟨(p.data.data.toList.set kk (UInt8.ofNat (xorV ((p.data.data.toList[kk]?.getD 0).toNat : Nat) (1 + (Int.tmod ((tagR se p.c p.v p.data : Int) + kk : Int) 255))).toNat)).toArray⟩) w79 hf pz2) ?_
          clear F ac
          rintro e w80 ⟨rfl, g⟩
          refine ⟨_, rfl, ?_⟩
          intro ac F
          replace G := G.trans g
          replace hC := hC.gr g
          replace GA := GA.trans g
          replace hf := hf.gr g
          replace hx := hx.gr g
          replace hP := hP.gr g
          replace ht := ht.gr g
          replace hO9 := hO9.gr g
          replace pi27 := pi27.gr g
          replace hBy := hBy.gr g
          replace hO72 := hO72.gr g
          clear g
          refine Y.pval F (X.w0 rfl) rfl (X.binop rfl (F.ev 117 (.int .i64 (AcceptE f se p.c p.v (⟨(p.data.data.toList.set kk (UInt8.ofNat (xorV ((p.data.data.toList[kk]?.getD 0).toNat : Nat) (1 + (Int.tmod ((tagR se p.c p.v p.data : Int) + kk : Int) 255))).toNat)).toArray⟩) (tagR se p.c p.v p.data))) (by kernel_rfl)) (X.kc (.int .i64 113) rfl) (X.neqI Try.underlying31 rfl)) ?_
          clear F ac
          intro ac F
          refine Y.nil ?_
          replace F : Fr ac 204 [(0, .agg #[.slice (some pd27) tn tc, .slice ca cn cc]), (1, .int .i64 se), (2, .agg #[.slice a n c, .slice (some pd8) 1 lc]), (3, .pointer (some ⟨w.heap.size, 0, none⟩)), (5, .pointer (some ⟨w4.heap.size, 0, none⟩)), (6, .bool false), (7, .pointer (some ⟨w6.heap.size, 0, none⟩)), (8, .int .i64 (tagR se p.c p.v p.data)), (9, .int .i64 (AcceptE f se p.c p.v p.data (tagR se p.c p.v p.data))), (10, .int .i64 kk), (11, .pointer (some ⟨w71.heap.size, 0, none⟩)), (12, .slice (some ⟨w75.heap.size, 0, none⟩) (p.data.size : Nat) bc), (22, .bool false), (35, .bool false), (69, .bool false), (71, .bool false), (76, .bool true), (118, .bool ((AcceptE f se p.c p.v (⟨(p.data.data.toList.set kk (UInt8.ofNat (xorV ((p.data.data.toList[kk]?.getD 0).toNat : Nat) (1 + (Int.tmod ((tagR se p.c p.v p.data : Int) + kk : Int) 255))).toNat)).toArray⟩) (tagR se p.c p.v p.data) : Int) != 113))] := F.sub _ (by kernel_rfl)
          refine X.thenN ?_
          have h82 : ((AcceptE f se p.c p.v (⟨(p.data.data.toList.set kk (UInt8.ofNat (xorV ((p.data.data.toList[kk]?.getD 0).toNat : Nat) (1 + (Int.tmod ((tagR se p.c p.v p.data : Int) + kk : Int) 255))).toNat)).toArray⟩) (tagR se p.c p.v p.data) : Int) != 113) = false := by have h := Accept_other hAE (i := kk) (b := UInt8.ofNat (xorV ((p.data.data.toList[kk]?.getD 0).toNat : Nat) (1 + Int.tmod (tagR se p.c p.v p.data + (kk : Int)) 255)).toNat) hkl hxne; rw [h]; rfl
          try rw [h82] at F
          refine Y.condF (F.ev 118 (.bool false) (by kernel_rfl)) ?_
          refine Y.skip ?_
          refine X.thenN ?_
          refine Y.seq ?_
          refine Y.lit (by kernel_rfl) ?_
          refine Y.pval F (X.w0 rfl) rfl (X.load rfl (F.ev 3 (.pointer (some ⟨w.heap.size, 0, none⟩)) (by kernel_rfl)) (X.ldN (Try.agg25 _) (Try.siz25 _) (X.c2 (hC.at 8 rfl) (hC.at 9 rfl)))) ?_
          clear F ac
          intro ac F
          refine Y.pval F (X.w0 rfl) rfl (X.move rfl (F.ev 1 (.int .i64 se) (by kernel_rfl))) ?_
          clear F ac
          intro ac F
          refine Y.pval F (X.w0 rfl) rfl (X.field rfl (F.ev 5 (.pointer (some ⟨w4.heap.size, 0, none⟩)) (by kernel_rfl)) (X.fld Try.underlying55 rfl (Try.siz26 _) rfl rfl)) ?_
          clear F ac
          intro ac F
          refine Y.pval F (X.w0 rfl) rfl (X.load rfl (F.ev 122 (.pointer (some ⟨w4.heap.size, 0, none⟩)) (by kernel_rfl)) (X.ld1 (Try.agg26 _) (hC.at 10 rfl))) ?_
          clear F ac
          intro ac F
          refine Y.pval F (X.w0 rfl) rfl (X.load rfl (F.ev 7 (.pointer (some ⟨w6.heap.size, 0, none⟩)) (by kernel_rfl)) (X.ldN (Try.agg46 _) (Try.siz46 _) (X.c4 (hC.at 4 rfl) (hC.at 5 rfl) (hC.at 6 rfl) (hC.at 7 rfl)))) ?_
          clear F ac
          intro ac F
          refine Y.pval F (X.w0 rfl) rfl (X.bs rfl (X.b1 (F.ev 124 (.agg #[.int .i64 p.c, .int .i64 p.v, .string p.data, .int .i64 (tagR se p.c p.v p.data)]) (by kernel_rfl))) (Try.bs53a _ _ _ _ _)) ?_
          clear F ac
          intro ac F
          have hbl83_0 : w71.heap.size < w80.heap.size := lt_cell (hC.at 0 rfl)
          have hbl83_4 : w6.heap.size < w80.heap.size := lt_cell (hC.at 4 rfl)
          have hbl83_8 : w.heap.size < w80.heap.size := lt_cell (hC.at 8 rfl)
          have hbl83_10 : w4.heap.size < w80.heap.size := lt_cell (hC.at 10 rfl)
          have hge83 : w.heap.size ≤ w80.heap.size := G.size
          have g := Gr.alloc w80 (.cells #[.int .i64 p.c, .int .i64 p.v, .string p.data, .int .i64 (tagR se p.c p.v p.data)] 46)
          have hb := heap_alloc_new w80 (.cells #[.int .i64 p.c, .int .i64 p.v, .string p.data, .int .i64 (tagR se p.c p.v p.data)] 46)
          have hbl : w80.heap.size < (w80.alloc (.cells #[.int .i64 p.c, .int .i64 p.v, .string p.data, .int .i64 (tagR se p.c p.v p.data)] 46)).heap.size := by simp
          generalize w80.alloc (.cells #[.int .i64 p.c, .int .i64 p.v, .string p.data, .int .i64 (tagR se p.c p.v p.data)] 46) = w84 at *
          replace G := G.trans g
          replace hC := hC.gr g
          replace GA := GA.trans g
          replace hf := hf.gr g
          replace hx := hx.gr g
          replace hP := hP.gr g
          replace ht := ht.gr g
          replace hO9 := hO9.gr g
          replace pi27 := pi27.gr g
          replace hBy := hBy.gr g
          replace hO72 := hO72.gr g
          have hPk := pk1 hb pz
          clear g hb hbl
          refine Y.pcall F (X.w0 rfl) rfl (X.enter (F := 34) rfl (X.kc (.func (.func 34) #[] #[]) rfl) (X.a4 (F.ev 120 (.agg #[.slice (some pd27) tn tc, .slice ca cn cc]) (by kernel_rfl)) (F.ev 121 (.int .i64 se) (by kernel_rfl)) (F.ev 123 (.slice a n c) (by kernel_rfl)) (F.ev 125 (.slice (some ⟨w80.heap.size, 0, none⟩) 1 1) (by kernel_rfl))) (enters_of Try.func34 (by kernel_rfl) rfl _)) (install_any (some pd27) ca a (some ⟨w80.heap.size, 0, none⟩) tn tc cn cc n c 1 1 f se xs ([⟨p.c, p.v, p.data, tagR se p.c p.v p.data⟩]) w84 hf hx hPk (Nat.le_refl 1)) ?_
          clear F ac
          rintro e w87 ⟨ia86, in86, ic86, rfl, hI86, g⟩
          refine ⟨_, rfl, ?_⟩
          intro ac F
          replace G := G.trans g
          replace hC := hC.gr g
          replace GA := GA.trans g
          replace hf := hf.gr g
          replace hx := hx.gr g
          replace hP := hP.gr g
          replace ht := ht.gr g
          replace hO9 := hO9.gr g
          replace pi27 := pi27.gr g
          replace hBy := hBy.gr g
          replace hO72 := hO72.gr g
          replace hPk := hPk.gr g
          clear g
          refine Y.pval F (X.w0 rfl) rfl (X.move rfl (F.ev 126 (.tuple #[.slice ia86 in86 ic86, .int .i64 ((instR f se xs ([⟨p.c, p.v, p.data, tagR se p.c p.v p.data⟩])).2.1), .int .i64 ((instR f se xs ([⟨p.c, p.v, p.data, tagR se p.c p.v p.data⟩])).2.2)]) (by kernel_rfl))) ?_
          clear F ac
          intro ac F
          refine Y.pval F (X.w0 rfl) rfl (X.extract rfl (F.ev 119 (.tuple #[.slice ia86 in86 ic86, .int .i64 ((instR f se xs ([⟨p.c, p.v, p.data, tagR se p.c p.v p.data⟩])).2.1), .int .i64 ((instR f se xs ([⟨p.c, p.v, p.data, tagR se p.c p.v p.data⟩])).2.2)]) (by kernel_rfl)) rfl) ?_
          clear F ac
          intro ac F
          refine Y.pval F (X.w0 rfl) rfl (X.extract rfl (F.ev 119 (.tuple #[.slice ia86 in86 ic86, .int .i64 ((instR f se xs ([⟨p.c, p.v, p.data, tagR se p.c p.v p.data⟩])).2.1), .int .i64 ((instR f se xs ([⟨p.c, p.v, p.data, tagR se p.c p.v p.data⟩])).2.2)]) (by kernel_rfl)) rfl) ?_
          clear F ac
          intro ac F
          refine Y.pval F (X.w0 rfl) rfl (X.extract rfl (F.ev 119 (.tuple #[.slice ia86 in86 ic86, .int .i64 ((instR f se xs ([⟨p.c, p.v, p.data, tagR se p.c p.v p.data⟩])).2.1), .int .i64 ((instR f se xs ([⟨p.c, p.v, p.data, tagR se p.c p.v p.data⟩])).2.2)]) (by kernel_rfl)) rfl) ?_
          clear F ac
          intro ac F
          refine Y.pval F (X.w0 rfl) rfl (X.assign rfl (F.ev 127 (.slice ia86 in86 ic86) (by kernel_rfl))) ?_
          clear F ac
          intro ac F
          refine Y.pval F (X.w0 rfl) rfl (X.assign rfl (F.ev 128 (.int .i64 ((instR f se xs ([⟨p.c, p.v, p.data, tagR se p.c p.v p.data⟩])).2.1)) (by kernel_rfl))) ?_
          clear F ac
          intro ac F
          refine Y.pval F (X.w0 rfl) rfl (X.assign rfl (F.ev 129 (.int .i64 ((instR f se xs ([⟨p.c, p.v, p.data, tagR se p.c p.v p.data⟩])).2.2)) (by kernel_rfl))) ?_
          clear F ac
          intro ac F
          refine Y.nil ?_
          replace F : Fr ac 204 [(0, .agg #[.slice (some pd27) tn tc, .slice ca cn cc]), (1, .int .i64 se), (2, .agg #[.slice a n c, .slice (some pd8) 1 lc]), (3, .pointer (some ⟨w.heap.size, 0, none⟩)), (5, .pointer (some ⟨w4.heap.size, 0, none⟩)), (6, .bool false), (7, .pointer (some ⟨w6.heap.size, 0, none⟩)), (8, .int .i64 (tagR se p.c p.v p.data)), (9, .int .i64 ((instR f se xs ([⟨p.c, p.v, p.data, tagR se p.c p.v p.data⟩])).2.2)), (10, .int .i64 kk), (11, .pointer (some ⟨w71.heap.size, 0, none⟩)), (12, .slice (some ⟨w75.heap.size, 0, none⟩) (p.data.size : Nat) bc), (13, .slice ia86 in86 ic86), (22, .bool false), (35, .bool false), (69, .bool false), (71, .bool false), (76, .bool true), (118, .bool false)] := F.sub _ (by kernel_rfl)
          refine X.thenN ?_
          refine Y.seq ?_
          refine Y.seq ?_
          refine Y.lit (by kernel_rfl) ?_
          refine Y.pval F (X.w0 rfl) rfl (X.move rfl (F.ev 9 (.int .i64 ((instR f se xs ([⟨p.c, p.v, p.data, tagR se p.c p.v p.data⟩])).2.2)) (by kernel_rfl))) ?_
          clear F ac
          intro ac F
          refine Y.pval F (X.w0 rfl) rfl (X.binop rfl (F.ev 130 (.int .i64 ((instR f se xs ([⟨p.c, p.v, p.data, tagR se p.c p.v p.data⟩])).2.2)) (by kernel_rfl)) (X.kc (.int .i64 0) rfl) (X.neqI Try.underlying31 rfl)) ?_
          clear F ac
          intro ac F
          refine Y.nil ?_
          replace F : Fr ac 204 [(0, .agg #[.slice (some pd27) tn tc, .slice ca cn cc]), (1, .int .i64 se), (2, .agg #[.slice a n c, .slice (some pd8) 1 lc]), (3, .pointer (some ⟨w.heap.size, 0, none⟩)), (5, .pointer (some ⟨w4.heap.size, 0, none⟩)), (6, .bool false), (7, .pointer (some ⟨w6.heap.size, 0, none⟩)), (8, .int .i64 (tagR se p.c p.v p.data)), (9, .int .i64 ((instR f se xs ([⟨p.c, p.v, p.data, tagR se p.c p.v p.data⟩])).2.2)), (10, .int .i64 kk), (11, .pointer (some ⟨w71.heap.size, 0, none⟩)), (12, .slice (some ⟨w75.heap.size, 0, none⟩) (p.data.size : Nat) bc), (13, .slice ia86 in86 ic86), (22, .bool false), (35, .bool false), (69, .bool false), (71, .bool false), (76, .bool true), (118, .bool false), (131, .bool (((instR f se xs ([⟨p.c, p.v, p.data, tagR se p.c p.v p.data⟩])).2.2 : Int) != 0))] := F.sub _ (by kernel_rfl)
          refine X.thenN ?_
          cases h88 : (((instR f se xs ([⟨p.c, p.v, p.data, tagR se p.c p.v p.data⟩])).2.2 : Int) != 0) with
          | false =>
            try rw [h88] at F
            have h88p : ((instR f se xs ([⟨p.c, p.v, p.data, tagR se p.c p.v p.data⟩])).2.2 : Int) = 0 := by simpa using h88
            have hSG := inst_one (p := ⟨p.c, p.v, p.data, tagR se p.c p.v p.data⟩) hchk hTB.1 (by simpa using h88p) hAE
            generalize (instR f se xs [⟨p.c, p.v, p.data, tagR se p.c p.v p.data⟩]).1 = nx at *
            refine Y.condF (F.ev 131 (.bool false) (by kernel_rfl)) ?_
            refine Y.skip ?_
            refine X.thenN ?_
            refine Y.seq ?_
            refine Y.lit (by kernel_rfl) ?_
            refine Y.pval F (X.w0 rfl) rfl (X.load rfl (F.ev 3 (.pointer (some ⟨w.heap.size, 0, none⟩)) (by kernel_rfl)) (X.ldN (Try.agg25 _) (Try.siz25 _) (X.c2 (hC.at 8 rfl) (hC.at 9 rfl)))) ?_
            clear F ac
            intro ac F
            refine Y.pval F (X.w0 rfl) rfl (X.move rfl (F.ev 13 (.slice ia86 in86 ic86) (by kernel_rfl))) ?_
            clear F ac
            intro ac F
            refine Y.pcall F (X.w0 rfl) rfl (X.enter (F := 38) rfl (X.kc (.func (.func 38) #[] #[]) rfl) (X.a2 (F.ev 134 (.agg #[.slice (some pd27) tn tc, .slice ca cn cc]) (by kernel_rfl)) (F.ev 135 (.slice ia86 in86 ic86) (by kernel_rfl))) (enters_of Try.func38 (by kernel_rfl) rfl _)) (Works_any (some pd27) ca ia86 tn tc cn cc in86 ic86 f nx w87 hf hI86) ?_
            clear F ac
            rintro e w90 ⟨rfl, g⟩
            refine ⟨_, rfl, ?_⟩
            intro ac F
            replace G := G.trans g
            replace hC := hC.gr g
            replace GA := GA.trans g
            replace hf := hf.gr g
            replace hx := hx.gr g
            replace hP := hP.gr g
            replace ht := ht.gr g
            replace hO9 := hO9.gr g
            replace pi27 := pi27.gr g
            replace hBy := hBy.gr g
            replace hO72 := hO72.gr g
            replace hPk := hPk.gr g
            replace hI86 := hI86.gr g
            clear g
            refine Y.pval F (X.w0 rfl) rfl (X.move rfl (F.ev 136 (.tuple #[.int .i64 (wI f nx), .bool (wB f nx), .int .i64 (wE f nx)]) (by kernel_rfl))) ?_
            clear F ac
            intro ac F
            refine Y.pval F (X.w0 rfl) rfl (X.extract rfl (F.ev 133 (.tuple #[.int .i64 (wI f nx), .bool (wB f nx), .int .i64 (wE f nx)]) (by kernel_rfl)) rfl) ?_
            clear F ac
            intro ac F
            refine Y.pval F (X.w0 rfl) rfl (X.extract rfl (F.ev 133 (.tuple #[.int .i64 (wI f nx), .bool (wB f nx), .int .i64 (wE f nx)]) (by kernel_rfl)) rfl) ?_
            clear F ac
            intro ac F
            refine Y.pval F (X.w0 rfl) rfl (X.extract rfl (F.ev 133 (.tuple #[.int .i64 (wI f nx), .bool (wB f nx), .int .i64 (wE f nx)]) (by kernel_rfl)) rfl) ?_
            clear F ac
            intro ac F
            refine Y.pval F (X.w0 rfl) rfl (X.assign rfl (F.ev 137 (.int .i64 (wI f nx)) (by kernel_rfl))) ?_
            clear F ac
            intro ac F
            refine Y.pval F (X.w0 rfl) rfl (X.assign rfl (F.ev 138 (.bool (wB f nx)) (by kernel_rfl))) ?_
            clear F ac
            intro ac F
            refine Y.pval F (X.w0 rfl) rfl (X.assign rfl (F.ev 139 (.int .i64 (wE f nx)) (by kernel_rfl))) ?_
            clear F ac
            intro ac F
            refine Y.nil ?_
            replace F : Fr ac 204 [(0, .agg #[.slice (some pd27) tn tc, .slice ca cn cc]), (1, .int .i64 se), (2, .agg #[.slice a n c, .slice (some pd8) 1 lc]), (3, .pointer (some ⟨w.heap.size, 0, none⟩)), (5, .pointer (some ⟨w4.heap.size, 0, none⟩)), (6, .bool false), (7, .pointer (some ⟨w6.heap.size, 0, none⟩)), (8, .int .i64 (tagR se p.c p.v p.data)), (9, .int .i64 ((instR f se xs ([⟨p.c, p.v, p.data, tagR se p.c p.v p.data⟩])).2.2)), (10, .int .i64 kk), (11, .pointer (some ⟨w71.heap.size, 0, none⟩)), (12, .slice (some ⟨w75.heap.size, 0, none⟩) (p.data.size : Nat) bc), (13, .slice ia86 in86 ic86), (16, .bool (wB f nx)), (17, .int .i64 (wE f nx)), (22, .bool false), (35, .bool false), (69, .bool false), (71, .bool false), (76, .bool true), (118, .bool false), (131, .bool false)] := F.sub _ (by kernel_rfl)
            refine X.thenN ?_
            refine Y.seq ?_
            refine Y.seq ?_
            refine Y.lit (by kernel_rfl) ?_
            refine Y.pval F (X.w0 rfl) rfl (X.move rfl (F.ev 17 (.int .i64 (wE f nx)) (by kernel_rfl))) ?_
            clear F ac
            intro ac F
            refine Y.pval F (X.w0 rfl) rfl (X.binop rfl (F.ev 140 (.int .i64 (wE f nx)) (by kernel_rfl)) (X.kc (.int .i64 0) rfl) (X.neqI Try.underlying31 rfl)) ?_
            clear F ac
            intro ac F
            refine Y.pval F (X.w0 rfl) rfl (X.move rfl (F.ev 141 (.bool ((wE f nx : Int) != 0)) (by kernel_rfl))) ?_
            clear F ac
            intro ac F
            have h92 : ((wE f nx : Int) != 0) = false := by rw [wE_zero hchk hSG.st]; rfl
            try rw [h92] at F
            refine Y.pval F (X.w1 rfl (F.yl (j := 2) (d := 142) (b := false) rfl (by kernel_rfl))) rfl (X.move rfl (F.ev 16 (.bool (wB f nx)) (by kernel_rfl))) ?_
            clear F ac
            intro ac F
            refine Y.pval F (X.w1 rfl (F.yl (j := 2) (d := 142) (b := false) rfl (by kernel_rfl))) rfl (X.notB rfl (F.ev 143 (.bool (wB f nx)) (by kernel_rfl)) rfl) ?_
            clear F ac
            intro ac F
            refine Y.pval F (X.w0 rfl) rfl (X.pickF rfl (F.ev 142 (.bool false) (by kernel_rfl)) (F.ev 144 (.bool (!(wB f nx))) (by kernel_rfl))) ?_
            clear F ac
            intro ac F
            refine Y.pval F (X.w0 rfl) rfl (X.move rfl (F.ev 145 (.bool (!(wB f nx))) (by kernel_rfl))) ?_
            clear F ac
            intro ac F
            have h94 : wB f nx = true := wB_true hchk hSG.st hSG.w
            try rw [h94] at F
            refine Y.pval F (X.w1 rfl (F.yl (j := 6) (d := 146) (b := false) rfl (by kernel_rfl))) rfl (X.move rfl (F.ev 13 (.slice ia86 in86 ic86) (by kernel_rfl))) ?_
            clear F ac
            intro ac F
            refine Y.pval F (X.w1 rfl (F.yl (j := 6) (d := 146) (b := false) rfl (by kernel_rfl))) rfl (X.len1 Try.underlying26 rfl (F.ev 147 (.slice ia86 in86 ic86) (by kernel_rfl))) ?_
            clear F ac
            intro ac F
            refine Y.pval F (X.w1 rfl (F.yl (j := 6) (d := 146) (b := false) rfl (by kernel_rfl))) rfl (X.field rfl (F.ev 5 (.pointer (some ⟨w4.heap.size, 0, none⟩)) (by kernel_rfl)) (X.fld Try.underlying55 rfl (Try.siz26 _) rfl rfl)) ?_
            clear F ac
            intro ac F
            refine Y.pval F (X.w1 rfl (F.yl (j := 6) (d := 146) (b := false) rfl (by kernel_rfl))) rfl (X.load rfl (F.ev 149 (.pointer (some ⟨w4.heap.size, 0, none⟩)) (by kernel_rfl)) (X.ld1 (Try.agg26 _) (hC.at 10 rfl))) ?_
            clear F ac
            intro ac F
            refine Y.pval F (X.w1 rfl (F.yl (j := 6) (d := 146) (b := false) rfl (by kernel_rfl))) rfl (X.len1 Try.underlying26 rfl (F.ev 150 (.slice a n c) (by kernel_rfl))) ?_
            clear F ac
            intro ac F
            refine Y.pval F (X.w1 rfl (F.yl (j := 6) (d := 146) (b := false) rfl (by kernel_rfl))) rfl (X.binop rfl (F.ev 148 (.int .i64 in86) (by kernel_rfl)) (F.ev 151 (.int .i64 n) (by kernel_rfl)) (X.neqI Try.underlying3 rfl)) ?_
            clear F ac
            intro ac F
            refine Y.pval F (X.w0 rfl) rfl (X.pickF rfl (F.ev 146 (.bool false) (by kernel_rfl)) (F.ev 152 (.bool ((in86 : Int) != n)) (by kernel_rfl))) ?_
            clear F ac
            intro ac F
            refine Y.nil ?_
            replace F : Fr ac 204 [(0, .agg #[.slice (some pd27) tn tc, .slice ca cn cc]), (1, .int .i64 se), (2, .agg #[.slice a n c, .slice (some pd8) 1 lc]), (3, .pointer (some ⟨w.heap.size, 0, none⟩)), (5, .pointer (some ⟨w4.heap.size, 0, none⟩)), (6, .bool false), (7, .pointer (some ⟨w6.heap.size, 0, none⟩)), (8, .int .i64 (tagR se p.c p.v p.data)), (9, .int .i64 ((instR f se xs ([⟨p.c, p.v, p.data, tagR se p.c p.v p.data⟩])).2.2)), (10, .int .i64 kk), (11, .pointer (some ⟨w71.heap.size, 0, none⟩)), (12, .slice (some ⟨w75.heap.size, 0, none⟩) (p.data.size : Nat) bc), (13, .slice ia86 in86 ic86), (16, .bool true), (17, .int .i64 (wE f nx)), (22, .bool false), (35, .bool false), (69, .bool false), (71, .bool false), (76, .bool true), (118, .bool false), (131, .bool false), (153, .bool ((in86 : Int) != n))] := F.sub _ (by kernel_rfl)
            refine X.thenN ?_
            have h96 : ((in86 : Int) != n) = false := by have h1 := hSG.len; have h2 := hI86.len; have h3 := hx.len; simp; omega
            try rw [h96] at F
            refine Y.condF (F.ev 153 (.bool false) (by kernel_rfl)) ?_
            refine Y.skip ?_
            refine X.thenN ?_
            refine Y.seq ?_
            refine Y.seq ?_
            refine Y.lit (by kernel_rfl) ?_
            refine Y.pval F (X.w0 rfl) rfl (X.assign rfl (X.kc (.int .i64 0) rfl)) ?_
            clear F ac
            intro ac F
            refine Y.nil ?_
            replace F : Fr ac 204 [(0, .agg #[.slice (some pd27) tn tc, .slice ca cn cc]), (1, .int .i64 se), (2, .agg #[.slice a n c, .slice (some pd8) 1 lc]), (3, .pointer (some ⟨w.heap.size, 0, none⟩)), (5, .pointer (some ⟨w4.heap.size, 0, none⟩)), (6, .bool false), (7, .pointer (some ⟨w6.heap.size, 0, none⟩)), (8, .int .i64 (tagR se p.c p.v p.data)), (9, .int .i64 ((instR f se xs ([⟨p.c, p.v, p.data, tagR se p.c p.v p.data⟩])).2.2)), (10, .int .i64 kk), (11, .pointer (some ⟨w71.heap.size, 0, none⟩)), (12, .slice (some ⟨w75.heap.size, 0, none⟩) (p.data.size : Nat) bc), (13, .slice ia86 in86 ic86), (16, .bool true), (17, .int .i64 (wE f nx)), (18, .int .i64 0), (22, .bool false), (35, .bool false), (69, .bool false), (71, .bool false), (76, .bool true), (118, .bool false), (131, .bool false), (153, .bool false)] := F.sub _ (by kernel_rfl)
            refine X.thenN ?_
            refine Y.block ?_
            have hfB := hf
            have hxB := hx
            have hPB := hP
            have htB := ht
            have pi27B := pi27
            have hPkB := hPk
            have hI86B := hI86
            have hCB := hC
            have GB := G
            refine Y.loop (fun me_ ac wr => ∃ (k : Nat), me_ = in86 - k ∧ Gr w90 wr ∧ k ≤ in86 ∧ Fr ac 204 [(0, .agg #[.slice (some pd27) tn tc, .slice ca cn cc]), (1, .int .i64 se), (2, .agg #[.slice a n c, .slice (some pd8) 1 lc]), (3, .pointer (some ⟨w.heap.size, 0, none⟩)), (5, .pointer (some ⟨w4.heap.size, 0, none⟩)), (7, .pointer (some ⟨w6.heap.size, 0, none⟩)), (8, .int .i64 (tagR se p.c p.v p.data)), (9, .int .i64 ((instR f se xs ([⟨p.c, p.v, p.data, tagR se p.c p.v p.data⟩])).2.2)), (10, .int .i64 kk), (11, .pointer (some ⟨w71.heap.size, 0, none⟩)), (12, .slice (some ⟨w75.heap.size, 0, none⟩) (p.data.size : Nat) bc), (13, .slice ia86 in86 ic86), (16, .bool true), (17, .int .i64 (wE f nx)), (18, .int .i64 k), (22, .bool false), (35, .bool false), (69, .bool false), (71, .bool false), (76, .bool true), (118, .bool false), (131, .bool false), (153, .bool false)]) _ ⟨0, rfl, Gr.refl _, Nat.zero_le _, F.sub _ (by kernel_rfl)⟩ ?_
            clear F
            intro me_ ac w97 hI
            obtain ⟨k, rfl, gr, hk, F⟩ := hI
            replace G := GB.trans gr
            replace hC := hCB.gr gr
            replace hf := hfB.gr gr
            replace hx := hxB.gr gr
            replace hP := hPB.gr gr
            replace ht := htB.gr gr
            replace pi27 := pi27B.gr gr
            replace hPk := hPkB.gr gr
            replace hI86 := hI86B.gr gr
            have GB_ := gr
            clear gr
            refine Y.seq ?_
            refine Y.seq ?_
            refine Y.lit (by kernel_rfl) ?_
            refine Y.pval F (X.w0 rfl) rfl (X.move rfl (F.ev 18 (.int .i64 k) (by kernel_rfl))) ?_
            clear F ac
            intro ac F
            refine Y.pval F (X.w0 rfl) rfl (X.move rfl (F.ev 13 (.slice ia86 in86 ic86) (by kernel_rfl))) ?_
            clear F ac
            intro ac F
            refine Y.pval F (X.w0 rfl) rfl (X.len1 Try.underlying26 rfl (F.ev 155 (.slice ia86 in86 ic86) (by kernel_rfl))) ?_
            clear F ac
            intro ac F
            refine Y.pval F (X.w0 rfl) rfl (X.binop rfl (F.ev 154 (.int .i64 k) (by kernel_rfl)) (F.ev 156 (.int .i64 in86) (by kernel_rfl)) (X.lssI Try.underlying3 rfl)) ?_
            clear F ac
            intro ac F
            refine Y.nil ?_
            replace F : Fr ac 204 [(0, .agg #[.slice (some pd27) tn tc, .slice ca cn cc]), (1, .int .i64 se), (2, .agg #[.slice a n c, .slice (some pd8) 1 lc]), (3, .pointer (some ⟨w.heap.size, 0, none⟩)), (5, .pointer (some ⟨w4.heap.size, 0, none⟩)), (7, .pointer (some ⟨w6.heap.size, 0, none⟩)), (8, .int .i64 (tagR se p.c p.v p.data)), (9, .int .i64 ((instR f se xs ([⟨p.c, p.v, p.data, tagR se p.c p.v p.data⟩])).2.2)), (10, .int .i64 kk), (11, .pointer (some ⟨w71.heap.size, 0, none⟩)), (12, .slice (some ⟨w75.heap.size, 0, none⟩) (p.data.size : Nat) bc), (13, .slice ia86 in86 ic86), (16, .bool true), (17, .int .i64 (wE f nx)), (18, .int .i64 k), (22, .bool false), (35, .bool false), (69, .bool false), (71, .bool false), (76, .bool true), (118, .bool false), (131, .bool false), (153, .bool false), (157, .bool (decide ((k : Int) < in86)))] := F.sub _ (by kernel_rfl)
            refine X.thenN ?_
            cases h98 : decide ((k : Int) < in86) with
            | false =>
              try rw [h98] at F
              have h98p : ¬ ((k : Int) < in86) := of_decide_eq_false h98
              refine Y.condF (F.ev 157 (.bool false) (by kernel_rfl)) ?_
              refine Y.exit ?_
              refine X.thenX ?_
              refine X.thenX ?_
              refine X.blockX ?_
              refine X.thenN ?_
              refine Y.seq ?_
              refine Y.lit (by kernel_rfl) ?_
              refine Y.pcall F (X.w0 rfl) rfl (X.enter (F := 16) rfl (X.kc (.func (.func 16) #[] #[]) rfl) rfl (enters_of Try.func16 (by kernel_rfl) rfl _)) (look_any w97) ?_
              clear F ac
              rintro e w100 ⟨rfl, g⟩
              refine ⟨_, rfl, ?_⟩
              intro ac F
              replace G := G.trans g
              replace hC := hC.gr g
              replace GB_ := GB_.trans g
              replace hf := hf.gr g
              replace hx := hx.gr g
              replace hP := hP.gr g
              replace ht := ht.gr g
              replace pi27 := pi27.gr g
              replace hPk := hPk.gr g
              replace hI86 := hI86.gr g
              clear g
              refine Y.pval F (X.w0 rfl) rfl (X.assign rfl (F.ev 203 (.bool true) (by kernel_rfl))) ?_
              clear F ac
              intro ac F
              refine Y.nil ?_
              replace F : Fr ac 204 [(0, .agg #[.slice (some pd27) tn tc, .slice ca cn cc]), (1, .int .i64 se), (2, .agg #[.slice a n c, .slice (some pd8) 1 lc]), (3, .pointer (some ⟨w.heap.size, 0, none⟩)), (5, .pointer (some ⟨w4.heap.size, 0, none⟩)), (6, .bool true), (7, .pointer (some ⟨w6.heap.size, 0, none⟩)), (8, .int .i64 (tagR se p.c p.v p.data)), (9, .int .i64 ((instR f se xs ([⟨p.c, p.v, p.data, tagR se p.c p.v p.data⟩])).2.2)), (10, .int .i64 kk), (11, .pointer (some ⟨w71.heap.size, 0, none⟩)), (12, .slice (some ⟨w75.heap.size, 0, none⟩) (p.data.size : Nat) bc), (13, .slice ia86 in86 ic86), (16, .bool true), (17, .int .i64 (wE f nx)), (18, .int .i64 k), (22, .bool false), (35, .bool false), (69, .bool false), (71, .bool false), (76, .bool true), (118, .bool false), (131, .bool false), (153, .bool false), (157, .bool false)] := F.sub _ (by kernel_rfl)
              refine X.thenN ?_
              refine Y.ret ?_
              exact Y.ret0 F (Y.rs1 F rfl (by kernel_rfl)) ⟨rfl, G⟩
            | true =>
              try rw [h98] at F
              have h98p : ((k : Int) < in86) := of_decide_eq_true h98
              have hkn : k < n := by have h1 := hSG.len; have h2 := hI86.len; have h3 := hx.len; omega
              have hil := hI86.lt
              refine Y.condT (F.ev 157 (.bool true) (by kernel_rfl)) ?_
              refine Y.skip ?_
              refine X.thenN ?_
              refine Y.seq ?_
              refine Y.block ?_
              refine Y.seq ?_
              cases h101 : ((k : Int) == p.c) with
              | false =>
                try rw [h101] at F
                have h101p : ¬ (k : Int) = p.c := by simpa using h101
                have h103 : ((k : Int) != p.c) = true := by have h := h101; simp at h ⊢; exact h
                try rw [h103] at F
                obtain ⟨pd104, pe104, -, pc104⟩ := hI86.at (j := k) (by omega)
                subst pe104
                replace hC : RCells w97 [(⟨w71.heap.size, 0, none⟩, .int .i64 p.c), (⟨w71.heap.size, 1, none⟩, .int .i64 p.v), (⟨w71.heap.size, 2, none⟩, .string (⟨(p.data.data.toList.set kk (UInt8.ofNat (xorV ((p.data.data.toList[kk]?.getD 0).toNat : Nat) (1 + (Int.tmod ((tagR se p.c p.v p.data : Int) + kk : Int) 255))).toNat)).toArray⟩)), (⟨w71.heap.size, 3, none⟩, .int .i64 (tagR se p.c p.v p.data)), (⟨w6.heap.size, 0, none⟩, .int .i64 p.c), (⟨w6.heap.size, 1, none⟩, .int .i64 p.v), (⟨w6.heap.size, 2, none⟩, .string p.data), (⟨w6.heap.size, 3, none⟩, .int .i64 (tagR se p.c p.v p.data)), (⟨w.heap.size, 0, none⟩, .slice (some pd27) tn tc), (⟨w.heap.size, 1, none⟩, .slice ca cn cc), (⟨w4.heap.size, 0, none⟩, .slice a n c), (⟨w4.heap.size, 1, none⟩, .slice (some pd8) 1 lc), (pd8.add (0 * 4), .int .i64 p.c), (⟨(pd8.add (0 * 4)).block, (pd8.add (0 * 4)).off + 1, none⟩, .int .i64 p.v), (⟨(pd8.add (0 * 4)).block, (pd8.add (0 * 4)).off + 2, none⟩, .string p.data), (⟨(pd8.add (0 * 4)).block, (pd8.add (0 * 4)).off + 3, none⟩, .int .i64 p.tg), (pd27.add p.c.toNat, .slice pa27 rn27 pq27), (pd104.add k, .int .i64 (nx[k]?.getD 0))] := hC.append ((RCells.cons pc104 (RCells.nil _)))
                clear pc104
                obtain ⟨pd105, pe105, -, pc105⟩ := hx.at (j := k) (by omega)
                subst pe105
                replace hC : RCells w97 [(⟨w71.heap.size, 0, none⟩, .int .i64 p.c), (⟨w71.heap.size, 1, none⟩, .int .i64 p.v), (⟨w71.heap.size, 2, none⟩, .string (⟨(p.data.data.toList.set kk (UInt8.ofNat (xorV ((p.data.data.toList[kk]?.getD 0).toNat : Nat) (1 + (Int.tmod ((tagR se p.c p.v p.data : Int) + kk : Int) 255))).toNat)).toArray⟩)), (⟨w71.heap.size, 3, none⟩, .int .i64 (tagR se p.c p.v p.data)), (⟨w6.heap.size, 0, none⟩, .int .i64 p.c), (⟨w6.heap.size, 1, none⟩, .int .i64 p.v), (⟨w6.heap.size, 2, none⟩, .string p.data), (⟨w6.heap.size, 3, none⟩, .int .i64 (tagR se p.c p.v p.data)), (⟨w.heap.size, 0, none⟩, .slice (some pd27) tn tc), (⟨w.heap.size, 1, none⟩, .slice ca cn cc), (⟨w4.heap.size, 0, none⟩, .slice (some pd105) n c), (⟨w4.heap.size, 1, none⟩, .slice (some pd8) 1 lc), (pd8.add (0 * 4), .int .i64 p.c), (⟨(pd8.add (0 * 4)).block, (pd8.add (0 * 4)).off + 1, none⟩, .int .i64 p.v), (⟨(pd8.add (0 * 4)).block, (pd8.add (0 * 4)).off + 2, none⟩, .string p.data), (⟨(pd8.add (0 * 4)).block, (pd8.add (0 * 4)).off + 3, none⟩, .int .i64 p.tg), (pd27.add p.c.toNat, .slice pa27 rn27 pq27), (pd104.add k, .int .i64 (nx[k]?.getD 0)), (pd105.add k, .int .i64 (xs[k]?.getD 0))] := hC.append ((RCells.cons pc105 (RCells.nil _)))
                clear pc105
                refine Y.region F [some (.int .i64 k), some (.pointer (some ⟨w6.heap.size, 0, none⟩)), some (.int .i64 p.c), some (.bool false), some (.bool false), none, none, none, none, none, none, none, none, none, none, none, none, none, none, none, none, none, none, none, some (.bool false), some (.bool false), some (.int .i64 k), some (.pointer (some ⟨w6.heap.size, 0, none⟩)), some (.int .i64 p.c), some (.bool true), some (.bool true), some (.slice (some pd104) in86 ic86), some (.int .i64 k), some (.pointer (some (pd104.add k))), some (.int .i64 (nx[k]?.getD 0)), some (.pointer (some ⟨w4.heap.size, 0, none⟩)), some (.slice (some pd105) n c), some (.int .i64 k), some (.pointer (some (pd105.add k))), some (.int .i64 (xs[k]?.getD 0)), some (.bool ((nx[k]?.getD 0 : Int) != (xs[k]?.getD 0))), some (.bool ((nx[k]?.getD 0 : Int) != (xs[k]?.getD 0))), some (.bool ((nx[k]?.getD 0 : Int) != (xs[k]?.getD 0)))] [(12, Y.MP.un)] rfl ⟨by kernel_rfl, of_decide_eq_true (by kernel_rfl), by kernel_rfl, by kernel_rfl, by kernel_rfl⟩ ⟨?_, ?_, ?_, ?_, ?_, ?_, ?_, ?_, ?_, ?_, ?_, ?_, ?_, ?_, ?_, ?_, ?_, ?_, ?_, ?_, ?_, ?_, ?_, ?_, ?_, ?_, ?_, ?_, ?_, ?_, ?_, ?_, ?_, ?_, ?_, ?_, ?_, ?_, ?_, ?_, ?_, ?_, ?_, trivial⟩ ?_
                · intro ac done u W Sx hR
                  have g : Gr w97 W := hR.1
                  exact X.val (X.w0 rfl) rfl (X.move rfl (Sx.ev 18 (.int .i64 k) (by kernel_rfl))) (hR.step (Gr.refl _) rfl)
                · intro ac done u W Sx hR
                  have g : Gr w97 W := hR.1
                  exact X.val (X.w0 rfl) rfl (X.field rfl (Sx.ev 7 (.pointer (some ⟨w6.heap.size, 0, none⟩)) (by kernel_rfl)) (X.fld Try.underlying46 rfl (Try.siz3 _) rfl rfl)) (hR.step (Gr.refl _) rfl)
                · intro ac done u W Sx hR
                  have g : Gr w97 W := hR.1
                  exact X.val (X.w0 rfl) rfl (X.load rfl (Sx.ev 161 (.pointer (some ⟨w6.heap.size, 0, none⟩)) (by kernel_rfl)) (X.ld1 (Try.agg3 _) ((hC.gr g).at 4 rfl))) (hR.step (Gr.refl _) rfl)
                · intro ac done u W Sx hR
                  have g : Gr w97 W := hR.1
                  exact X.val (X.w0 rfl) rfl (X.binop rfl (Sx.ev 160 (.int .i64 k) (by kernel_rfl)) (Sx.ev 162 (.int .i64 p.c) (by kernel_rfl)) (X.eqlI Try.underlying3 h101)) (hR.step (Gr.refl _) rfl)
                · intro ac done u W Sx hR
                  have g : Gr w97 W := hR.1
                  exact X.val (X.w0 rfl) rfl (X.move rfl (Sx.ev 163 (.bool false) (by kernel_rfl))) (hR.step (Gr.refl _) rfl)
                · intro ac done u W Sx hR
                  have g : Gr w97 W := hR.1
                  exact X.skip (X.w2 rfl (Sx.yl 4 164 false (by kernel_rfl) rfl rfl) rfl) rfl (hR.skip rfl)
                · intro ac done u W Sx hR
                  have g : Gr w97 W := hR.1
                  exact X.skip (X.w2 rfl (Sx.yl 4 164 false (by kernel_rfl) rfl rfl) rfl) rfl (hR.skip rfl)
                · intro ac done u W Sx hR
                  have g : Gr w97 W := hR.1
                  exact X.skip (X.w2 rfl (Sx.yl 4 164 false (by kernel_rfl) rfl rfl) rfl) rfl (hR.skip rfl)
                · intro ac done u W Sx hR
                  have g : Gr w97 W := hR.1
                  exact X.skip (X.w2 rfl (Sx.yl 4 164 false (by kernel_rfl) rfl rfl) rfl) rfl (hR.skip rfl)
                · intro ac done u W Sx hR
                  have g : Gr w97 W := hR.1
                  exact X.skip (X.w2 rfl (Sx.yl 4 164 false (by kernel_rfl) rfl rfl) rfl) rfl (hR.skip rfl)
                · intro ac done u W Sx hR
                  have g : Gr w97 W := hR.1
                  exact X.skip (X.w2 rfl (Sx.yl 4 164 false (by kernel_rfl) rfl rfl) rfl) rfl (hR.skip rfl)
                · intro ac done u W Sx hR
                  have g : Gr w97 W := hR.1
                  exact X.skip (X.w2 rfl (Sx.yl 4 164 false (by kernel_rfl) rfl rfl) rfl) rfl (hR.skip rfl)
                · intro ac done u W Sx hR
                  have g : Gr w97 W := hR.1
                  exact X.skip (X.w2 rfl (Sx.yl 4 164 false (by kernel_rfl) rfl rfl) rfl) rfl (hR.skipU rfl)
                · intro ac done u W Sx hR
                  have g : Gr w97 W := hR.1
                  have e12 := hR.get (i := 12) Y.MP.un rfl (Sx.an 12 (by kernel_rfl))
                  exact X.skip (Y.w3 rfl (Sx.yn (j := 12) (d := 172) rfl e12)) rfl (hR.skip rfl)
                · intro ac done u W Sx hR
                  have g : Gr w97 W := hR.1
                  have e12 := hR.get (i := 12) Y.MP.un rfl (Sx.an 12 (by kernel_rfl))
                  exact X.skip (Y.w3 rfl (Sx.yn (j := 12) (d := 172) rfl e12)) rfl (hR.skip rfl)
                · intro ac done u W Sx hR
                  have g : Gr w97 W := hR.1
                  have e12 := hR.get (i := 12) Y.MP.un rfl (Sx.an 12 (by kernel_rfl))
                  exact X.skip (Y.w3 rfl (Sx.yn (j := 12) (d := 172) rfl e12)) rfl (hR.skip rfl)
                · intro ac done u W Sx hR
                  have g : Gr w97 W := hR.1
                  have e12 := hR.get (i := 12) Y.MP.un rfl (Sx.an 12 (by kernel_rfl))
                  exact X.skip (Y.w3 rfl (Sx.yn (j := 12) (d := 172) rfl e12)) rfl (hR.skip rfl)
                · intro ac done u W Sx hR
                  have g : Gr w97 W := hR.1
                  have e12 := hR.get (i := 12) Y.MP.un rfl (Sx.an 12 (by kernel_rfl))
                  exact X.skip (Y.w3 rfl (Sx.yn (j := 12) (d := 172) rfl e12)) rfl (hR.skip rfl)
                · intro ac done u W Sx hR
                  have g : Gr w97 W := hR.1
                  have e12 := hR.get (i := 12) Y.MP.un rfl (Sx.an 12 (by kernel_rfl))
                  exact X.skip (Y.w3 rfl (Sx.yn (j := 12) (d := 172) rfl e12)) rfl (hR.skip rfl)
                · intro ac done u W Sx hR
                  have g : Gr w97 W := hR.1
                  have e12 := hR.get (i := 12) Y.MP.un rfl (Sx.an 12 (by kernel_rfl))
                  exact X.skip (Y.w3 rfl (Sx.yn (j := 12) (d := 172) rfl e12)) rfl (hR.skip rfl)
                · intro ac done u W Sx hR
                  have g : Gr w97 W := hR.1
                  have e12 := hR.get (i := 12) Y.MP.un rfl (Sx.an 12 (by kernel_rfl))
                  exact X.skip (Y.w3 rfl (Sx.yn (j := 12) (d := 172) rfl e12)) rfl (hR.skip rfl)
                · intro ac done u W Sx hR
                  have g : Gr w97 W := hR.1
                  have e12 := hR.get (i := 12) Y.MP.un rfl (Sx.an 12 (by kernel_rfl))
                  exact X.skip (Y.w3 rfl (Sx.yn (j := 12) (d := 172) rfl e12)) rfl (hR.skip rfl)
                · intro ac done u W Sx hR
                  have g : Gr w97 W := hR.1
                  have e12 := hR.get (i := 12) Y.MP.un rfl (Sx.an 12 (by kernel_rfl))
                  exact X.skip (Y.w3 rfl (Sx.yn (j := 12) (d := 172) rfl e12)) rfl (hR.skip rfl)
                · intro ac done u W Sx hR
                  have g : Gr w97 W := hR.1
                  exact X.skip (X.w2 rfl (Sx.yl 4 164 false (by kernel_rfl) rfl rfl) rfl) rfl (hR.skip rfl)
                · intro ac done u W Sx hR
                  have g : Gr w97 W := hR.1
                  exact X.val (X.w0 rfl) rfl (X.pickF rfl (Sx.ev 164 (.bool false) (by kernel_rfl)) (X.kc (.bool false) rfl)) (hR.step (Gr.refl _) rfl)
                · intro ac done u W Sx hR
                  have g : Gr w97 W := hR.1
                  exact X.val (X.w0 rfl) rfl (X.move rfl (Sx.ev 184 (.bool false) (by kernel_rfl))) (hR.step (Gr.refl _) rfl)
                · intro ac done u W Sx hR
                  have g : Gr w97 W := hR.1
                  exact X.val (X.w1 rfl (Sx.yl 25 185 false (by kernel_rfl) rfl rfl)) rfl (X.move rfl (Sx.ev 18 (.int .i64 k) (by kernel_rfl))) (hR.step (Gr.refl _) rfl)
                · intro ac done u W Sx hR
                  have g : Gr w97 W := hR.1
                  exact X.val (X.w1 rfl (Sx.yl 25 185 false (by kernel_rfl) rfl rfl)) rfl (X.field rfl (Sx.ev 7 (.pointer (some ⟨w6.heap.size, 0, none⟩)) (by kernel_rfl)) (X.fld Try.underlying46 rfl (Try.siz3 _) rfl rfl)) (hR.step (Gr.refl _) rfl)
                · intro ac done u W Sx hR
                  have g : Gr w97 W := hR.1
                  exact X.val (X.w1 rfl (Sx.yl 25 185 false (by kernel_rfl) rfl rfl)) rfl (X.load rfl (Sx.ev 187 (.pointer (some ⟨w6.heap.size, 0, none⟩)) (by kernel_rfl)) (X.ld1 (Try.agg3 _) ((hC.gr g).at 4 rfl))) (hR.step (Gr.refl _) rfl)
                · intro ac done u W Sx hR
                  have g : Gr w97 W := hR.1
                  exact X.val (X.w1 rfl (Sx.yl 25 185 false (by kernel_rfl) rfl rfl)) rfl (X.binop rfl (Sx.ev 186 (.int .i64 k) (by kernel_rfl)) (Sx.ev 188 (.int .i64 p.c) (by kernel_rfl)) (X.neqI Try.underlying3 h103)) (hR.step (Gr.refl _) rfl)
                · intro ac done u W Sx hR
                  have g : Gr w97 W := hR.1
                  exact X.val (X.w1 rfl (Sx.yl 25 185 false (by kernel_rfl) rfl rfl)) rfl (X.move rfl (Sx.ev 189 (.bool true) (by kernel_rfl))) (hR.step (Gr.refl _) rfl)
                · intro ac done u W Sx hR
                  have g : Gr w97 W := hR.1
                  exact X.val (X.w1 rfl (Sx.yl 30 190 true (by kernel_rfl) rfl rfl)) rfl (X.move rfl (Sx.ev 13 (.slice (some pd104) in86 ic86) (by kernel_rfl))) (hR.step (Gr.refl _) rfl)
                · intro ac done u W Sx hR
                  have g : Gr w97 W := hR.1
                  exact X.val (X.w1 rfl (Sx.yl 30 190 true (by kernel_rfl) rfl rfl)) rfl (X.move rfl (Sx.ev 18 (.int .i64 k) (by kernel_rfl))) (hR.step (Gr.refl _) rfl)
                · intro ac done u W Sx hR
                  have g : Gr w97 W := hR.1
                  exact X.val (X.w1 rfl (Sx.yl 30 190 true (by kernel_rfl) rfl rfl)) rfl (X.index rfl (Sx.ev 191 (.slice (some pd104) in86 ic86) (by kernel_rfl)) (Sx.ev 192 (.int .i64 k) (by kernel_rfl)) (X.idx (k := k) Try.underlying26 (Try.siz3 _) (by omega) (by omega) (by rw [Nat.mul_one]))) (hR.step (Gr.refl _) rfl)
                · intro ac done u W Sx hR
                  have g : Gr w97 W := hR.1
                  exact X.val (X.w1 rfl (Sx.yl 30 190 true (by kernel_rfl) rfl rfl)) rfl (X.load rfl (Sx.ev 193 (.pointer (some (pd104.add k))) (by kernel_rfl)) (X.ld1 (Try.agg3 _) ((hC.gr g).at 17 rfl))) (hR.step (Gr.refl _) rfl)
                · intro ac done u W Sx hR
                  have g : Gr w97 W := hR.1
                  exact X.val (X.w1 rfl (Sx.yl 30 190 true (by kernel_rfl) rfl rfl)) rfl (X.field rfl (Sx.ev 5 (.pointer (some ⟨w4.heap.size, 0, none⟩)) (by kernel_rfl)) (X.fld Try.underlying55 rfl (Try.siz26 _) rfl rfl)) (hR.step (Gr.refl _) rfl)
                · intro ac done u W Sx hR
                  have g : Gr w97 W := hR.1
                  exact X.val (X.w1 rfl (Sx.yl 30 190 true (by kernel_rfl) rfl rfl)) rfl (X.load rfl (Sx.ev 195 (.pointer (some ⟨w4.heap.size, 0, none⟩)) (by kernel_rfl)) (X.ld1 (Try.agg26 _) ((hC.gr g).at 10 rfl))) (hR.step (Gr.refl _) rfl)
                · intro ac done u W Sx hR
                  have g : Gr w97 W := hR.1
                  exact X.val (X.w1 rfl (Sx.yl 30 190 true (by kernel_rfl) rfl rfl)) rfl (X.move rfl (Sx.ev 18 (.int .i64 k) (by kernel_rfl))) (hR.step (Gr.refl _) rfl)
                · intro ac done u W Sx hR
                  have g : Gr w97 W := hR.1
                  exact X.val (X.w1 rfl (Sx.yl 30 190 true (by kernel_rfl) rfl rfl)) rfl (X.index rfl (Sx.ev 196 (.slice (some pd105) n c) (by kernel_rfl)) (Sx.ev 197 (.int .i64 k) (by kernel_rfl)) (X.idx (k := k) Try.underlying26 (Try.siz3 _) (by omega) (by omega) (by rw [Nat.mul_one]))) (hR.step (Gr.refl _) rfl)
                · intro ac done u W Sx hR
                  have g : Gr w97 W := hR.1
                  exact X.val (X.w1 rfl (Sx.yl 30 190 true (by kernel_rfl) rfl rfl)) rfl (X.load rfl (Sx.ev 198 (.pointer (some (pd105.add k))) (by kernel_rfl)) (X.ld1 (Try.agg3 _) ((hC.gr g).at 18 rfl))) (hR.step (Gr.refl _) rfl)
                · intro ac done u W Sx hR
                  have g : Gr w97 W := hR.1
                  exact X.val (X.w1 rfl (Sx.yl 30 190 true (by kernel_rfl) rfl rfl)) rfl (X.binop rfl (Sx.ev 194 (.int .i64 (nx[k]?.getD 0)) (by kernel_rfl)) (Sx.ev 199 (.int .i64 (xs[k]?.getD 0)) (by kernel_rfl)) (X.neqI Try.underlying3 rfl)) (hR.step (Gr.refl _) rfl)
                · intro ac done u W Sx hR
                  have g : Gr w97 W := hR.1
                  exact X.val (X.w1 rfl (Sx.yl 25 185 false (by kernel_rfl) rfl rfl)) rfl (X.pickT rfl (Sx.ev 190 (.bool true) (by kernel_rfl)) (Sx.ev 200 (.bool ((nx[k]?.getD 0 : Int) != (xs[k]?.getD 0))) (by kernel_rfl))) (hR.step (Gr.refl _) rfl)
                · intro ac done u W Sx hR
                  have g : Gr w97 W := hR.1
                  exact X.val (X.w0 rfl) rfl (X.pickF rfl (Sx.ev 185 (.bool false) (by kernel_rfl)) (Sx.ev 201 (.bool ((nx[k]?.getD 0 : Int) != (xs[k]?.getD 0))) (by kernel_rfl))) (hR.step (Gr.refl _) rfl)
                intro ac u w106 hs hd hl ho hR
                have g : Gr w97 w106 := hR.1
                replace F : Fr ac 204 [(0, .agg #[.slice (some pd27) tn tc, .slice ca cn cc]), (1, .int .i64 se), (2, .agg #[.slice (some pd105) n c, .slice (some pd8) 1 lc]), (3, .pointer (some ⟨w.heap.size, 0, none⟩)), (5, .pointer (some ⟨w4.heap.size, 0, none⟩)), (7, .pointer (some ⟨w6.heap.size, 0, none⟩)), (8, .int .i64 (tagR se p.c p.v p.data)), (9, .int .i64 ((instR f se xs ([⟨p.c, p.v, p.data, tagR se p.c p.v p.data⟩])).2.2)), (10, .int .i64 kk), (11, .pointer (some ⟨w71.heap.size, 0, none⟩)), (12, .slice (some ⟨w75.heap.size, 0, none⟩) (p.data.size : Nat) bc), (13, .slice (some pd104) in86 ic86), (16, .bool true), (17, .int .i64 (wE f nx)), (18, .int .i64 k), (22, .bool false), (35, .bool false), (69, .bool false), (71, .bool false), (76, .bool true), (118, .bool false), (131, .bool false), (153, .bool false), (157, .bool true), (202, .bool ((nx[k]?.getD 0 : Int) != (xs[k]?.getD 0)))] := X.fr hs hd hl _ (by kernel_rfl)
                clear hs hd hl ho hR
                replace G := G.trans g
                replace hC := hC.gr g
                replace GB_ := GB_.trans g
                replace hf := hf.gr g
                replace hx := hx.gr g
                replace hP := hP.gr g
                replace ht := ht.gr g
                replace pi27 := pi27.gr g
                replace hPk := hPk.gr g
                replace hI86 := hI86.gr g
                clear g
                refine X.thenN ?_
                have h108 : ((nx[k]?.getD 0 : Int) != (xs[k]?.getD 0)) = false := by have h := (hSG.off k (by have := hI86.len; omega) (by simpa using h101)); simp [h]
                try rw [h108] at F
                refine Y.condF (F.ev 202 (.bool false) (by kernel_rfl)) ?_
                refine Y.skip ?_
                refine X.blockN ?_
                refine X.thenN ?_
                refine Y.lit (by kernel_rfl) ?_
                refine Y.pval F (X.w0 rfl) rfl (X.move rfl (F.ev 18 (.int .i64 k) (by kernel_rfl))) ?_
                clear F ac
                intro ac F
                refine Y.pval F (X.w0 rfl) rfl (X.binop rfl (F.ev 158 (.int .i64 k) (by kernel_rfl)) (X.kc (.int .i64 1) rfl) (X.addI Try.underlying3 rfl (by omega) (by omega))) ?_
                clear F ac
                intro ac F
                refine Y.pval F (X.w0 rfl) rfl (X.assign rfl (F.ev 159 (.int .i64 ((k : Int) + 1)) (by kernel_rfl))) ?_
                clear F ac
                intro ac F
                refine Y.nil ?_
                replace F : Fr ac 204 [(0, .agg #[.slice (some pd27) tn tc, .slice ca cn cc]), (1, .int .i64 se), (2, .agg #[.slice (some pd105) n c, .slice (some pd8) 1 lc]), (3, .pointer (some ⟨w.heap.size, 0, none⟩)), (5, .pointer (some ⟨w4.heap.size, 0, none⟩)), (7, .pointer (some ⟨w6.heap.size, 0, none⟩)), (8, .int .i64 (tagR se p.c p.v p.data)), (9, .int .i64 ((instR f se xs ([⟨p.c, p.v, p.data, tagR se p.c p.v p.data⟩])).2.2)), (10, .int .i64 kk), (11, .pointer (some ⟨w71.heap.size, 0, none⟩)), (12, .slice (some ⟨w75.heap.size, 0, none⟩) (p.data.size : Nat) bc), (13, .slice (some pd104) in86 ic86), (16, .bool true), (17, .int .i64 (wE f nx)), (18, .int .i64 ((k : Int) + 1)), (22, .bool false), (35, .bool false), (69, .bool false), (71, .bool false), (76, .bool true), (118, .bool false), (131, .bool false), (153, .bool false), (157, .bool true), (202, .bool false)] := F.sub _ (by kernel_rfl)
                refine X.thenN ?_
                refine ⟨_, ?_, k + 1, rfl, GB_, by omega, F.sub _ (by kernel_rfl)⟩
                omega
              | true =>
                try rw [h101] at F
                have h101p : (k : Int) = p.c := by simpa using h101
                obtain ⟨pd109, pe109, -, pc109⟩ := hI86.at (j := k) (by omega)
                subst pe109
                replace hC : RCells w97 [(⟨w71.heap.size, 0, none⟩, .int .i64 p.c), (⟨w71.heap.size, 1, none⟩, .int .i64 p.v), (⟨w71.heap.size, 2, none⟩, .string (⟨(p.data.data.toList.set kk (UInt8.ofNat (xorV ((p.data.data.toList[kk]?.getD 0).toNat : Nat) (1 + (Int.tmod ((tagR se p.c p.v p.data : Int) + kk : Int) 255))).toNat)).toArray⟩)), (⟨w71.heap.size, 3, none⟩, .int .i64 (tagR se p.c p.v p.data)), (⟨w6.heap.size, 0, none⟩, .int .i64 p.c), (⟨w6.heap.size, 1, none⟩, .int .i64 p.v), (⟨w6.heap.size, 2, none⟩, .string p.data), (⟨w6.heap.size, 3, none⟩, .int .i64 (tagR se p.c p.v p.data)), (⟨w.heap.size, 0, none⟩, .slice (some pd27) tn tc), (⟨w.heap.size, 1, none⟩, .slice ca cn cc), (⟨w4.heap.size, 0, none⟩, .slice a n c), (⟨w4.heap.size, 1, none⟩, .slice (some pd8) 1 lc), (pd8.add (0 * 4), .int .i64 p.c), (⟨(pd8.add (0 * 4)).block, (pd8.add (0 * 4)).off + 1, none⟩, .int .i64 p.v), (⟨(pd8.add (0 * 4)).block, (pd8.add (0 * 4)).off + 2, none⟩, .string p.data), (⟨(pd8.add (0 * 4)).block, (pd8.add (0 * 4)).off + 3, none⟩, .int .i64 p.tg), (pd27.add p.c.toNat, .slice pa27 rn27 pq27), (pd109.add k, .int .i64 (nx[k]?.getD 0))] := hC.append ((RCells.cons pc109 (RCells.nil _)))
                clear pc109
                have h111 : ((nx[k]?.getD 0 : Int) != p.v) = false := by have h := (hSG.on k (by have := hI86.len; omega) (by simpa using h101)); simp [h.1]
                try rw [h111] at F
                obtain ⟨pd112, pe112, -, pc112⟩ := hx.at (j := k) (by omega)
                subst pe112
                replace hC : RCells w97 [(⟨w71.heap.size, 0, none⟩, .int .i64 p.c), (⟨w71.heap.size, 1, none⟩, .int .i64 p.v), (⟨w71.heap.size, 2, none⟩, .string (⟨(p.data.data.toList.set kk (UInt8.ofNat (xorV ((p.data.data.toList[kk]?.getD 0).toNat : Nat) (1 + (Int.tmod ((tagR se p.c p.v p.data : Int) + kk : Int) 255))).toNat)).toArray⟩)), (⟨w71.heap.size, 3, none⟩, .int .i64 (tagR se p.c p.v p.data)), (⟨w6.heap.size, 0, none⟩, .int .i64 p.c), (⟨w6.heap.size, 1, none⟩, .int .i64 p.v), (⟨w6.heap.size, 2, none⟩, .string p.data), (⟨w6.heap.size, 3, none⟩, .int .i64 (tagR se p.c p.v p.data)), (⟨w.heap.size, 0, none⟩, .slice (some pd27) tn tc), (⟨w.heap.size, 1, none⟩, .slice ca cn cc), (⟨w4.heap.size, 0, none⟩, .slice (some pd112) n c), (⟨w4.heap.size, 1, none⟩, .slice (some pd8) 1 lc), (pd8.add (0 * 4), .int .i64 p.c), (⟨(pd8.add (0 * 4)).block, (pd8.add (0 * 4)).off + 1, none⟩, .int .i64 p.v), (⟨(pd8.add (0 * 4)).block, (pd8.add (0 * 4)).off + 2, none⟩, .string p.data), (⟨(pd8.add (0 * 4)).block, (pd8.add (0 * 4)).off + 3, none⟩, .int .i64 p.tg), (pd27.add p.c.toNat, .slice pa27 rn27 pq27), (pd109.add k, .int .i64 (nx[k]?.getD 0)), (pd112.add k, .int .i64 (xs[k]?.getD 0))] := hC.append ((RCells.cons pc112 (RCells.nil _)))
                clear pc112
                have h114 : decide ((nx[k]?.getD 0 : Int) ≤ (xs[k]?.getD 0)) = false := decide_eq_false (by have h := (hSG.on k (by have := hI86.len; omega) (by simpa using h101)); omega)
                have h114p : ¬ ((nx[k]?.getD 0 : Int) ≤ (xs[k]?.getD 0)) := of_decide_eq_false h114
                try rw [h114] at F
                have h116 : ((k : Int) != p.c) = false := by have h := h101; simp at h ⊢; exact h
                try rw [h116] at F
                refine Y.region F [some (.int .i64 k), some (.pointer (some ⟨w6.heap.size, 0, none⟩)), some (.int .i64 p.c), some (.bool true), some (.bool true), some (.slice (some pd109) in86 ic86), some (.int .i64 k), some (.pointer (some (pd109.add k))), some (.int .i64 (nx[k]?.getD 0)), some (.pointer (some ⟨w6.heap.size, 1, none⟩)), some (.int .i64 p.v), some (.bool false), some (.bool false), some (.slice (some pd109) in86 ic86), some (.int .i64 k), some (.pointer (some (pd109.add k))), some (.int .i64 (nx[k]?.getD 0)), some (.pointer (some ⟨w4.heap.size, 0, none⟩)), some (.slice (some pd112) n c), some (.int .i64 k), some (.pointer (some (pd112.add k))), some (.int .i64 (xs[k]?.getD 0)), some (.bool false), some (.bool false), some (.bool false), some (.bool false), some (.int .i64 k), some (.pointer (some ⟨w6.heap.size, 0, none⟩)), some (.int .i64 p.c), some (.bool false), some (.bool false), none, none, none, none, none, none, none, none, none, none, some (.bool false), some (.bool false)] [] rfl ⟨by kernel_rfl, of_decide_eq_true (by kernel_rfl), by kernel_rfl, by kernel_rfl, by kernel_rfl⟩ ⟨?_, ?_, ?_, ?_, ?_, ?_, ?_, ?_, ?_, ?_, ?_, ?_, ?_, ?_, ?_, ?_, ?_, ?_, ?_, ?_, ?_, ?_, ?_, ?_, ?_, ?_, ?_, ?_, ?_, ?_, ?_, ?_, ?_, ?_, ?_, ?_, ?_, ?_, ?_, ?_, ?_, ?_, ?_, trivial⟩ ?_
                · intro ac done u W Sx hR
                  have g : Gr w97 W := hR.1
                  exact X.val (X.w0 rfl) rfl (X.move rfl (Sx.ev 18 (.int .i64 k) (by kernel_rfl))) (hR.step (Gr.refl _) rfl)
                · intro ac done u W Sx hR
                  have g : Gr w97 W := hR.1
                  exact X.val (X.w0 rfl) rfl (X.field rfl (Sx.ev 7 (.pointer (some ⟨w6.heap.size, 0, none⟩)) (by kernel_rfl)) (X.fld Try.underlying46 rfl (Try.siz3 _) rfl rfl)) (hR.step (Gr.refl _) rfl)
                · intro ac done u W Sx hR
                  have g : Gr w97 W := hR.1
                  exact X.val (X.w0 rfl) rfl (X.load rfl (Sx.ev 161 (.pointer (some ⟨w6.heap.size, 0, none⟩)) (by kernel_rfl)) (X.ld1 (Try.agg3 _) ((hC.gr g).at 4 rfl))) (hR.step (Gr.refl _) rfl)
                · intro ac done u W Sx hR
                  have g : Gr w97 W := hR.1
                  exact X.val (X.w0 rfl) rfl (X.binop rfl (Sx.ev 160 (.int .i64 k) (by kernel_rfl)) (Sx.ev 162 (.int .i64 p.c) (by kernel_rfl)) (X.eqlI Try.underlying3 h101)) (hR.step (Gr.refl _) rfl)
                · intro ac done u W Sx hR
                  have g : Gr w97 W := hR.1
                  exact X.val (X.w0 rfl) rfl (X.move rfl (Sx.ev 163 (.bool true) (by kernel_rfl))) (hR.step (Gr.refl _) rfl)
                · intro ac done u W Sx hR
                  have g : Gr w97 W := hR.1
                  exact X.val (X.w1 rfl (Sx.yl 4 164 true (by kernel_rfl) rfl rfl)) rfl (X.move rfl (Sx.ev 13 (.slice (some pd109) in86 ic86) (by kernel_rfl))) (hR.step (Gr.refl _) rfl)
                · intro ac done u W Sx hR
                  have g : Gr w97 W := hR.1
                  exact X.val (X.w1 rfl (Sx.yl 4 164 true (by kernel_rfl) rfl rfl)) rfl (X.move rfl (Sx.ev 18 (.int .i64 k) (by kernel_rfl))) (hR.step (Gr.refl _) rfl)
                · intro ac done u W Sx hR
                  have g : Gr w97 W := hR.1
                  exact X.val (X.w1 rfl (Sx.yl 4 164 true (by kernel_rfl) rfl rfl)) rfl (X.index rfl (Sx.ev 165 (.slice (some pd109) in86 ic86) (by kernel_rfl)) (Sx.ev 166 (.int .i64 k) (by kernel_rfl)) (X.idx (k := k) Try.underlying26 (Try.siz3 _) (by omega) (by omega) (by rw [Nat.mul_one]))) (hR.step (Gr.refl _) rfl)
                · intro ac done u W Sx hR
                  have g : Gr w97 W := hR.1
                  exact X.val (X.w1 rfl (Sx.yl 4 164 true (by kernel_rfl) rfl rfl)) rfl (X.load rfl (Sx.ev 167 (.pointer (some (pd109.add k))) (by kernel_rfl)) (X.ld1 (Try.agg3 _) ((hC.gr g).at 17 rfl))) (hR.step (Gr.refl _) rfl)
                · intro ac done u W Sx hR
                  have g : Gr w97 W := hR.1
                  exact X.val (X.w1 rfl (Sx.yl 4 164 true (by kernel_rfl) rfl rfl)) rfl (X.field rfl (Sx.ev 7 (.pointer (some ⟨w6.heap.size, 0, none⟩)) (by kernel_rfl)) (X.fld Try.underlying46 rfl (Try.siz3 _) rfl rfl)) (hR.step (Gr.refl _) rfl)
                · intro ac done u W Sx hR
                  have g : Gr w97 W := hR.1
                  exact X.val (X.w1 rfl (Sx.yl 4 164 true (by kernel_rfl) rfl rfl)) rfl (X.load rfl (Sx.ev 169 (.pointer (some ⟨w6.heap.size, 1, none⟩)) (by kernel_rfl)) (X.ld1 (Try.agg3 _) ((hC.gr g).at 5 rfl))) (hR.step (Gr.refl _) rfl)
                · intro ac done u W Sx hR
                  have g : Gr w97 W := hR.1
                  exact X.val (X.w1 rfl (Sx.yl 4 164 true (by kernel_rfl) rfl rfl)) rfl (X.binop rfl (Sx.ev 168 (.int .i64 (nx[k]?.getD 0)) (by kernel_rfl)) (Sx.ev 170 (.int .i64 p.v) (by kernel_rfl)) (X.neqI Try.underlying3 h111)) (hR.step (Gr.refl _) rfl)
                · intro ac done u W Sx hR
                  have g : Gr w97 W := hR.1
                  exact X.val (X.w1 rfl (Sx.yl 4 164 true (by kernel_rfl) rfl rfl)) rfl (X.move rfl (Sx.ev 171 (.bool false) (by kernel_rfl))) (hR.step (Gr.refl _) rfl)
                · intro ac done u W Sx hR
                  have g : Gr w97 W := hR.1
                  exact X.val (X.w1 rfl (Sx.yl 12 172 false (by kernel_rfl) rfl rfl)) rfl (X.move rfl (Sx.ev 13 (.slice (some pd109) in86 ic86) (by kernel_rfl))) (hR.step (Gr.refl _) rfl)
                · intro ac done u W Sx hR
                  have g : Gr w97 W := hR.1
                  exact X.val (X.w1 rfl (Sx.yl 12 172 false (by kernel_rfl) rfl rfl)) rfl (X.move rfl (Sx.ev 18 (.int .i64 k) (by kernel_rfl))) (hR.step (Gr.refl _) rfl)
                · intro ac done u W Sx hR
                  have g : Gr w97 W := hR.1
                  exact X.val (X.w1 rfl (Sx.yl 12 172 false (by kernel_rfl) rfl rfl)) rfl (X.index rfl (Sx.ev 173 (.slice (some pd109) in86 ic86) (by kernel_rfl)) (Sx.ev 174 (.int .i64 k) (by kernel_rfl)) (X.idx (k := k) Try.underlying26 (Try.siz3 _) (by omega) (by omega) (by rw [Nat.mul_one]))) (hR.step (Gr.refl _) rfl)
                · intro ac done u W Sx hR
                  have g : Gr w97 W := hR.1
                  exact X.val (X.w1 rfl (Sx.yl 12 172 false (by kernel_rfl) rfl rfl)) rfl (X.load rfl (Sx.ev 175 (.pointer (some (pd109.add k))) (by kernel_rfl)) (X.ld1 (Try.agg3 _) ((hC.gr g).at 17 rfl))) (hR.step (Gr.refl _) rfl)
                · intro ac done u W Sx hR
                  have g : Gr w97 W := hR.1
                  exact X.val (X.w1 rfl (Sx.yl 12 172 false (by kernel_rfl) rfl rfl)) rfl (X.field rfl (Sx.ev 5 (.pointer (some ⟨w4.heap.size, 0, none⟩)) (by kernel_rfl)) (X.fld Try.underlying55 rfl (Try.siz26 _) rfl rfl)) (hR.step (Gr.refl _) rfl)
                · intro ac done u W Sx hR
                  have g : Gr w97 W := hR.1
                  exact X.val (X.w1 rfl (Sx.yl 12 172 false (by kernel_rfl) rfl rfl)) rfl (X.load rfl (Sx.ev 177 (.pointer (some ⟨w4.heap.size, 0, none⟩)) (by kernel_rfl)) (X.ld1 (Try.agg26 _) ((hC.gr g).at 10 rfl))) (hR.step (Gr.refl _) rfl)
                · intro ac done u W Sx hR
                  have g : Gr w97 W := hR.1
                  exact X.val (X.w1 rfl (Sx.yl 12 172 false (by kernel_rfl) rfl rfl)) rfl (X.move rfl (Sx.ev 18 (.int .i64 k) (by kernel_rfl))) (hR.step (Gr.refl _) rfl)
                · intro ac done u W Sx hR
                  have g : Gr w97 W := hR.1
                  exact X.val (X.w1 rfl (Sx.yl 12 172 false (by kernel_rfl) rfl rfl)) rfl (X.index rfl (Sx.ev 178 (.slice (some pd112) n c) (by kernel_rfl)) (Sx.ev 179 (.int .i64 k) (by kernel_rfl)) (X.idx (k := k) Try.underlying26 (Try.siz3 _) (by omega) (by omega) (by rw [Nat.mul_one]))) (hR.step (Gr.refl _) rfl)
                · intro ac done u W Sx hR
                  have g : Gr w97 W := hR.1
                  exact X.val (X.w1 rfl (Sx.yl 12 172 false (by kernel_rfl) rfl rfl)) rfl (X.load rfl (Sx.ev 180 (.pointer (some (pd112.add k))) (by kernel_rfl)) (X.ld1 (Try.agg3 _) ((hC.gr g).at 18 rfl))) (hR.step (Gr.refl _) rfl)
                · intro ac done u W Sx hR
                  have g : Gr w97 W := hR.1
                  exact X.val (X.w1 rfl (Sx.yl 12 172 false (by kernel_rfl) rfl rfl)) rfl (X.binop rfl (Sx.ev 176 (.int .i64 (nx[k]?.getD 0)) (by kernel_rfl)) (Sx.ev 181 (.int .i64 (xs[k]?.getD 0)) (by kernel_rfl)) (X.leqI Try.underlying3 h114)) (hR.step (Gr.refl _) rfl)
                · intro ac done u W Sx hR
                  have g : Gr w97 W := hR.1
                  exact X.val (X.w1 rfl (Sx.yl 4 164 true (by kernel_rfl) rfl rfl)) rfl (X.pickF rfl (Sx.ev 172 (.bool false) (by kernel_rfl)) (Sx.ev 182 (.bool false) (by kernel_rfl))) (hR.step (Gr.refl _) rfl)
                · intro ac done u W Sx hR
                  have g : Gr w97 W := hR.1
                  exact X.val (X.w0 rfl) rfl (X.pickT rfl (Sx.ev 164 (.bool true) (by kernel_rfl)) (Sx.ev 183 (.bool false) (by kernel_rfl))) (hR.step (Gr.refl _) rfl)
                · intro ac done u W Sx hR
                  have g : Gr w97 W := hR.1
                  exact X.val (X.w0 rfl) rfl (X.move rfl (Sx.ev 184 (.bool false) (by kernel_rfl))) (hR.step (Gr.refl _) rfl)
                · intro ac done u W Sx hR
                  have g : Gr w97 W := hR.1
                  exact X.val (X.w1 rfl (Sx.yl 25 185 false (by kernel_rfl) rfl rfl)) rfl (X.move rfl (Sx.ev 18 (.int .i64 k) (by kernel_rfl))) (hR.step (Gr.refl _) rfl)
                · intro ac done u W Sx hR
                  have g : Gr w97 W := hR.1
                  exact X.val (X.w1 rfl (Sx.yl 25 185 false (by kernel_rfl) rfl rfl)) rfl (X.field rfl (Sx.ev 7 (.pointer (some ⟨w6.heap.size, 0, none⟩)) (by kernel_rfl)) (X.fld Try.underlying46 rfl (Try.siz3 _) rfl rfl)) (hR.step (Gr.refl _) rfl)
                · intro ac done u W Sx hR
                  have g : Gr w97 W := hR.1
                  exact X.val (X.w1 rfl (Sx.yl 25 185 false (by kernel_rfl) rfl rfl)) rfl (X.load rfl (Sx.ev 187 (.pointer (some ⟨w6.heap.size, 0, none⟩)) (by kernel_rfl)) (X.ld1 (Try.agg3 _) ((hC.gr g).at 4 rfl))) (hR.step (Gr.refl _) rfl)
                · intro ac done u W Sx hR
                  have g : Gr w97 W := hR.1
                  exact X.val (X.w1 rfl (Sx.yl 25 185 false (by kernel_rfl) rfl rfl)) rfl (X.binop rfl (Sx.ev 186 (.int .i64 k) (by kernel_rfl)) (Sx.ev 188 (.int .i64 p.c) (by kernel_rfl)) (X.neqI Try.underlying3 h116)) (hR.step (Gr.refl _) rfl)
                · intro ac done u W Sx hR
                  have g : Gr w97 W := hR.1
                  exact X.val (X.w1 rfl (Sx.yl 25 185 false (by kernel_rfl) rfl rfl)) rfl (X.move rfl (Sx.ev 189 (.bool false) (by kernel_rfl))) (hR.step (Gr.refl _) rfl)
                · intro ac done u W Sx hR
                  have g : Gr w97 W := hR.1
                  exact X.skip (X.w2 rfl (Sx.yl 30 190 false (by kernel_rfl) rfl rfl) rfl) rfl (hR.skip rfl)
                · intro ac done u W Sx hR
                  have g : Gr w97 W := hR.1
                  exact X.skip (X.w2 rfl (Sx.yl 30 190 false (by kernel_rfl) rfl rfl) rfl) rfl (hR.skip rfl)
                · intro ac done u W Sx hR
                  have g : Gr w97 W := hR.1
                  exact X.skip (X.w2 rfl (Sx.yl 30 190 false (by kernel_rfl) rfl rfl) rfl) rfl (hR.skip rfl)
                · intro ac done u W Sx hR
                  have g : Gr w97 W := hR.1
                  exact X.skip (X.w2 rfl (Sx.yl 30 190 false (by kernel_rfl) rfl rfl) rfl) rfl (hR.skip rfl)
                · intro ac done u W Sx hR
                  have g : Gr w97 W := hR.1
                  exact X.skip (X.w2 rfl (Sx.yl 30 190 false (by kernel_rfl) rfl rfl) rfl) rfl (hR.skip rfl)
                · intro ac done u W Sx hR
                  have g : Gr w97 W := hR.1
                  exact X.skip (X.w2 rfl (Sx.yl 30 190 false (by kernel_rfl) rfl rfl) rfl) rfl (hR.skip rfl)
                · intro ac done u W Sx hR
                  have g : Gr w97 W := hR.1
                  exact X.skip (X.w2 rfl (Sx.yl 30 190 false (by kernel_rfl) rfl rfl) rfl) rfl (hR.skip rfl)
                · intro ac done u W Sx hR
                  have g : Gr w97 W := hR.1
                  exact X.skip (X.w2 rfl (Sx.yl 30 190 false (by kernel_rfl) rfl rfl) rfl) rfl (hR.skip rfl)
                · intro ac done u W Sx hR
                  have g : Gr w97 W := hR.1
                  exact X.skip (X.w2 rfl (Sx.yl 30 190 false (by kernel_rfl) rfl rfl) rfl) rfl (hR.skip rfl)
                · intro ac done u W Sx hR
                  have g : Gr w97 W := hR.1
                  exact X.skip (X.w2 rfl (Sx.yl 30 190 false (by kernel_rfl) rfl rfl) rfl) rfl (hR.skip rfl)
                · intro ac done u W Sx hR
                  have g : Gr w97 W := hR.1
                  exact X.val (X.w1 rfl (Sx.yl 25 185 false (by kernel_rfl) rfl rfl)) rfl (X.pickF rfl (Sx.ev 190 (.bool false) (by kernel_rfl)) (X.kc (.bool false) rfl)) (hR.step (Gr.refl _) rfl)
                · intro ac done u W Sx hR
                  have g : Gr w97 W := hR.1
                  exact X.val (X.w0 rfl) rfl (X.pickF rfl (Sx.ev 185 (.bool false) (by kernel_rfl)) (Sx.ev 201 (.bool false) (by kernel_rfl))) (hR.step (Gr.refl _) rfl)
                intro ac u w117 hs hd hl ho hR
                have g : Gr w97 w117 := hR.1
                replace F : Fr ac 204 [(0, .agg #[.slice (some pd27) tn tc, .slice ca cn cc]), (1, .int .i64 se), (2, .agg #[.slice (some pd112) n c, .slice (some pd8) 1 lc]), (3, .pointer (some ⟨w.heap.size, 0, none⟩)), (5, .pointer (some ⟨w4.heap.size, 0, none⟩)), (7, .pointer (some ⟨w6.heap.size, 0, none⟩)), (8, .int .i64 (tagR se p.c p.v p.data)), (9, .int .i64 ((instR f se xs ([⟨p.c, p.v, p.data, tagR se p.c p.v p.data⟩])).2.2)), (10, .int .i64 kk), (11, .pointer (some ⟨w71.heap.size, 0, none⟩)), (12, .slice (some ⟨w75.heap.size, 0, none⟩) (p.data.size : Nat) bc), (13, .slice (some pd109) in86 ic86), (16, .bool true), (17, .int .i64 (wE f nx)), (18, .int .i64 k), (22, .bool false), (35, .bool false), (69, .bool false), (71, .bool false), (76, .bool true), (118, .bool false), (131, .bool false), (153, .bool false), (157, .bool true), (202, .bool false)] := X.fr hs hd hl _ (by kernel_rfl)
                clear hs hd hl ho hR
                replace G := G.trans g
                replace hC := hC.gr g
                replace GB_ := GB_.trans g
                replace hf := hf.gr g
                replace hx := hx.gr g
                replace hP := hP.gr g
                replace ht := ht.gr g
                replace pi27 := pi27.gr g
                replace hPk := hPk.gr g
                replace hI86 := hI86.gr g
                clear g
                refine X.thenN ?_
                refine Y.condF (F.ev 202 (.bool false) (by kernel_rfl)) ?_
                refine Y.skip ?_
                refine X.blockN ?_
                refine X.thenN ?_
                refine Y.lit (by kernel_rfl) ?_
                refine Y.pval F (X.w0 rfl) rfl (X.move rfl (F.ev 18 (.int .i64 k) (by kernel_rfl))) ?_
                clear F ac
                intro ac F
                refine Y.pval F (X.w0 rfl) rfl (X.binop rfl (F.ev 158 (.int .i64 k) (by kernel_rfl)) (X.kc (.int .i64 1) rfl) (X.addI Try.underlying3 rfl (by omega) (by omega))) ?_
                clear F ac
                intro ac F
                refine Y.pval F (X.w0 rfl) rfl (X.assign rfl (F.ev 159 (.int .i64 ((k : Int) + 1)) (by kernel_rfl))) ?_
                clear F ac
                intro ac F
                refine Y.nil ?_
                replace F : Fr ac 204 [(0, .agg #[.slice (some pd27) tn tc, .slice ca cn cc]), (1, .int .i64 se), (2, .agg #[.slice (some pd112) n c, .slice (some pd8) 1 lc]), (3, .pointer (some ⟨w.heap.size, 0, none⟩)), (5, .pointer (some ⟨w4.heap.size, 0, none⟩)), (7, .pointer (some ⟨w6.heap.size, 0, none⟩)), (8, .int .i64 (tagR se p.c p.v p.data)), (9, .int .i64 ((instR f se xs ([⟨p.c, p.v, p.data, tagR se p.c p.v p.data⟩])).2.2)), (10, .int .i64 kk), (11, .pointer (some ⟨w71.heap.size, 0, none⟩)), (12, .slice (some ⟨w75.heap.size, 0, none⟩) (p.data.size : Nat) bc), (13, .slice (some pd109) in86 ic86), (16, .bool true), (17, .int .i64 (wE f nx)), (18, .int .i64 ((k : Int) + 1)), (22, .bool false), (35, .bool false), (69, .bool false), (71, .bool false), (76, .bool true), (118, .bool false), (131, .bool false), (153, .bool false), (157, .bool true), (202, .bool false)] := F.sub _ (by kernel_rfl)
                refine X.thenN ?_
                refine ⟨_, ?_, k + 1, rfl, GB_, by omega, F.sub _ (by kernel_rfl)⟩
                omega
          | true =>
            try rw [h88] at F
            have h88p : ¬ ((instR f se xs ([⟨p.c, p.v, p.data, tagR se p.c p.v p.data⟩])).2.2 : Int) = 0 := by simpa using h88
            refine Y.condT (F.ev 131 (.bool true) (by kernel_rfl)) ?_
            refine Y.seq ?_
            refine Y.lit (by kernel_rfl) ?_
            refine Y.pcall F (X.w0 rfl) rfl (X.enter (F := 16) rfl (X.kc (.func (.func 16) #[] #[]) rfl) rfl (enters_of Try.func16 (by kernel_rfl) rfl _)) (look_any w87) ?_
            clear F ac
            rintro e w119 ⟨rfl, g⟩
            refine ⟨_, rfl, ?_⟩
            intro ac F
            replace G := G.trans g
            replace hC := hC.gr g
            replace GA := GA.trans g
            replace hf := hf.gr g
            replace hx := hx.gr g
            replace hP := hP.gr g
            replace ht := ht.gr g
            replace hO9 := hO9.gr g
            replace pi27 := pi27.gr g
            replace hBy := hBy.gr g
            replace hO72 := hO72.gr g
            replace hPk := hPk.gr g
            replace hI86 := hI86.gr g
            clear g
            refine Y.pval F (X.w0 rfl) rfl (X.assign rfl (F.ev 132 (.bool true) (by kernel_rfl))) ?_
            clear F ac
            intro ac F
            refine Y.nil ?_
            replace F : Fr ac 204 [(0, .agg #[.slice (some pd27) tn tc, .slice ca cn cc]), (1, .int .i64 se), (2, .agg #[.slice a n c, .slice (some pd8) 1 lc]), (3, .pointer (some ⟨w.heap.size, 0, none⟩)), (5, .pointer (some ⟨w4.heap.size, 0, none⟩)), (6, .bool true), (7, .pointer (some ⟨w6.heap.size, 0, none⟩)), (8, .int .i64 (tagR se p.c p.v p.data)), (9, .int .i64 ((instR f se xs ([⟨p.c, p.v, p.data, tagR se p.c p.v p.data⟩])).2.2)), (10, .int .i64 kk), (11, .pointer (some ⟨w71.heap.size, 0, none⟩)), (12, .slice (some ⟨w75.heap.size, 0, none⟩) (p.data.size : Nat) bc), (13, .slice ia86 in86 ic86), (22, .bool false), (35, .bool false), (69, .bool false), (71, .bool false), (76, .bool true), (118, .bool false), (131, .bool true)] := F.sub _ (by kernel_rfl)
            refine X.thenN ?_
            refine Y.ret ?_
            refine X.thenR ?_
            exact Y.ret0 F (Y.rs1 F rfl (by kernel_rfl)) ⟨rfl, G⟩
      | true =>
        try rw [h19] at F
        have h19p : ¬ (AcceptE f se p.c p.v p.data (tagR se p.c p.v p.data) : Int) = 0 := by simpa using h19
        cases h121 : ((chkE f : Int) == 0) with
        | false =>
          try rw [h121] at F
          have h121p : ¬ (chkE f : Int) = 0 := by simpa using h121
          refine Y.region F [some (.agg #[.slice ta tn tc, .slice ca cn cc]), some (.int .i64 (chkE f)), some (.bool false), some (.bool false), none, none, none, none, none, none, some (.bool false), some (.bool false), none, none, none, none, none, none, none, none, none, none, some (.bool false), some (.bool false), none, none, some (.bool false)] [] rfl ⟨by kernel_rfl, of_decide_eq_true (by kernel_rfl), by kernel_rfl, by kernel_rfl, by kernel_rfl⟩ ⟨?_, ?_, ?_, ?_, ?_, ?_, ?_, ?_, ?_, ?_, ?_, ?_, ?_, ?_, ?_, ?_, ?_, ?_, ?_, ?_, ?_, ?_, ?_, ?_, ?_, ?_, ?_, trivial⟩ ?_
          · intro ac done u W Sx hR
            have g : Gr w16 W := hR.1
            exact X.val (X.w0 rfl) rfl (X.load rfl (Sx.ev 3 (.pointer (some ⟨w.heap.size, 0, none⟩)) (by kernel_rfl)) (X.ldN (Try.agg25 _) (Try.siz25 _) (X.c2 ((hC.gr g).at 4 rfl) ((hC.gr g).at 5 rfl)))) (hR.step (Gr.refl _) rfl)
          · intro ac done u W Sx hR
            have g : Gr w16 W := hR.1
            refine X.call (X.w0 rfl) (X.enter (F := 37) rfl (X.kc (.func (.func 37) #[] #[]) rfl) (X.a1 (Sx.ev 43 (.agg #[.slice ta tn tc, .slice ca cn cc]) (by kernel_rfl))) (enters_of Try.func37 (by kernel_rfl) rfl _)) (check2_any ta ca tn tc cn cc f W (hf.gr g)) ?_
            rintro e W2 ⟨rfl, g2⟩
            exact ⟨_, rfl, X.kn rfl, hR.step g2 rfl⟩
          · intro ac done u W Sx hR
            have g : Gr w16 W := hR.1
            exact X.val (X.w0 rfl) rfl (X.binop rfl (Sx.ev 44 (.int .i64 (chkE f)) (by kernel_rfl)) (X.kc (.int .i64 0) rfl) (X.eqlI Try.underlying31 h121)) (hR.step (Gr.refl _) rfl)
          · intro ac done u W Sx hR
            have g : Gr w16 W := hR.1
            exact X.val (X.w0 rfl) rfl (X.move rfl (Sx.ev 45 (.bool false) (by kernel_rfl))) (hR.step (Gr.refl _) rfl)
          · intro ac done u W Sx hR
            have g : Gr w16 W := hR.1
            exact X.skip (X.w2 rfl (Sx.yl 3 46 false (by kernel_rfl) rfl rfl) rfl) rfl (hR.skip rfl)
          · intro ac done u W Sx hR
            have g : Gr w16 W := hR.1
            exact X.skip (X.w2 rfl (Sx.yl 3 46 false (by kernel_rfl) rfl rfl) rfl) rfl (hR.skip rfl)
          · intro ac done u W Sx hR
            have g : Gr w16 W := hR.1
            exact X.skip (X.w2 rfl (Sx.yl 3 46 false (by kernel_rfl) rfl rfl) rfl) rfl (hR.skip rfl)
          · intro ac done u W Sx hR
            have g : Gr w16 W := hR.1
            exact X.skip (X.w2 rfl (Sx.yl 3 46 false (by kernel_rfl) rfl rfl) rfl) rfl (hR.skip rfl)
          · intro ac done u W Sx hR
            have g : Gr w16 W := hR.1
            exact X.skip (X.w2 rfl (Sx.yl 3 46 false (by kernel_rfl) rfl rfl) rfl) rfl (hR.skip rfl)
          · intro ac done u W Sx hR
            have g : Gr w16 W := hR.1
            exact X.skip (X.w2 rfl (Sx.yl 3 46 false (by kernel_rfl) rfl rfl) rfl) rfl (hR.skip rfl)
          · intro ac done u W Sx hR
            have g : Gr w16 W := hR.1
            exact X.val (X.w0 rfl) rfl (X.pickF rfl (Sx.ev 46 (.bool false) (by kernel_rfl)) (X.kc (.bool false) rfl)) (hR.step (Gr.refl _) rfl)
          · intro ac done u W Sx hR
            have g : Gr w16 W := hR.1
            exact X.val (X.w0 rfl) rfl (X.move rfl (Sx.ev 53 (.bool false) (by kernel_rfl))) (hR.step (Gr.refl _) rfl)
          · intro ac done u W Sx hR
            have g : Gr w16 W := hR.1
            exact X.skip (X.w2 rfl (Sx.yl 11 54 false (by kernel_rfl) rfl rfl) rfl) rfl (hR.skip rfl)
          · intro ac done u W Sx hR
            have g : Gr w16 W := hR.1
            exact X.skip (X.w2 rfl (Sx.yl 11 54 false (by kernel_rfl) rfl rfl) rfl) rfl (hR.skip rfl)
          · intro ac done u W Sx hR
            have g : Gr w16 W := hR.1
            exact X.skip (X.w2 rfl (Sx.yl 11 54 false (by kernel_rfl) rfl rfl) rfl) rfl (hR.skip rfl)
          · intro ac done u W Sx hR
            have g : Gr w16 W := hR.1
            exact X.skip (X.w2 rfl (Sx.yl 11 54 false (by kernel_rfl) rfl rfl) rfl) rfl (hR.skip rfl)
          · intro ac done u W Sx hR
            have g : Gr w16 W := hR.1
            exact X.skip (X.w2 rfl (Sx.yl 11 54 false (by kernel_rfl) rfl rfl) rfl) rfl (hR.skip rfl)
          · intro ac done u W Sx hR
            have g : Gr w16 W := hR.1
            exact X.skip (X.w2 rfl (Sx.yl 11 54 false (by kernel_rfl) rfl rfl) rfl) rfl (hR.skip rfl)
          · intro ac done u W Sx hR
            have g : Gr w16 W := hR.1
            exact X.skip (X.w2 rfl (Sx.yl 11 54 false (by kernel_rfl) rfl rfl) rfl) rfl (hR.skip rfl)
          · intro ac done u W Sx hR
            have g : Gr w16 W := hR.1
            exact X.skip (X.w2 rfl (Sx.yl 11 54 false (by kernel_rfl) rfl rfl) rfl) rfl (hR.skip rfl)
          · intro ac done u W Sx hR
            have g : Gr w16 W := hR.1
            exact X.skip (X.w2 rfl (Sx.yl 11 54 false (by kernel_rfl) rfl rfl) rfl) rfl (hR.skip rfl)
          · intro ac done u W Sx hR
            have g : Gr w16 W := hR.1
            exact X.skip (X.w2 rfl (Sx.yl 11 54 false (by kernel_rfl) rfl rfl) rfl) rfl (hR.skip rfl)
          · intro ac done u W Sx hR
            have g : Gr w16 W := hR.1
            exact X.val (X.w0 rfl) rfl (X.pickF rfl (Sx.ev 54 (.bool false) (by kernel_rfl)) (X.kc (.bool false) rfl)) (hR.step (Gr.refl _) rfl)
          · intro ac done u W Sx hR
            have g : Gr w16 W := hR.1
            exact X.val (X.w0 rfl) rfl (X.move rfl (Sx.ev 65 (.bool false) (by kernel_rfl))) (hR.step (Gr.refl _) rfl)
          · intro ac done u W Sx hR
            have g : Gr w16 W := hR.1
            exact X.skip (X.w2 rfl (Sx.yl 23 66 false (by kernel_rfl) rfl rfl) rfl) rfl (hR.skip rfl)
          · intro ac done u W Sx hR
            have g : Gr w16 W := hR.1
            exact X.skip (X.w2 rfl (Sx.yl 23 66 false (by kernel_rfl) rfl rfl) rfl) rfl (hR.skip rfl)
          · intro ac done u W Sx hR
            have g : Gr w16 W := hR.1
            exact X.val (X.w0 rfl) rfl (X.pickF rfl (Sx.ev 66 (.bool false) (by kernel_rfl)) (X.kc (.bool false) rfl)) (hR.step (Gr.refl _) rfl)
          intro ac u w123 hs hd hl ho hR
          have g : Gr w16 w123 := hR.1
          replace F : Fr ac 204 [(0, .agg #[.slice ta tn tc, .slice ca cn cc]), (1, .int .i64 se), (2, .agg #[.slice a n c, .slice (some pd8) 1 lc]), (3, .pointer (some ⟨w.heap.size, 0, none⟩)), (5, .pointer (some ⟨w4.heap.size, 0, none⟩)), (6, .bool false), (7, .pointer (some ⟨w6.heap.size, 0, none⟩)), (8, .int .i64 (tagR se p.c p.v p.data)), (9, .int .i64 (AcceptE f se p.c p.v p.data (tagR se p.c p.v p.data))), (22, .bool false), (35, .bool false), (69, .bool false)] := X.fr hs hd hl _ (by kernel_rfl)
          clear hs hd hl ho hR
          replace G := G.trans g
          replace hC := hC.gr g
          replace GA := GA.trans g
          replace hf := hf.gr g
          replace hx := hx.gr g
          replace hP := hP.gr g
          replace ht := ht.gr g
          replace hO9 := hO9.gr g
          clear g
          refine X.thenN ?_
          refine Y.condF (F.ev 69 (.bool false) (by kernel_rfl)) ?_
          refine Y.skip ?_
          refine X.thenN ?_
          refine Y.seq ?_
          refine Y.seq ?_
          refine Y.lit (by kernel_rfl) ?_
          refine Y.pval F (X.w0 rfl) rfl (X.move rfl (F.ev 9 (.int .i64 (AcceptE f se p.c p.v p.data (tagR se p.c p.v p.data))) (by kernel_rfl))) ?_
          clear F ac
          intro ac F
          refine Y.pval F (X.w0 rfl) rfl (X.binop rfl (F.ev 70 (.int .i64 (AcceptE f se p.c p.v p.data (tagR se p.c p.v p.data))) (by kernel_rfl)) (X.kc (.int .i64 0) rfl) (X.neqI Try.underlying31 h19)) ?_
          clear F ac
          intro ac F
          refine Y.nil ?_
          replace F : Fr ac 204 [(0, .agg #[.slice ta tn tc, .slice ca cn cc]), (1, .int .i64 se), (2, .agg #[.slice a n c, .slice (some pd8) 1 lc]), (3, .pointer (some ⟨w.heap.size, 0, none⟩)), (5, .pointer (some ⟨w4.heap.size, 0, none⟩)), (6, .bool false), (7, .pointer (some ⟨w6.heap.size, 0, none⟩)), (8, .int .i64 (tagR se p.c p.v p.data)), (9, .int .i64 (AcceptE f se p.c p.v p.data (tagR se p.c p.v p.data))), (22, .bool false), (35, .bool false), (69, .bool false), (71, .bool true)] := F.sub _ (by kernel_rfl)
          refine X.thenN ?_
          refine Y.condT (F.ev 71 (.bool true) (by kernel_rfl)) ?_
          refine Y.seq ?_
          refine Y.lit (by kernel_rfl) ?_
          refine Y.pcall F (X.w0 rfl) rfl (X.enter (F := 16) rfl (X.kc (.func (.func 16) #[] #[]) rfl) rfl (enters_of Try.func16 (by kernel_rfl) rfl _)) (look_any w123) ?_
          clear F ac
          rintro e w125 ⟨rfl, g⟩
          refine ⟨_, rfl, ?_⟩
          intro ac F
          replace G := G.trans g
          replace hC := hC.gr g
          replace GA := GA.trans g
          replace hf := hf.gr g
          replace hx := hx.gr g
          replace hP := hP.gr g
          replace ht := ht.gr g
          replace hO9 := hO9.gr g
          clear g
          refine Y.pval F (X.w0 rfl) rfl (X.assign rfl (F.ev 72 (.bool true) (by kernel_rfl))) ?_
          clear F ac
          intro ac F
          refine Y.nil ?_
          replace F : Fr ac 204 [(0, .agg #[.slice ta tn tc, .slice ca cn cc]), (1, .int .i64 se), (2, .agg #[.slice a n c, .slice (some pd8) 1 lc]), (3, .pointer (some ⟨w.heap.size, 0, none⟩)), (5, .pointer (some ⟨w4.heap.size, 0, none⟩)), (6, .bool true), (7, .pointer (some ⟨w6.heap.size, 0, none⟩)), (8, .int .i64 (tagR se p.c p.v p.data)), (9, .int .i64 (AcceptE f se p.c p.v p.data (tagR se p.c p.v p.data))), (22, .bool false), (35, .bool false), (69, .bool false), (71, .bool true)] := F.sub _ (by kernel_rfl)
          refine X.thenN ?_
          refine Y.ret ?_
          refine X.thenR ?_
          exact Y.ret0 F (Y.rs1 F rfl (by kernel_rfl)) ⟨rfl, G⟩
        | true =>
          try rw [h121] at F
          have h121p : (chkE f : Int) = 0 := by simpa using h121
          cases h127 : decide ((p.c : Int) < tn) with
          | false =>
            try rw [h127] at F
            have h127p : ¬ ((p.c : Int) < tn) := of_decide_eq_false h127
            refine Y.region F [some (.agg #[.slice ta tn tc, .slice ca cn cc]), some (.int .i64 (chkE f)), some (.bool true), some (.bool true), some (.pointer (some ⟨w6.heap.size, 0, none⟩)), some (.int .i64 p.c), some (.pointer (some ⟨w.heap.size, 0, none⟩)), some (.slice ta tn tc), some (.int .i64 tn), some (.bool false), some (.bool false), some (.bool false), none, none, none, none, none, none, none, none, none, none, some (.bool false), some (.bool false), none, none, some (.bool false)] [] rfl ⟨by kernel_rfl, of_decide_eq_true (by kernel_rfl), by kernel_rfl, by kernel_rfl, by kernel_rfl⟩ ⟨?_, ?_, ?_, ?_, ?_, ?_, ?_, ?_, ?_, ?_, ?_, ?_, ?_, ?_, ?_, ?_, ?_, ?_, ?_, ?_, ?_, ?_, ?_, ?_, ?_, ?_, ?_, trivial⟩ ?_
            · intro ac done u W Sx hR
              have g : Gr w16 W := hR.1
              exact X.val (X.w0 rfl) rfl (X.load rfl (Sx.ev 3 (.pointer (some ⟨w.heap.size, 0, none⟩)) (by kernel_rfl)) (X.ldN (Try.agg25 _) (Try.siz25 _) (X.c2 ((hC.gr g).at 4 rfl) ((hC.gr g).at 5 rfl)))) (hR.step (Gr.refl _) rfl)
            · intro ac done u W Sx hR
              have g : Gr w16 W := hR.1
              refine X.call (X.w0 rfl) (X.enter (F := 37) rfl (X.kc (.func (.func 37) #[] #[]) rfl) (X.a1 (Sx.ev 43 (.agg #[.slice ta tn tc, .slice ca cn cc]) (by kernel_rfl))) (enters_of Try.func37 (by kernel_rfl) rfl _)) (check2_any ta ca tn tc cn cc f W (hf.gr g)) ?_
              rintro e W2 ⟨rfl, g2⟩
              exact ⟨_, rfl, X.kn rfl, hR.step g2 rfl⟩
            · intro ac done u W Sx hR
              have g : Gr w16 W := hR.1
              exact X.val (X.w0 rfl) rfl (X.binop rfl (Sx.ev 44 (.int .i64 (chkE f)) (by kernel_rfl)) (X.kc (.int .i64 0) rfl) (X.eqlI Try.underlying31 h121)) (hR.step (Gr.refl _) rfl)
            · intro ac done u W Sx hR
              have g : Gr w16 W := hR.1
              exact X.val (X.w0 rfl) rfl (X.move rfl (Sx.ev 45 (.bool true) (by kernel_rfl))) (hR.step (Gr.refl _) rfl)
            · intro ac done u W Sx hR
              have g : Gr w16 W := hR.1
              exact X.val (X.w1 rfl (Sx.yl 3 46 true (by kernel_rfl) rfl rfl)) rfl (X.field rfl (Sx.ev 7 (.pointer (some ⟨w6.heap.size, 0, none⟩)) (by kernel_rfl)) (X.fld Try.underlying46 rfl (Try.siz3 _) rfl rfl)) (hR.step (Gr.refl _) rfl)
            · intro ac done u W Sx hR
              have g : Gr w16 W := hR.1
              exact X.val (X.w1 rfl (Sx.yl 3 46 true (by kernel_rfl) rfl rfl)) rfl (X.load rfl (Sx.ev 47 (.pointer (some ⟨w6.heap.size, 0, none⟩)) (by kernel_rfl)) (X.ld1 (Try.agg3 _) ((hC.gr g).at 0 rfl))) (hR.step (Gr.refl _) rfl)
            · intro ac done u W Sx hR
              have g : Gr w16 W := hR.1
              exact X.val (X.w1 rfl (Sx.yl 3 46 true (by kernel_rfl) rfl rfl)) rfl (X.field rfl (Sx.ev 3 (.pointer (some ⟨w.heap.size, 0, none⟩)) (by kernel_rfl)) (X.fld Try.underlying25 rfl (Try.siz22 _) rfl rfl)) (hR.step (Gr.refl _) rfl)
            · intro ac done u W Sx hR
              have g : Gr w16 W := hR.1
              exact X.val (X.w1 rfl (Sx.yl 3 46 true (by kernel_rfl) rfl rfl)) rfl (X.load rfl (Sx.ev 49 (.pointer (some ⟨w.heap.size, 0, none⟩)) (by kernel_rfl)) (X.ld1 (Try.agg22 _) ((hC.gr g).at 4 rfl))) (hR.step (Gr.refl _) rfl)
            · intro ac done u W Sx hR
              have g : Gr w16 W := hR.1
              exact X.val (X.w1 rfl (Sx.yl 3 46 true (by kernel_rfl) rfl rfl)) rfl (X.len1 Try.underlying22 rfl (Sx.ev 50 (.slice ta tn tc) (by kernel_rfl))) (hR.step (Gr.refl _) rfl)
            · intro ac done u W Sx hR
              have g : Gr w16 W := hR.1
              exact X.val (X.w1 rfl (Sx.yl 3 46 true (by kernel_rfl) rfl rfl)) rfl (X.binop rfl (Sx.ev 48 (.int .i64 p.c) (by kernel_rfl)) (Sx.ev 51 (.int .i64 tn) (by kernel_rfl)) (X.lssI Try.underlying3 h127)) (hR.step (Gr.refl _) rfl)
            · intro ac done u W Sx hR
              have g : Gr w16 W := hR.1
              exact X.val (X.w0 rfl) rfl (X.pickT rfl (Sx.ev 46 (.bool true) (by kernel_rfl)) (Sx.ev 52 (.bool false) (by kernel_rfl))) (hR.step (Gr.refl _) rfl)
            · intro ac done u W Sx hR
              have g : Gr w16 W := hR.1
              exact X.val (X.w0 rfl) rfl (X.move rfl (Sx.ev 53 (.bool false) (by kernel_rfl))) (hR.step (Gr.refl _) rfl)
            · intro ac done u W Sx hR
              have g : Gr w16 W := hR.1
              exact X.skip (X.w2 rfl (Sx.yl 11 54 false (by kernel_rfl) rfl rfl) rfl) rfl (hR.skip rfl)
            · intro ac done u W Sx hR
              have g : Gr w16 W := hR.1
              exact X.skip (X.w2 rfl (Sx.yl 11 54 false (by kernel_rfl) rfl rfl) rfl) rfl (hR.skip rfl)
            · intro ac done u W Sx hR
              have g : Gr w16 W := hR.1
              exact X.skip (X.w2 rfl (Sx.yl 11 54 false (by kernel_rfl) rfl rfl) rfl) rfl (hR.skip rfl)
            · intro ac done u W Sx hR
              have g : Gr w16 W := hR.1
              exact X.skip (X.w2 rfl (Sx.yl 11 54 false (by kernel_rfl) rfl rfl) rfl) rfl (hR.skip rfl)
            · intro ac done u W Sx hR
              have g : Gr w16 W := hR.1
              exact X.skip (X.w2 rfl (Sx.yl 11 54 false (by kernel_rfl) rfl rfl) rfl) rfl (hR.skip rfl)
            · intro ac done u W Sx hR
              have g : Gr w16 W := hR.1
              exact X.skip (X.w2 rfl (Sx.yl 11 54 false (by kernel_rfl) rfl rfl) rfl) rfl (hR.skip rfl)
            · intro ac done u W Sx hR
              have g : Gr w16 W := hR.1
              exact X.skip (X.w2 rfl (Sx.yl 11 54 false (by kernel_rfl) rfl rfl) rfl) rfl (hR.skip rfl)
            · intro ac done u W Sx hR
              have g : Gr w16 W := hR.1
              exact X.skip (X.w2 rfl (Sx.yl 11 54 false (by kernel_rfl) rfl rfl) rfl) rfl (hR.skip rfl)
            · intro ac done u W Sx hR
              have g : Gr w16 W := hR.1
              exact X.skip (X.w2 rfl (Sx.yl 11 54 false (by kernel_rfl) rfl rfl) rfl) rfl (hR.skip rfl)
            · intro ac done u W Sx hR
              have g : Gr w16 W := hR.1
              exact X.skip (X.w2 rfl (Sx.yl 11 54 false (by kernel_rfl) rfl rfl) rfl) rfl (hR.skip rfl)
            · intro ac done u W Sx hR
              have g : Gr w16 W := hR.1
              exact X.val (X.w0 rfl) rfl (X.pickF rfl (Sx.ev 54 (.bool false) (by kernel_rfl)) (X.kc (.bool false) rfl)) (hR.step (Gr.refl _) rfl)
            · intro ac done u W Sx hR
              have g : Gr w16 W := hR.1
              exact X.val (X.w0 rfl) rfl (X.move rfl (Sx.ev 65 (.bool false) (by kernel_rfl))) (hR.step (Gr.refl _) rfl)
            · intro ac done u W Sx hR
              have g : Gr w16 W := hR.1
              exact X.skip (X.w2 rfl (Sx.yl 23 66 false (by kernel_rfl) rfl rfl) rfl) rfl (hR.skip rfl)
            · intro ac done u W Sx hR
              have g : Gr w16 W := hR.1
              exact X.skip (X.w2 rfl (Sx.yl 23 66 false (by kernel_rfl) rfl rfl) rfl) rfl (hR.skip rfl)
            · intro ac done u W Sx hR
              have g : Gr w16 W := hR.1
              exact X.val (X.w0 rfl) rfl (X.pickF rfl (Sx.ev 66 (.bool false) (by kernel_rfl)) (X.kc (.bool false) rfl)) (hR.step (Gr.refl _) rfl)
            intro ac u w129 hs hd hl ho hR
            have g : Gr w16 w129 := hR.1
            replace F : Fr ac 204 [(0, .agg #[.slice ta tn tc, .slice ca cn cc]), (1, .int .i64 se), (2, .agg #[.slice a n c, .slice (some pd8) 1 lc]), (3, .pointer (some ⟨w.heap.size, 0, none⟩)), (5, .pointer (some ⟨w4.heap.size, 0, none⟩)), (6, .bool false), (7, .pointer (some ⟨w6.heap.size, 0, none⟩)), (8, .int .i64 (tagR se p.c p.v p.data)), (9, .int .i64 (AcceptE f se p.c p.v p.data (tagR se p.c p.v p.data))), (22, .bool false), (35, .bool false), (69, .bool false)] := X.fr hs hd hl _ (by kernel_rfl)
            clear hs hd hl ho hR
            replace G := G.trans g
            replace hC := hC.gr g
            replace GA := GA.trans g
            replace hf := hf.gr g
            replace hx := hx.gr g
            replace hP := hP.gr g
            replace ht := ht.gr g
            replace hO9 := hO9.gr g
            clear g
            refine X.thenN ?_
            refine Y.condF (F.ev 69 (.bool false) (by kernel_rfl)) ?_
            refine Y.skip ?_
            refine X.thenN ?_
            refine Y.seq ?_
            refine Y.seq ?_
            refine Y.lit (by kernel_rfl) ?_
            refine Y.pval F (X.w0 rfl) rfl (X.move rfl (F.ev 9 (.int .i64 (AcceptE f se p.c p.v p.data (tagR se p.c p.v p.data))) (by kernel_rfl))) ?_
            clear F ac
            intro ac F
            refine Y.pval F (X.w0 rfl) rfl (X.binop rfl (F.ev 70 (.int .i64 (AcceptE f se p.c p.v p.data (tagR se p.c p.v p.data))) (by kernel_rfl)) (X.kc (.int .i64 0) rfl) (X.neqI Try.underlying31 h19)) ?_
            clear F ac
            intro ac F
            refine Y.nil ?_
            replace F : Fr ac 204 [(0, .agg #[.slice ta tn tc, .slice ca cn cc]), (1, .int .i64 se), (2, .agg #[.slice a n c, .slice (some pd8) 1 lc]), (3, .pointer (some ⟨w.heap.size, 0, none⟩)), (5, .pointer (some ⟨w4.heap.size, 0, none⟩)), (6, .bool false), (7, .pointer (some ⟨w6.heap.size, 0, none⟩)), (8, .int .i64 (tagR se p.c p.v p.data)), (9, .int .i64 (AcceptE f se p.c p.v p.data (tagR se p.c p.v p.data))), (22, .bool false), (35, .bool false), (69, .bool false), (71, .bool true)] := F.sub _ (by kernel_rfl)
            refine X.thenN ?_
            refine Y.condT (F.ev 71 (.bool true) (by kernel_rfl)) ?_
            refine Y.seq ?_
            refine Y.lit (by kernel_rfl) ?_
            refine Y.pcall F (X.w0 rfl) rfl (X.enter (F := 16) rfl (X.kc (.func (.func 16) #[] #[]) rfl) rfl (enters_of Try.func16 (by kernel_rfl) rfl _)) (look_any w129) ?_
            clear F ac
            rintro e w131 ⟨rfl, g⟩
            refine ⟨_, rfl, ?_⟩
            intro ac F
            replace G := G.trans g
            replace hC := hC.gr g
            replace GA := GA.trans g
            replace hf := hf.gr g
            replace hx := hx.gr g
            replace hP := hP.gr g
            replace ht := ht.gr g
            replace hO9 := hO9.gr g
            clear g
            refine Y.pval F (X.w0 rfl) rfl (X.assign rfl (F.ev 72 (.bool true) (by kernel_rfl))) ?_
            clear F ac
            intro ac F
            refine Y.nil ?_
            replace F : Fr ac 204 [(0, .agg #[.slice ta tn tc, .slice ca cn cc]), (1, .int .i64 se), (2, .agg #[.slice a n c, .slice (some pd8) 1 lc]), (3, .pointer (some ⟨w.heap.size, 0, none⟩)), (5, .pointer (some ⟨w4.heap.size, 0, none⟩)), (6, .bool true), (7, .pointer (some ⟨w6.heap.size, 0, none⟩)), (8, .int .i64 (tagR se p.c p.v p.data)), (9, .int .i64 (AcceptE f se p.c p.v p.data (tagR se p.c p.v p.data))), (22, .bool false), (35, .bool false), (69, .bool false), (71, .bool true)] := F.sub _ (by kernel_rfl)
            refine X.thenN ?_
            refine Y.ret ?_
            refine X.thenR ?_
            exact Y.ret0 F (Y.rs1 F rfl (by kernel_rfl)) ⟨rfl, G⟩
          | true =>
            try rw [h127] at F
            have h127p : ((p.c : Int) < tn) := of_decide_eq_true h127
            obtain ⟨pd133, pa133, rn133, pq133, pe133, -, pc133, pi133⟩ := htA.at (j := p.c.toNat) (by omega)
            subst pe133
            replace hCA : RCells w [(pd8.add (0 * 4), .int .i64 p.c), (⟨(pd8.add (0 * 4)).block, (pd8.add (0 * 4)).off + 1, none⟩, .int .i64 p.v), (⟨(pd8.add (0 * 4)).block, (pd8.add (0 * 4)).off + 2, none⟩, .string p.data), (⟨(pd8.add (0 * 4)).block, (pd8.add (0 * 4)).off + 3, none⟩, .int .i64 p.tg), (pd133.add p.c.toNat, .slice pa133 rn133 pq133)] := hCA.append ((RCells.cons pc133 (RCells.nil _)))
            replace hC : RCells w16 [(⟨w6.heap.size, 0, none⟩, .int .i64 p.c), (⟨w6.heap.size, 1, none⟩, .int .i64 p.v), (⟨w6.heap.size, 2, none⟩, .string p.data), (⟨w6.heap.size, 3, none⟩, .int .i64 (tagR se p.c p.v p.data)), (⟨w.heap.size, 0, none⟩, .slice (some pd133) tn tc), (⟨w.heap.size, 1, none⟩, .slice ca cn cc), (⟨w4.heap.size, 0, none⟩, .slice a n c), (⟨w4.heap.size, 1, none⟩, .slice (some pd8) 1 lc), (pd8.add (0 * 4), .int .i64 p.c), (⟨(pd8.add (0 * 4)).block, (pd8.add (0 * 4)).off + 1, none⟩, .int .i64 p.v), (⟨(pd8.add (0 * 4)).block, (pd8.add (0 * 4)).off + 2, none⟩, .string p.data), (⟨(pd8.add (0 * 4)).block, (pd8.add (0 * 4)).off + 3, none⟩, .int .i64 p.tg), (pd133.add p.c.toNat, .slice pa133 rn133 pq133)] := hC.append ((RCells.cons ((GA.cell (lt_cell pc133)).trans pc133) (RCells.nil _)))
            clear pc133
            have pi133A := pi133
            replace pi133 := pi133.gr GA
            cases h135 : decide ((p.v : Int) ≤ rn133) with
            | false =>
              try rw [h135] at F
              have h135p : ¬ ((p.v : Int) ≤ rn133) := of_decide_eq_false h135
              refine Y.region F [some (.agg #[.slice (some pd133) tn tc, .slice ca cn cc]), some (.int .i64 (chkE f)), some (.bool true), some (.bool true), some (.pointer (some ⟨w6.heap.size, 0, none⟩)), some (.int .i64 p.c), some (.pointer (some ⟨w.heap.size, 0, none⟩)), some (.slice (some pd133) tn tc), some (.int .i64 tn), some (.bool true), some (.bool true), some (.bool true), some (.pointer (some ⟨w6.heap.size, 1, none⟩)), some (.int .i64 p.v), some (.pointer (some ⟨w.heap.size, 0, none⟩)), some (.slice (some pd133) tn tc), some (.pointer (some ⟨w6.heap.size, 0, none⟩)), some (.int .i64 p.c), some (.pointer (some (pd133.add p.c.toNat))), some (.slice pa133 rn133 pq133), some (.int .i64 rn133), some (.bool false), some (.bool false), some (.bool false), none, none, some (.bool false)] [] rfl ⟨by kernel_rfl, of_decide_eq_true (by kernel_rfl), by kernel_rfl, by kernel_rfl, by kernel_rfl⟩ ⟨?_, ?_, ?_, ?_, ?_, ?_, ?_, ?_, ?_, ?_, ?_, ?_, ?_, ?_, ?_, ?_, ?_, ?_, ?_, ?_, ?_, ?_, ?_, ?_, ?_, ?_, ?_, trivial⟩ ?_
              · intro ac done u W Sx hR
                have g : Gr w16 W := hR.1
                exact X.val (X.w0 rfl) rfl (X.load rfl (Sx.ev 3 (.pointer (some ⟨w.heap.size, 0, none⟩)) (by kernel_rfl)) (X.ldN (Try.agg25 _) (Try.siz25 _) (X.c2 ((hC.gr g).at 4 rfl) ((hC.gr g).at 5 rfl)))) (hR.step (Gr.refl _) rfl)
              · intro ac done u W Sx hR
                have g : Gr w16 W := hR.1
                refine X.call (X.w0 rfl) (X.enter (F := 37) rfl (X.kc (.func (.func 37) #[] #[]) rfl) (X.a1 (Sx.ev 43 (.agg #[.slice (some pd133) tn tc, .slice ca cn cc]) (by kernel_rfl))) (enters_of Try.func37 (by kernel_rfl) rfl _)) (check2_any (some pd133) ca tn tc cn cc f W (hf.gr g)) ?_
                rintro e W2 ⟨rfl, g2⟩
                exact ⟨_, rfl, X.kn rfl, hR.step g2 rfl⟩
              · intro ac done u W Sx hR
                have g : Gr w16 W := hR.1
                exact X.val (X.w0 rfl) rfl (X.binop rfl (Sx.ev 44 (.int .i64 (chkE f)) (by kernel_rfl)) (X.kc (.int .i64 0) rfl) (X.eqlI Try.underlying31 h121)) (hR.step (Gr.refl _) rfl)
              · intro ac done u W Sx hR
                have g : Gr w16 W := hR.1
                exact X.val (X.w0 rfl) rfl (X.move rfl (Sx.ev 45 (.bool true) (by kernel_rfl))) (hR.step (Gr.refl _) rfl)
              · intro ac done u W Sx hR
                have g : Gr w16 W := hR.1
                exact X.val (X.w1 rfl (Sx.yl 3 46 true (by kernel_rfl) rfl rfl)) rfl (X.field rfl (Sx.ev 7 (.pointer (some ⟨w6.heap.size, 0, none⟩)) (by kernel_rfl)) (X.fld Try.underlying46 rfl (Try.siz3 _) rfl rfl)) (hR.step (Gr.refl _) rfl)
              · intro ac done u W Sx hR
                have g : Gr w16 W := hR.1
                exact X.val (X.w1 rfl (Sx.yl 3 46 true (by kernel_rfl) rfl rfl)) rfl (X.load rfl (Sx.ev 47 (.pointer (some ⟨w6.heap.size, 0, none⟩)) (by kernel_rfl)) (X.ld1 (Try.agg3 _) ((hC.gr g).at 0 rfl))) (hR.step (Gr.refl _) rfl)
              · intro ac done u W Sx hR
                have g : Gr w16 W := hR.1
                exact X.val (X.w1 rfl (Sx.yl 3 46 true (by kernel_rfl) rfl rfl)) rfl (X.field rfl (Sx.ev 3 (.pointer (some ⟨w.heap.size, 0, none⟩)) (by kernel_rfl)) (X.fld Try.underlying25 rfl (Try.siz22 _) rfl rfl)) (hR.step (Gr.refl _) rfl)
              · intro ac done u W Sx hR
                have g : Gr w16 W := hR.1
                exact X.val (X.w1 rfl (Sx.yl 3 46 true (by kernel_rfl) rfl rfl)) rfl (X.load rfl (Sx.ev 49 (.pointer (some ⟨w.heap.size, 0, none⟩)) (by kernel_rfl)) (X.ld1 (Try.agg22 _) ((hC.gr g).at 4 rfl))) (hR.step (Gr.refl _) rfl)
              · intro ac done u W Sx hR
                have g : Gr w16 W := hR.1
                exact X.val (X.w1 rfl (Sx.yl 3 46 true (by kernel_rfl) rfl rfl)) rfl (X.len1 Try.underlying22 rfl (Sx.ev 50 (.slice (some pd133) tn tc) (by kernel_rfl))) (hR.step (Gr.refl _) rfl)
              · intro ac done u W Sx hR
                have g : Gr w16 W := hR.1
                exact X.val (X.w1 rfl (Sx.yl 3 46 true (by kernel_rfl) rfl rfl)) rfl (X.binop rfl (Sx.ev 48 (.int .i64 p.c) (by kernel_rfl)) (Sx.ev 51 (.int .i64 tn) (by kernel_rfl)) (X.lssI Try.underlying3 h127)) (hR.step (Gr.refl _) rfl)
              · intro ac done u W Sx hR
                have g : Gr w16 W := hR.1
                exact X.val (X.w0 rfl) rfl (X.pickT rfl (Sx.ev 46 (.bool true) (by kernel_rfl)) (Sx.ev 52 (.bool true) (by kernel_rfl))) (hR.step (Gr.refl _) rfl)
              · intro ac done u W Sx hR
                have g : Gr w16 W := hR.1
                exact X.val (X.w0 rfl) rfl (X.move rfl (Sx.ev 53 (.bool true) (by kernel_rfl))) (hR.step (Gr.refl _) rfl)
              · intro ac done u W Sx hR
                have g : Gr w16 W := hR.1
                exact X.val (X.w1 rfl (Sx.yl 11 54 true (by kernel_rfl) rfl rfl)) rfl (X.field rfl (Sx.ev 7 (.pointer (some ⟨w6.heap.size, 0, none⟩)) (by kernel_rfl)) (X.fld Try.underlying46 rfl (Try.siz3 _) rfl rfl)) (hR.step (Gr.refl _) rfl)
              · intro ac done u W Sx hR
                have g : Gr w16 W := hR.1
                exact X.val (X.w1 rfl (Sx.yl 11 54 true (by kernel_rfl) rfl rfl)) rfl (X.load rfl (Sx.ev 55 (.pointer (some ⟨w6.heap.size, 1, none⟩)) (by kernel_rfl)) (X.ld1 (Try.agg3 _) ((hC.gr g).at 1 rfl))) (hR.step (Gr.refl _) rfl)
              · intro ac done u W Sx hR
                have g : Gr w16 W := hR.1
                exact X.val (X.w1 rfl (Sx.yl 11 54 true (by kernel_rfl) rfl rfl)) rfl (X.field rfl (Sx.ev 3 (.pointer (some ⟨w.heap.size, 0, none⟩)) (by kernel_rfl)) (X.fld Try.underlying25 rfl (Try.siz22 _) rfl rfl)) (hR.step (Gr.refl _) rfl)
              · intro ac done u W Sx hR
                have g : Gr w16 W := hR.1
                exact X.val (X.w1 rfl (Sx.yl 11 54 true (by kernel_rfl) rfl rfl)) rfl (X.load rfl (Sx.ev 57 (.pointer (some ⟨w.heap.size, 0, none⟩)) (by kernel_rfl)) (X.ld1 (Try.agg22 _) ((hC.gr g).at 4 rfl))) (hR.step (Gr.refl _) rfl)
              · intro ac done u W Sx hR
                have g : Gr w16 W := hR.1
                exact X.val (X.w1 rfl (Sx.yl 11 54 true (by kernel_rfl) rfl rfl)) rfl (X.field rfl (Sx.ev 7 (.pointer (some ⟨w6.heap.size, 0, none⟩)) (by kernel_rfl)) (X.fld Try.underlying46 rfl (Try.siz3 _) rfl rfl)) (hR.step (Gr.refl _) rfl)
              · intro ac done u W Sx hR
                have g : Gr w16 W := hR.1
                exact X.val (X.w1 rfl (Sx.yl 11 54 true (by kernel_rfl) rfl rfl)) rfl (X.load rfl (Sx.ev 59 (.pointer (some ⟨w6.heap.size, 0, none⟩)) (by kernel_rfl)) (X.ld1 (Try.agg3 _) ((hC.gr g).at 0 rfl))) (hR.step (Gr.refl _) rfl)
              · intro ac done u W Sx hR
                have g : Gr w16 W := hR.1
                exact X.val (X.w1 rfl (Sx.yl 11 54 true (by kernel_rfl) rfl rfl)) rfl (X.index rfl (Sx.ev 58 (.slice (some pd133) tn tc) (by kernel_rfl)) (Sx.ev 60 (.int .i64 p.c) (by kernel_rfl)) (X.idx (k := p.c.toNat) Try.underlying22 (Try.siz26 _) (by omega) (by omega) (by rw [Nat.mul_one]))) (hR.step (Gr.refl _) rfl)
              · intro ac done u W Sx hR
                have g : Gr w16 W := hR.1
                exact X.val (X.w1 rfl (Sx.yl 11 54 true (by kernel_rfl) rfl rfl)) rfl (X.load rfl (Sx.ev 61 (.pointer (some (pd133.add p.c.toNat))) (by kernel_rfl)) (X.ld1 (Try.agg26 _) ((hC.gr g).at 12 rfl))) (hR.step (Gr.refl _) rfl)
              · intro ac done u W Sx hR
                have g : Gr w16 W := hR.1
                exact X.val (X.w1 rfl (Sx.yl 11 54 true (by kernel_rfl) rfl rfl)) rfl (X.len1 Try.underlying26 rfl (Sx.ev 62 (.slice pa133 rn133 pq133) (by kernel_rfl))) (hR.step (Gr.refl _) rfl)
              · intro ac done u W Sx hR
                have g : Gr w16 W := hR.1
                exact X.val (X.w1 rfl (Sx.yl 11 54 true (by kernel_rfl) rfl rfl)) rfl (X.binop rfl (Sx.ev 56 (.int .i64 p.v) (by kernel_rfl)) (Sx.ev 63 (.int .i64 rn133) (by kernel_rfl)) (X.leqI Try.underlying3 h135)) (hR.step (Gr.refl _) rfl)
              · intro ac done u W Sx hR
                have g : Gr w16 W := hR.1
                exact X.val (X.w0 rfl) rfl (X.pickT rfl (Sx.ev 54 (.bool true) (by kernel_rfl)) (Sx.ev 64 (.bool false) (by kernel_rfl))) (hR.step (Gr.refl _) rfl)
              · intro ac done u W Sx hR
                have g : Gr w16 W := hR.1
                exact X.val (X.w0 rfl) rfl (X.move rfl (Sx.ev 65 (.bool false) (by kernel_rfl))) (hR.step (Gr.refl _) rfl)
              · intro ac done u W Sx hR
                have g : Gr w16 W := hR.1
                exact X.skip (X.w2 rfl (Sx.yl 23 66 false (by kernel_rfl) rfl rfl) rfl) rfl (hR.skip rfl)
              · intro ac done u W Sx hR
                have g : Gr w16 W := hR.1
                exact X.skip (X.w2 rfl (Sx.yl 23 66 false (by kernel_rfl) rfl rfl) rfl) rfl (hR.skip rfl)
              · intro ac done u W Sx hR
                have g : Gr w16 W := hR.1
                exact X.val (X.w0 rfl) rfl (X.pickF rfl (Sx.ev 66 (.bool false) (by kernel_rfl)) (X.kc (.bool false) rfl)) (hR.step (Gr.refl _) rfl)
              intro ac u w137 hs hd hl ho hR
              have g : Gr w16 w137 := hR.1
              replace F : Fr ac 204 [(0, .agg #[.slice (some pd133) tn tc, .slice ca cn cc]), (1, .int .i64 se), (2, .agg #[.slice a n c, .slice (some pd8) 1 lc]), (3, .pointer (some ⟨w.heap.size, 0, none⟩)), (5, .pointer (some ⟨w4.heap.size, 0, none⟩)), (6, .bool false), (7, .pointer (some ⟨w6.heap.size, 0, none⟩)), (8, .int .i64 (tagR se p.c p.v p.data)), (9, .int .i64 (AcceptE f se p.c p.v p.data (tagR se p.c p.v p.data))), (22, .bool false), (35, .bool false), (69, .bool false)] := X.fr hs hd hl _ (by kernel_rfl)
              clear hs hd hl ho hR
              replace G := G.trans g
              replace hC := hC.gr g
              replace GA := GA.trans g
              replace hf := hf.gr g
              replace hx := hx.gr g
              replace hP := hP.gr g
              replace ht := ht.gr g
              replace hO9 := hO9.gr g
              replace pi133 := pi133.gr g
              clear g
              refine X.thenN ?_
              refine Y.condF (F.ev 69 (.bool false) (by kernel_rfl)) ?_
              refine Y.skip ?_
              refine X.thenN ?_
              refine Y.seq ?_
              refine Y.seq ?_
              refine Y.lit (by kernel_rfl) ?_
              refine Y.pval F (X.w0 rfl) rfl (X.move rfl (F.ev 9 (.int .i64 (AcceptE f se p.c p.v p.data (tagR se p.c p.v p.data))) (by kernel_rfl))) ?_
              clear F ac
              intro ac F
              refine Y.pval F (X.w0 rfl) rfl (X.binop rfl (F.ev 70 (.int .i64 (AcceptE f se p.c p.v p.data (tagR se p.c p.v p.data))) (by kernel_rfl)) (X.kc (.int .i64 0) rfl) (X.neqI Try.underlying31 h19)) ?_
              clear F ac
              intro ac F
              refine Y.nil ?_
              replace F : Fr ac 204 [(0, .agg #[.slice (some pd133) tn tc, .slice ca cn cc]), (1, .int .i64 se), (2, .agg #[.slice a n c, .slice (some pd8) 1 lc]), (3, .pointer (some ⟨w.heap.size, 0, none⟩)), (5, .pointer (some ⟨w4.heap.size, 0, none⟩)), (6, .bool false), (7, .pointer (some ⟨w6.heap.size, 0, none⟩)), (8, .int .i64 (tagR se p.c p.v p.data)), (9, .int .i64 (AcceptE f se p.c p.v p.data (tagR se p.c p.v p.data))), (22, .bool false), (35, .bool false), (69, .bool false), (71, .bool true)] := F.sub _ (by kernel_rfl)
              refine X.thenN ?_
              refine Y.condT (F.ev 71 (.bool true) (by kernel_rfl)) ?_
              refine Y.seq ?_
              refine Y.lit (by kernel_rfl) ?_
              refine Y.pcall F (X.w0 rfl) rfl (X.enter (F := 16) rfl (X.kc (.func (.func 16) #[] #[]) rfl) rfl (enters_of Try.func16 (by kernel_rfl) rfl _)) (look_any w137) ?_
              clear F ac
              rintro e w139 ⟨rfl, g⟩
              refine ⟨_, rfl, ?_⟩
              intro ac F
              replace G := G.trans g
              replace hC := hC.gr g
              replace GA := GA.trans g
              replace hf := hf.gr g
              replace hx := hx.gr g
              replace hP := hP.gr g
              replace ht := ht.gr g
              replace hO9 := hO9.gr g
              replace pi133 := pi133.gr g
              clear g
              refine Y.pval F (X.w0 rfl) rfl (X.assign rfl (F.ev 72 (.bool true) (by kernel_rfl))) ?_
              clear F ac
              intro ac F
              refine Y.nil ?_
              replace F : Fr ac 204 [(0, .agg #[.slice (some pd133) tn tc, .slice ca cn cc]), (1, .int .i64 se), (2, .agg #[.slice a n c, .slice (some pd8) 1 lc]), (3, .pointer (some ⟨w.heap.size, 0, none⟩)), (5, .pointer (some ⟨w4.heap.size, 0, none⟩)), (6, .bool true), (7, .pointer (some ⟨w6.heap.size, 0, none⟩)), (8, .int .i64 (tagR se p.c p.v p.data)), (9, .int .i64 (AcceptE f se p.c p.v p.data (tagR se p.c p.v p.data))), (22, .bool false), (35, .bool false), (69, .bool false), (71, .bool true)] := F.sub _ (by kernel_rfl)
              refine X.thenN ?_
              refine Y.ret ?_
              refine X.thenR ?_
              exact Y.ret0 F (Y.rs1 F rfl (by kernel_rfl)) ⟨rfl, G⟩
            | true =>
              try rw [h135] at F
              have h135p : ((p.v : Int) ≤ rn133) := of_decide_eq_true h135
              refine Y.region F [some (.agg #[.slice (some pd133) tn tc, .slice ca cn cc]), some (.int .i64 (chkE f)), some (.bool true), some (.bool true), some (.pointer (some ⟨w6.heap.size, 0, none⟩)), some (.int .i64 p.c), some (.pointer (some ⟨w.heap.size, 0, none⟩)), some (.slice (some pd133) tn tc), some (.int .i64 tn), some (.bool true), some (.bool true), some (.bool true), some (.pointer (some ⟨w6.heap.size, 1, none⟩)), some (.int .i64 p.v), some (.pointer (some ⟨w.heap.size, 0, none⟩)), some (.slice (some pd133) tn tc), some (.pointer (some ⟨w6.heap.size, 0, none⟩)), some (.int .i64 p.c), some (.pointer (some (pd133.add p.c.toNat))), some (.slice pa133 rn133 pq133), some (.int .i64 rn133), some (.bool true), some (.bool true), some (.bool true), some (.int .i64 (AcceptE f se p.c p.v p.data (tagR se p.c p.v p.data))), some (.bool true), some (.bool true)] [] rfl ⟨by kernel_rfl, of_decide_eq_true (by kernel_rfl), by kernel_rfl, by kernel_rfl, by kernel_rfl⟩ ⟨?_, ?_, ?_, ?_, ?_, ?_, ?_, ?_, ?_, ?_, ?_, ?_, ?_, ?_, ?_, ?_, ?_, ?_, ?_, ?_, ?_, ?_, ?_, ?_, ?_, ?_, ?_, trivial⟩ ?_
              · intro ac done u W Sx hR
                have g : Gr w16 W := hR.1
                exact X.val (X.w0 rfl) rfl (X.load rfl (Sx.ev 3 (.pointer (some ⟨w.heap.size, 0, none⟩)) (by kernel_rfl)) (X.ldN (Try.agg25 _) (Try.siz25 _) (X.c2 ((hC.gr g).at 4 rfl) ((hC.gr g).at 5 rfl)))) (hR.step (Gr.refl _) rfl)
              · intro ac done u W Sx hR
                have g : Gr w16 W := hR.1
                refine X.call (X.w0 rfl) (X.enter (F := 37) rfl (X.kc (.func (.func 37) #[] #[]) rfl) (X.a1 (Sx.ev 43 (.agg #[.slice (some pd133) tn tc, .slice ca cn cc]) (by kernel_rfl))) (enters_of Try.func37 (by kernel_rfl) rfl _)) (check2_any (some pd133) ca tn tc cn cc f W (hf.gr g)) ?_
                rintro e W2 ⟨rfl, g2⟩
                exact ⟨_, rfl, X.kn rfl, hR.step g2 rfl⟩
              · intro ac done u W Sx hR
                have g : Gr w16 W := hR.1
                exact X.val (X.w0 rfl) rfl (X.binop rfl (Sx.ev 44 (.int .i64 (chkE f)) (by kernel_rfl)) (X.kc (.int .i64 0) rfl) (X.eqlI Try.underlying31 h121)) (hR.step (Gr.refl _) rfl)
              · intro ac done u W Sx hR
                have g : Gr w16 W := hR.1
                exact X.val (X.w0 rfl) rfl (X.move rfl (Sx.ev 45 (.bool true) (by kernel_rfl))) (hR.step (Gr.refl _) rfl)
              · intro ac done u W Sx hR
                have g : Gr w16 W := hR.1
                exact X.val (X.w1 rfl (Sx.yl 3 46 true (by kernel_rfl) rfl rfl)) rfl (X.field rfl (Sx.ev 7 (.pointer (some ⟨w6.heap.size, 0, none⟩)) (by kernel_rfl)) (X.fld Try.underlying46 rfl (Try.siz3 _) rfl rfl)) (hR.step (Gr.refl _) rfl)
              · intro ac done u W Sx hR
                have g : Gr w16 W := hR.1
                exact X.val (X.w1 rfl (Sx.yl 3 46 true (by kernel_rfl) rfl rfl)) rfl (X.load rfl (Sx.ev 47 (.pointer (some ⟨w6.heap.size, 0, none⟩)) (by kernel_rfl)) (X.ld1 (Try.agg3 _) ((hC.gr g).at 0 rfl))) (hR.step (Gr.refl _) rfl)
              · intro ac done u W Sx hR
                have g : Gr w16 W := hR.1
                exact X.val (X.w1 rfl (Sx.yl 3 46 true (by kernel_rfl) rfl rfl)) rfl (X.field rfl (Sx.ev 3 (.pointer (some ⟨w.heap.size, 0, none⟩)) (by kernel_rfl)) (X.fld Try.underlying25 rfl (Try.siz22 _) rfl rfl)) (hR.step (Gr.refl _) rfl)
              · intro ac done u W Sx hR
                have g : Gr w16 W := hR.1
                exact X.val (X.w1 rfl (Sx.yl 3 46 true (by kernel_rfl) rfl rfl)) rfl (X.load rfl (Sx.ev 49 (.pointer (some ⟨w.heap.size, 0, none⟩)) (by kernel_rfl)) (X.ld1 (Try.agg22 _) ((hC.gr g).at 4 rfl))) (hR.step (Gr.refl _) rfl)
              · intro ac done u W Sx hR
                have g : Gr w16 W := hR.1
                exact X.val (X.w1 rfl (Sx.yl 3 46 true (by kernel_rfl) rfl rfl)) rfl (X.len1 Try.underlying22 rfl (Sx.ev 50 (.slice (some pd133) tn tc) (by kernel_rfl))) (hR.step (Gr.refl _) rfl)
              · intro ac done u W Sx hR
                have g : Gr w16 W := hR.1
                exact X.val (X.w1 rfl (Sx.yl 3 46 true (by kernel_rfl) rfl rfl)) rfl (X.binop rfl (Sx.ev 48 (.int .i64 p.c) (by kernel_rfl)) (Sx.ev 51 (.int .i64 tn) (by kernel_rfl)) (X.lssI Try.underlying3 h127)) (hR.step (Gr.refl _) rfl)
              · intro ac done u W Sx hR
                have g : Gr w16 W := hR.1
                exact X.val (X.w0 rfl) rfl (X.pickT rfl (Sx.ev 46 (.bool true) (by kernel_rfl)) (Sx.ev 52 (.bool true) (by kernel_rfl))) (hR.step (Gr.refl _) rfl)
              · intro ac done u W Sx hR
                have g : Gr w16 W := hR.1
                exact X.val (X.w0 rfl) rfl (X.move rfl (Sx.ev 53 (.bool true) (by kernel_rfl))) (hR.step (Gr.refl _) rfl)
              · intro ac done u W Sx hR
                have g : Gr w16 W := hR.1
                exact X.val (X.w1 rfl (Sx.yl 11 54 true (by kernel_rfl) rfl rfl)) rfl (X.field rfl (Sx.ev 7 (.pointer (some ⟨w6.heap.size, 0, none⟩)) (by kernel_rfl)) (X.fld Try.underlying46 rfl (Try.siz3 _) rfl rfl)) (hR.step (Gr.refl _) rfl)
              · intro ac done u W Sx hR
                have g : Gr w16 W := hR.1
                exact X.val (X.w1 rfl (Sx.yl 11 54 true (by kernel_rfl) rfl rfl)) rfl (X.load rfl (Sx.ev 55 (.pointer (some ⟨w6.heap.size, 1, none⟩)) (by kernel_rfl)) (X.ld1 (Try.agg3 _) ((hC.gr g).at 1 rfl))) (hR.step (Gr.refl _) rfl)
              · intro ac done u W Sx hR
                have g : Gr w16 W := hR.1
                exact X.val (X.w1 rfl (Sx.yl 11 54 true (by kernel_rfl) rfl rfl)) rfl (X.field rfl (Sx.ev 3 (.pointer (some ⟨w.heap.size, 0, none⟩)) (by kernel_rfl)) (X.fld Try.underlying25 rfl (Try.siz22 _) rfl rfl)) (hR.step (Gr.refl _) rfl)
              · intro ac done u W Sx hR
                have g : Gr w16 W := hR.1
                exact X.val (X.w1 rfl (Sx.yl 11 54 true (by kernel_rfl) rfl rfl)) rfl (X.load rfl (Sx.ev 57 (.pointer (some ⟨w.heap.size, 0, none⟩)) (by kernel_rfl)) (X.ld1 (Try.agg22 _) ((hC.gr g).at 4 rfl))) (hR.step (Gr.refl _) rfl)
              · intro ac done u W Sx hR
                have g : Gr w16 W := hR.1
                exact X.val (X.w1 rfl (Sx.yl 11 54 true (by kernel_rfl) rfl rfl)) rfl (X.field rfl (Sx.ev 7 (.pointer (some ⟨w6.heap.size, 0, none⟩)) (by kernel_rfl)) (X.fld Try.underlying46 rfl (Try.siz3 _) rfl rfl)) (hR.step (Gr.refl _) rfl)
              · intro ac done u W Sx hR
                have g : Gr w16 W := hR.1
                exact X.val (X.w1 rfl (Sx.yl 11 54 true (by kernel_rfl) rfl rfl)) rfl (X.load rfl (Sx.ev 59 (.pointer (some ⟨w6.heap.size, 0, none⟩)) (by kernel_rfl)) (X.ld1 (Try.agg3 _) ((hC.gr g).at 0 rfl))) (hR.step (Gr.refl _) rfl)
              · intro ac done u W Sx hR
                have g : Gr w16 W := hR.1
                exact X.val (X.w1 rfl (Sx.yl 11 54 true (by kernel_rfl) rfl rfl)) rfl (X.index rfl (Sx.ev 58 (.slice (some pd133) tn tc) (by kernel_rfl)) (Sx.ev 60 (.int .i64 p.c) (by kernel_rfl)) (X.idx (k := p.c.toNat) Try.underlying22 (Try.siz26 _) (by omega) (by omega) (by rw [Nat.mul_one]))) (hR.step (Gr.refl _) rfl)
              · intro ac done u W Sx hR
                have g : Gr w16 W := hR.1
                exact X.val (X.w1 rfl (Sx.yl 11 54 true (by kernel_rfl) rfl rfl)) rfl (X.load rfl (Sx.ev 61 (.pointer (some (pd133.add p.c.toNat))) (by kernel_rfl)) (X.ld1 (Try.agg26 _) ((hC.gr g).at 12 rfl))) (hR.step (Gr.refl _) rfl)
              · intro ac done u W Sx hR
                have g : Gr w16 W := hR.1
                exact X.val (X.w1 rfl (Sx.yl 11 54 true (by kernel_rfl) rfl rfl)) rfl (X.len1 Try.underlying26 rfl (Sx.ev 62 (.slice pa133 rn133 pq133) (by kernel_rfl))) (hR.step (Gr.refl _) rfl)
              · intro ac done u W Sx hR
                have g : Gr w16 W := hR.1
                exact X.val (X.w1 rfl (Sx.yl 11 54 true (by kernel_rfl) rfl rfl)) rfl (X.binop rfl (Sx.ev 56 (.int .i64 p.v) (by kernel_rfl)) (Sx.ev 63 (.int .i64 rn133) (by kernel_rfl)) (X.leqI Try.underlying3 h135)) (hR.step (Gr.refl _) rfl)
              · intro ac done u W Sx hR
                have g : Gr w16 W := hR.1
                exact X.val (X.w0 rfl) rfl (X.pickT rfl (Sx.ev 54 (.bool true) (by kernel_rfl)) (Sx.ev 64 (.bool true) (by kernel_rfl))) (hR.step (Gr.refl _) rfl)
              · intro ac done u W Sx hR
                have g : Gr w16 W := hR.1
                exact X.val (X.w0 rfl) rfl (X.move rfl (Sx.ev 65 (.bool true) (by kernel_rfl))) (hR.step (Gr.refl _) rfl)
              · intro ac done u W Sx hR
                have g : Gr w16 W := hR.1
                exact X.val (X.w1 rfl (Sx.yl 23 66 true (by kernel_rfl) rfl rfl)) rfl (X.move rfl (Sx.ev 9 (.int .i64 (AcceptE f se p.c p.v p.data (tagR se p.c p.v p.data))) (by kernel_rfl))) (hR.step (Gr.refl _) rfl)
              · intro ac done u W Sx hR
                have g : Gr w16 W := hR.1
                exact X.val (X.w1 rfl (Sx.yl 23 66 true (by kernel_rfl) rfl rfl)) rfl (X.binop rfl (Sx.ev 67 (.int .i64 (AcceptE f se p.c p.v p.data (tagR se p.c p.v p.data))) (by kernel_rfl)) (X.kc (.int .i64 0) rfl) (X.neqI Try.underlying31 h19)) (hR.step (Gr.refl _) rfl)
              · intro ac done u W Sx hR
                have g : Gr w16 W := hR.1
                exact X.val (X.w0 rfl) rfl (X.pickT rfl (Sx.ev 66 (.bool true) (by kernel_rfl)) (Sx.ev 68 (.bool true) (by kernel_rfl))) (hR.step (Gr.refl _) rfl)
              intro ac u w141 hs hd hl ho hR
              have g : Gr w16 w141 := hR.1
              replace F : Fr ac 204 [(0, .agg #[.slice (some pd133) tn tc, .slice ca cn cc]), (1, .int .i64 se), (2, .agg #[.slice a n c, .slice (some pd8) 1 lc]), (3, .pointer (some ⟨w.heap.size, 0, none⟩)), (5, .pointer (some ⟨w4.heap.size, 0, none⟩)), (6, .bool false), (7, .pointer (some ⟨w6.heap.size, 0, none⟩)), (8, .int .i64 (tagR se p.c p.v p.data)), (9, .int .i64 (AcceptE f se p.c p.v p.data (tagR se p.c p.v p.data))), (22, .bool false), (35, .bool false), (69, .bool true)] := X.fr hs hd hl _ (by kernel_rfl)
              clear hs hd hl ho hR
              replace G := G.trans g
              replace hC := hC.gr g
              replace GA := GA.trans g
              replace hf := hf.gr g
              replace hx := hx.gr g
              replace hP := hP.gr g
              replace ht := ht.gr g
              replace hO9 := hO9.gr g
              replace pi133 := pi133.gr g
              clear g
              refine X.thenN ?_
              refine Y.condT (F.ev 69 (.bool true) (by kernel_rfl)) ?_
              refine Y.seq ?_
              refine Y.lit (by kernel_rfl) ?_
              refine Y.pval F (X.w0 rfl) rfl (X.assign rfl (X.kc (.bool false) rfl)) ?_
              clear F ac
              intro ac F
              refine Y.nil ?_
              replace F : Fr ac 204 [(0, .agg #[.slice (some pd133) tn tc, .slice ca cn cc]), (1, .int .i64 se), (2, .agg #[.slice a n c, .slice (some pd8) 1 lc]), (3, .pointer (some ⟨w.heap.size, 0, none⟩)), (5, .pointer (some ⟨w4.heap.size, 0, none⟩)), (6, .bool false), (7, .pointer (some ⟨w6.heap.size, 0, none⟩)), (8, .int .i64 (tagR se p.c p.v p.data)), (9, .int .i64 (AcceptE f se p.c p.v p.data (tagR se p.c p.v p.data))), (22, .bool false), (35, .bool false), (69, .bool true)] := F.sub _ (by kernel_rfl)
              refine X.thenN ?_
              refine Y.ret ?_
              refine X.thenR ?_
              exfalso
              have h0 := Accept_own (f := f) (s := se) hTE (by omega) (by have := hf.t.len; omega) (by have := pi133.len; omega)
              have h1 := h19
              rw [h0] at h1
              cases h1
    | true =>
      try rw [h14] at F
      have h14p : ¬ (tagE se p.c p.v p.data : Int) = 0 := by simpa using h14
      refine Y.condT (F.ev 35 (.bool true) (by kernel_rfl)) ?_
      refine Y.seq ?_
      refine Y.lit (by kernel_rfl) ?_
      refine Y.pcall F (X.w0 rfl) rfl (X.enter (F := 16) rfl (X.kc (.func (.func 16) #[] #[]) rfl) rfl (enters_of Try.func16 (by kernel_rfl) rfl _)) (look_any w13) ?_
      clear F ac
      rintro e w143 ⟨rfl, g⟩
      refine ⟨_, rfl, ?_⟩
      intro ac F
      replace G := G.trans g
      replace hC := hC.gr g
      replace GA := GA.trans g
      replace hf := hf.gr g
      replace hx := hx.gr g
      replace hP := hP.gr g
      replace ht := ht.gr g
      replace hO9 := hO9.gr g
      clear g
      refine Y.pval F (X.w0 rfl) rfl (X.assign rfl (F.ev 36 (.bool true) (by kernel_rfl))) ?_
      clear F ac
      intro ac F
      refine Y.nil ?_
      replace F : Fr ac 204 [(0, .agg #[.slice ta tn tc, .slice ca cn cc]), (1, .int .i64 se), (2, .agg #[.slice a n c, .slice (some pd8) 1 lc]), (3, .pointer (some ⟨w.heap.size, 0, none⟩)), (5, .pointer (some ⟨w4.heap.size, 0, none⟩)), (6, .bool true), (7, .pointer (some ⟨w6.heap.size, 0, none⟩)), (8, .int .i64 (tagR se p.c p.v p.data)), (9, .int .i64 (tagE se p.c p.v p.data)), (22, .bool false), (35, .bool true)] := F.sub _ (by kernel_rfl)
      refine X.thenN ?_
      refine Y.ret ?_
      refine X.thenR ?_
      exact Y.ret0 F (Y.rs1 F rfl (by kernel_rfl)) ⟨rfl, G⟩
  | true =>
    try rw [h7] at F
    have h7p : ¬ (ln : Int) = 1 := by simpa using h7
    refine Y.condT (F.ev 22 (.bool true) (by kernel_rfl)) ?_
    refine Y.seq ?_
    refine Y.lit (by kernel_rfl) ?_
    refine Y.pcall F (X.w0 rfl) rfl (X.enter (F := 16) rfl (X.kc (.func (.func 16) #[] #[]) rfl) rfl (enters_of Try.func16 (by kernel_rfl) rfl _)) (look_any w6) ?_
    clear F ac
    rintro e w145 ⟨rfl, g⟩
    refine ⟨_, rfl, ?_⟩
    intro ac F
    replace G := G.trans g
    replace hC := hC.gr g
    replace GA := GA.trans g
    replace hf := hf.gr g
    replace hx := hx.gr g
    replace hP := hP.gr g
    replace ht := ht.gr g
    clear g
    refine Y.pval F (X.w0 rfl) rfl (X.assign rfl (F.ev 23 (.bool true) (by kernel_rfl))) ?_
    clear F ac
    intro ac F
    refine Y.nil ?_
    replace F : Fr ac 204 [(0, .agg #[.slice ta tn tc, .slice ca cn cc]), (1, .int .i64 se), (2, .agg #[.slice a n c, .slice pa ln lc]), (3, .pointer (some ⟨w.heap.size, 0, none⟩)), (5, .pointer (some ⟨w4.heap.size, 0, none⟩)), (6, .bool true), (22, .bool true)] := F.sub _ (by kernel_rfl)
    refine X.thenN ?_
    refine Y.ret ?_
    refine X.thenR ?_
    exact Y.ret0 F (Y.rs1 F rfl (by kernel_rfl)) ⟨rfl, G⟩
end Go.Proofs.Ytlilojpnhmfnaaa
