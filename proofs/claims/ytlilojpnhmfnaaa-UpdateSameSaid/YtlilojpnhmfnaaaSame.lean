/- Contract: UpdateSame returns true. -/
import Derived.Test.YtlilojpnhmfnaaaBd12
import Derived.Test.YtlilojpnhmfnaaaBd6
import Derived.Test.YtlilojpnhmfnaaaBd5
import Derived.Lib.MinMax
namespace Go.Proofs.Ytlilojpnhmfnaaa
open Go.RowKit

theorem Y.min2 {P : Program} {W : World} {ρ : Operand → Value} {o : Oper} {x y : Operand} {ats : Array TypeId} {p q : Int} (ho : o.op = .call { callee := .builtin .min, args := #[x, y], argTypes := ats }) (hx : ρ x = .int .i64 p) (hy : ρ y = .int .i64 q) : (execOp ρ o).run P W = .ok (.value (.int .i64 (min p q))) W := by
  have h := Go.Lib.run_min_ints (P := P) W ats o.type .i64 .i64 p q
  unfold execOp
  simp only [ho, resolve, invoke, builtin, Sem.run_bind, Sem.run_pure, Result.andThen_ok, List.map_toArray, List.map_cons, List.map_nil, hx, hy, h]
theorem Y.max2 {P : Program} {W : World} {ρ : Operand → Value} {o : Oper} {x y : Operand} {ats : Array TypeId} {p q : Int} (ho : o.op = .call { callee := .builtin .max, args := #[x, y], argTypes := ats }) (hx : ρ x = .int .i64 p) (hy : ρ y = .int .i64 q) : (execOp ρ o).run P W = .ok (.value (.int .i64 (max p q))) W := by
  have h := Go.Lib.run_max_ints (P := P) W ats o.type .i64 .i64 p q
  unfold execOp
  simp only [ho, resolve, invoke, builtin, Sem.run_bind, Sem.run_pure, Result.andThen_ok, List.map_toArray, List.map_cons, List.map_nil, hx, hy, h]

set_option maxRecDepth 100000 in
set_option maxHeartbeats 4000000 in
theorem sameLaw_any (ta ca a b_ ja jb jc : Option Addr) (tn tc cn cc n c m d j1 j2 j3 j4 j5 j6 : Nat) (f : Fl) (fs ys : List Int) (bu dn : Int) (w : World) (hf : FlAt w ta tn ca cn f) (hx : Ints w a n fs) (hy : Ints w b_ m ys) :
    Calls Try.prog 13 #[.agg #[.slice ta tn tc, .slice ca cn cc], .agg #[.slice a n c, .slice b_ m d], .agg #[.slice ja j1 j2, .slice jb j3 j4, .int .i64 bu, .int .i64 dn, .slice jc j5 j6]] w fun e w' => e = .returned (.bool true) ∧ Gr w w' := by
  have G := Gr.refl w
  refine Y.calls 146 Try.func13 rfl rfl ?_
  intro ac F0
  have F : Fr ac 146 [(0, .agg #[.slice ta tn tc, .slice ca cn cc]), (1, .agg #[.slice a n c, .slice b_ m d]), (2, .agg #[.slice ja j1 j2, .slice jb j3 j4, .int .i64 bu, .int .i64 dn, .slice jc j5 j6])] := F0.sub _ (by kernel_rfl)
  clear F0
  refine Y.seq ?_
  refine Y.lit (by kernel_rfl) ?_
  refine Y.pval F (X.w0 rfl) rfl (X.box rfl (F.ev 0 (.agg #[.slice ta tn tc, .slice ca cn cc]) (by kernel_rfl)) X.bx) ?_
  clear F ac
  intro ac F
  have g := Gr.alloc w (.cells #[.slice ta tn tc, .slice ca cn cc] 25)
  have hb := heap_alloc_new w (.cells #[.slice ta tn tc, .slice ca cn cc] 25)
  have hbl : w.heap.size < (w.alloc (.cells #[.slice ta tn tc, .slice ca cn cc] 25)).heap.size := by simp
  have hC2 : RCells (w.alloc (.cells #[.slice ta tn tc, .slice ca cn cc] 25)) [(⟨w.heap.size, 0, none⟩, .slice ta tn tc), (⟨w.heap.size, 1, none⟩, .slice ca cn cc)] := (RCells.nil w).box (b := w.heap.size) #[.slice ta tn tc, .slice ca cn cc] 25 rfl
  generalize w.alloc (.cells #[.slice ta tn tc, .slice ca cn cc] 25) = w3 at *
  replace G := G.trans g
  have hC := hC2
  clear hC2
  replace hf := hf.gr g
  replace hx := hx.gr g
  replace hy := hy.gr g
  clear g hb hbl
  refine Y.pval F (X.w0 rfl) rfl (X.box rfl (F.ev 1 (.agg #[.slice a n c, .slice b_ m d]) (by kernel_rfl)) X.bx) ?_
  clear F ac
  intro ac F
  have g := Gr.alloc w3 (.cells #[.slice a n c, .slice b_ m d] 28)
  have hb := heap_alloc_new w3 (.cells #[.slice a n c, .slice b_ m d] 28)
  have hbl : w3.heap.size < (w3.alloc (.cells #[.slice a n c, .slice b_ m d] 28)).heap.size := by simp
  have hC2 : RCells (w3.alloc (.cells #[.slice a n c, .slice b_ m d] 28)) [(⟨w.heap.size, 0, none⟩, .slice ta tn tc), (⟨w.heap.size, 1, none⟩, .slice ca cn cc), (⟨w3.heap.size, 0, none⟩, .slice a n c), (⟨w3.heap.size, 1, none⟩, .slice b_ m d)] := hC.box (b := w3.heap.size) #[.slice a n c, .slice b_ m d] 28 rfl
  generalize w3.alloc (.cells #[.slice a n c, .slice b_ m d] 28) = w4 at *
  replace G := G.trans g
  replace hC := hC2
  clear hC2
  replace hf := hf.gr g
  replace hx := hx.gr g
  replace hy := hy.gr g
  clear g hb hbl
  refine Y.pval F (X.w0 rfl) rfl (X.box rfl (F.ev 2 (.agg #[.slice ja j1 j2, .slice jb j3 j4, .int .i64 bu, .int .i64 dn, .slice jc j5 j6]) (by kernel_rfl)) X.bx) ?_
  clear F ac
  intro ac F
  have g := Gr.alloc w4 (.cells #[.slice ja j1 j2, .slice jb j3 j4, .int .i64 bu, .int .i64 dn, .slice jc j5 j6] 41)
  have hb := heap_alloc_new w4 (.cells #[.slice ja j1 j2, .slice jb j3 j4, .int .i64 bu, .int .i64 dn, .slice jc j5 j6] 41)
  have hbl : w4.heap.size < (w4.alloc (.cells #[.slice ja j1 j2, .slice jb j3 j4, .int .i64 bu, .int .i64 dn, .slice jc j5 j6] 41)).heap.size := by simp
  have hC2 : RCells (w4.alloc (.cells #[.slice ja j1 j2, .slice jb j3 j4, .int .i64 bu, .int .i64 dn, .slice jc j5 j6] 41)) [(⟨w.heap.size, 0, none⟩, .slice ta tn tc), (⟨w.heap.size, 1, none⟩, .slice ca cn cc), (⟨w3.heap.size, 0, none⟩, .slice a n c), (⟨w3.heap.size, 1, none⟩, .slice b_ m d), (⟨w4.heap.size, 0, none⟩, .slice ja j1 j2), (⟨w4.heap.size, 1, none⟩, .slice jb j3 j4), (⟨w4.heap.size, 2, none⟩, .int .i64 bu), (⟨w4.heap.size, 3, none⟩, .int .i64 dn), (⟨w4.heap.size, 4, none⟩, .slice jc j5 j6)] := hC.box (b := w4.heap.size) #[.slice ja j1 j2, .slice jb j3 j4, .int .i64 bu, .int .i64 dn, .slice jc j5 j6] 41 rfl
  generalize w4.alloc (.cells #[.slice ja j1 j2, .slice jb j3 j4, .int .i64 bu, .int .i64 dn, .slice jc j5 j6] 41) = w5 at *
  replace G := G.trans g
  replace hC := hC2
  clear hC2
  replace hf := hf.gr g
  replace hx := hx.gr g
  replace hy := hy.gr g
  clear g hb hbl
  refine Y.pval F (X.w0 rfl) rfl (X.assign rfl (X.kc (.bool false) rfl)) ?_
  clear F ac
  intro ac F
  refine Y.nil ?_
  replace F : Fr ac 146 [(0, .agg #[.slice ta tn tc, .slice ca cn cc]), (1, .agg #[.slice a n c, .slice b_ m d]), (2, .agg #[.slice ja j1 j2, .slice jb j3 j4, .int .i64 bu, .int .i64 dn, .slice jc j5 j6]), (3, .pointer (some ⟨w.heap.size, 0, none⟩)), (4, .pointer (some ⟨w3.heap.size, 0, none⟩)), (5, .pointer (some ⟨w4.heap.size, 0, none⟩)), (6, .bool false)] := F.sub _ (by kernel_rfl)
  refine X.thenN ?_
  refine Y.seq ?_
  refine Y.seq ?_
  refine Y.lit (by kernel_rfl) ?_
  refine Y.pval F (X.w0 rfl) rfl (X.load rfl (F.ev 3 (.pointer (some ⟨w.heap.size, 0, none⟩)) (by kernel_rfl)) (X.ldN (Try.agg25 _) (Try.siz25 _) (X.c2 (hC.at 0 rfl) (hC.at 1 rfl)))) ?_
  clear F ac
  intro ac F
  refine Y.pcall F (X.w0 rfl) rfl (X.enter (F := 15) rfl (X.kc (.func (.func 15) #[] #[]) rfl) (X.a1 (F.ev 18 (.agg #[.slice ta tn tc, .slice ca cn cc]) (by kernel_rfl))) (enters_of Try.func15 (by kernel_rfl) rfl _)) (large_any ta ca tn tc cn cc f w5 hf) ?_
  clear F ac
  rintro e w7 ⟨rfl, g⟩
  refine ⟨_, rfl, ?_⟩
  intro ac F
  replace G := G.trans g
  replace hC := hC.gr g
  replace hf := hf.gr g
  replace hx := hx.gr g
  replace hy := hy.gr g
  clear g
  refine Y.nil ?_
  replace F : Fr ac 146 [(0, .agg #[.slice ta tn tc, .slice ca cn cc]), (1, .agg #[.slice a n c, .slice b_ m d]), (2, .agg #[.slice ja j1 j2, .slice jb j3 j4, .int .i64 bu, .int .i64 dn, .slice jc j5 j6]), (3, .pointer (some ⟨w.heap.size, 0, none⟩)), (4, .pointer (some ⟨w3.heap.size, 0, none⟩)), (5, .pointer (some ⟨w4.heap.size, 0, none⟩)), (6, .bool false), (19, .bool (largeB f.times))] := F.sub _ (by kernel_rfl)
  refine X.thenN ?_
  cases h8 : largeB f.times with
  | false =>
    try rw [h8] at F
    refine Y.condF (F.ev 19 (.bool false) (by kernel_rfl)) ?_
    refine Y.skip ?_
    refine X.thenN ?_
    refine Y.seq ?_
    refine Y.lit (by kernel_rfl) ?_
    refine Y.pval F (X.w0 rfl) rfl (X.load rfl (F.ev 3 (.pointer (some ⟨w.heap.size, 0, none⟩)) (by kernel_rfl)) (X.ldN (Try.agg25 _) (Try.siz25 _) (X.c2 (hC.at 0 rfl) (hC.at 1 rfl)))) ?_
    clear F ac
    intro ac F
    refine Y.pval F (X.w0 rfl) rfl (X.field rfl (F.ev 4 (.pointer (some ⟨w3.heap.size, 0, none⟩)) (by kernel_rfl)) (X.fld Try.underlying28 rfl (Try.siz26 _) rfl rfl)) ?_
    clear F ac
    intro ac F
    refine Y.pval F (X.w0 rfl) rfl (X.load rfl (F.ev 23 (.pointer (some ⟨w3.heap.size, 0, none⟩)) (by kernel_rfl)) (X.ld1 (Try.agg26 _) (hC.at 2 rfl))) ?_
    clear F ac
    intro ac F
    refine Y.pval F (X.w0 rfl) rfl (X.field rfl (F.ev 5 (.pointer (some ⟨w4.heap.size, 0, none⟩)) (by kernel_rfl)) (X.fld Try.underlying41 rfl (Try.siz3 _) rfl rfl)) ?_
    clear F ac
    intro ac F
    refine Y.pval F (X.w0 rfl) rfl (X.load rfl (F.ev 25 (.pointer (some ⟨w4.heap.size, 2, none⟩)) (by kernel_rfl)) (X.ld1 (Try.agg3 _) (hC.at 6 rfl))) ?_
    clear F ac
    intro ac F
    refine Y.pcall F (X.w0 rfl) rfl (X.enter (F := 44) rfl (X.kc (.func (.func 44) #[] #[]) rfl) (X.a3 (F.ev 22 (.agg #[.slice ta tn tc, .slice ca cn cc]) (by kernel_rfl)) (F.ev 24 (.slice a n c) (by kernel_rfl)) (F.ev 26 (.int .i64 bu) (by kernel_rfl))) (enters_of Try.func44 (by kernel_rfl) rfl _)) (reach_any ta ca tn tc cn cc f a n c fs bu w7 hf hx) ?_
    clear F ac
    rintro e w11 ⟨ra10, rn10, rc10, rfl, hR10, g⟩
    have hlR10 := hR10.len
    have hltR10 := hR10.lt
    refine ⟨_, rfl, ?_⟩
    intro ac F
    replace G := G.trans g
    replace hC := hC.gr g
    replace hf := hf.gr g
    replace hx := hx.gr g
    replace hy := hy.gr g
    clear g
    refine Y.pval F (X.w0 rfl) rfl (X.move rfl (F.ev 27 (.tuple #[.slice ra10 rn10 rc10, .int .i64 (reachE f fs bu)]) (by kernel_rfl))) ?_
    clear F ac
    intro ac F
    refine Y.pval F (X.w0 rfl) rfl (X.extract rfl (F.ev 21 (.tuple #[.slice ra10 rn10 rc10, .int .i64 (reachE f fs bu)]) (by kernel_rfl)) rfl) ?_
    clear F ac
    intro ac F
    refine Y.pval F (X.w0 rfl) rfl (X.extract rfl (F.ev 21 (.tuple #[.slice ra10 rn10 rc10, .int .i64 (reachE f fs bu)]) (by kernel_rfl)) rfl) ?_
    clear F ac
    intro ac F
    refine Y.pval F (X.w0 rfl) rfl (X.assign rfl (F.ev 28 (.slice ra10 rn10 rc10) (by kernel_rfl))) ?_
    clear F ac
    intro ac F
    refine Y.pval F (X.w0 rfl) rfl (X.assign rfl (F.ev 29 (.int .i64 (reachE f fs bu)) (by kernel_rfl))) ?_
    clear F ac
    intro ac F
    refine Y.nil ?_
    replace F : Fr ac 146 [(0, .agg #[.slice ta tn tc, .slice ca cn cc]), (1, .agg #[.slice a n c, .slice b_ m d]), (2, .agg #[.slice ja j1 j2, .slice jb j3 j4, .int .i64 bu, .int .i64 dn, .slice jc j5 j6]), (3, .pointer (some ⟨w.heap.size, 0, none⟩)), (4, .pointer (some ⟨w3.heap.size, 0, none⟩)), (5, .pointer (some ⟨w4.heap.size, 0, none⟩)), (6, .bool false), (7, .slice ra10 rn10 rc10), (8, .int .i64 (reachE f fs bu)), (19, .bool false)] := F.sub _ (by kernel_rfl)
    refine X.thenN ?_
    refine Y.seq ?_
    refine Y.seq ?_
    refine Y.lit (by kernel_rfl) ?_
    refine Y.pval F (X.w0 rfl) rfl (X.move rfl (F.ev 8 (.int .i64 (reachE f fs bu)) (by kernel_rfl))) ?_
    clear F ac
    intro ac F
    refine Y.pval F (X.w0 rfl) rfl (X.binop rfl (F.ev 30 (.int .i64 (reachE f fs bu)) (by kernel_rfl)) (X.kc (.int .i64 0) rfl) (X.neqI Try.underlying31 rfl)) ?_
    clear F ac
    intro ac F
    refine Y.nil ?_
    replace F : Fr ac 146 [(0, .agg #[.slice ta tn tc, .slice ca cn cc]), (1, .agg #[.slice a n c, .slice b_ m d]), (2, .agg #[.slice ja j1 j2, .slice jb j3 j4, .int .i64 bu, .int .i64 dn, .slice jc j5 j6]), (3, .pointer (some ⟨w.heap.size, 0, none⟩)), (4, .pointer (some ⟨w3.heap.size, 0, none⟩)), (5, .pointer (some ⟨w4.heap.size, 0, none⟩)), (6, .bool false), (7, .slice ra10 rn10 rc10), (8, .int .i64 (reachE f fs bu)), (19, .bool false), (31, .bool ((reachE f fs bu : Int) != 0))] := F.sub _ (by kernel_rfl)
    refine X.thenN ?_
    cases h12 : ((reachE f fs bu : Int) != 0) with
    | false =>
      try rw [h12] at F
      have h12p : (reachE f fs bu : Int) = 0 := by simpa using h12
      have hE0 : reachE f fs bu = 0 := h12p
      obtain ⟨hok, hs, hwx, hbu0, hbu1, hRe⟩ := reachE_ok hE0
      refine Y.condF (F.ev 31 (.bool false) (by kernel_rfl)) ?_
      refine Y.skip ?_
      refine X.thenN ?_
      refine Y.seq ?_
      refine Y.lit (by kernel_rfl) ?_
      refine Y.pval F (X.w0 rfl) rfl (X.field rfl (F.ev 5 (.pointer (some ⟨w4.heap.size, 0, none⟩)) (by kernel_rfl)) (X.fld Try.underlying41 rfl (Try.siz3 _) rfl rfl)) ?_
      clear F ac
      intro ac F
      refine Y.pval F (X.w0 rfl) rfl (X.load rfl (F.ev 33 (.pointer (some ⟨w4.heap.size, 2, none⟩)) (by kernel_rfl)) (X.ld1 (Try.agg3 _) (hC.at 6 rfl))) ?_
      clear F ac
      intro ac F
      refine Y.pval F (X.w0 rfl) rfl (X.field rfl (F.ev 5 (.pointer (some ⟨w4.heap.size, 0, none⟩)) (by kernel_rfl)) (X.fld Try.underlying41 rfl (Try.siz3 _) rfl rfl)) ?_
      clear F ac
      intro ac F
      refine Y.pval F (X.w0 rfl) rfl (X.load rfl (F.ev 35 (.pointer (some ⟨w4.heap.size, 3, none⟩)) (by kernel_rfl)) (X.ld1 (Try.agg3 _) (hC.at 7 rfl))) ?_
      clear F ac
      intro ac F
      refine Y.pval F (X.w0 rfl) rfl (Y.min2 rfl (F.ev 36 (.int .i64 dn) (by kernel_rfl)) (X.kc (.int .i64 1000) rfl)) ?_
      clear F ac
      intro ac F
      refine Y.pval F (X.w0 rfl) rfl (Y.max2 rfl (X.kc (.int .i64 0) rfl) (F.ev 37 (.int .i64 (min (dn : Int) (1000 : Int))) (by kernel_rfl))) ?_
      clear F ac
      intro ac F
      refine Y.pval F (X.w0 rfl) rfl (X.binop rfl (F.ev 34 (.int .i64 bu) (by kernel_rfl)) (F.ev 38 (.int .i64 (max (0 : Int) ((min (dn : Int) (1000 : Int)) : Int))) (by kernel_rfl)) (X.addI Try.underlying3 rfl (by omega) (by omega))) ?_
      clear F ac
      intro ac F
      refine Y.pval F (X.w0 rfl) rfl (Y.min2 rfl (X.kc (.int .i64 1000000) rfl) (F.ev 39 (.int .i64 ((bu : Int) + (max (0 : Int) ((min (dn : Int) (1000 : Int)) : Int)))) (by kernel_rfl))) ?_
      clear F ac
      intro ac F
      refine Y.pval F (X.w0 rfl) rfl (X.assign rfl (F.ev 40 (.int .i64 (min (1000000 : Int) ((bu : Int) + (max (0 : Int) ((min (dn : Int) (1000 : Int)) : Int)) : Int))) (by kernel_rfl))) ?_
      clear F ac
      intro ac F
      refine Y.nil ?_
      replace F : Fr ac 146 [(0, .agg #[.slice ta tn tc, .slice ca cn cc]), (1, .agg #[.slice a n c, .slice b_ m d]), (2, .agg #[.slice ja j1 j2, .slice jb j3 j4, .int .i64 bu, .int .i64 dn, .slice jc j5 j6]), (3, .pointer (some ⟨w.heap.size, 0, none⟩)), (4, .pointer (some ⟨w3.heap.size, 0, none⟩)), (5, .pointer (some ⟨w4.heap.size, 0, none⟩)), (6, .bool false), (7, .slice ra10 rn10 rc10), (8, .int .i64 (reachE f fs bu)), (9, .int .i64 (min (1000000 : Int) ((bu : Int) + (max (0 : Int) ((min (dn : Int) (1000 : Int)) : Int)) : Int))), (19, .bool false), (31, .bool false)] := F.sub _ (by kernel_rfl)
      refine X.thenN ?_
      refine Y.seq ?_
      refine Y.lit (by kernel_rfl) ?_
      refine Y.pval F (X.w0 rfl) rfl (X.load rfl (F.ev 3 (.pointer (some ⟨w.heap.size, 0, none⟩)) (by kernel_rfl)) (X.ldN (Try.agg25 _) (Try.siz25 _) (X.c2 (hC.at 0 rfl) (hC.at 1 rfl)))) ?_
      clear F ac
      intro ac F
      refine Y.pval F (X.w0 rfl) rfl (X.field rfl (F.ev 4 (.pointer (some ⟨w3.heap.size, 0, none⟩)) (by kernel_rfl)) (X.fld Try.underlying28 rfl (Try.siz26 _) rfl rfl)) ?_
      clear F ac
      intro ac F
      refine Y.pval F (X.w0 rfl) rfl (X.load rfl (F.ev 43 (.pointer (some ⟨w3.heap.size, 0, none⟩)) (by kernel_rfl)) (X.ld1 (Try.agg26 _) (hC.at 2 rfl))) ?_
      clear F ac
      intro ac F
      refine Y.pval F (X.w0 rfl) rfl (X.move rfl (F.ev 9 (.int .i64 (min (1000000 : Int) ((bu : Int) + (max (0 : Int) ((min (dn : Int) (1000 : Int)) : Int)) : Int))) (by kernel_rfl))) ?_
      clear F ac
      intro ac F
      refine Y.pcall F (X.w0 rfl) rfl (X.enter (F := 44) rfl (X.kc (.func (.func 44) #[] #[]) rfl) (X.a3 (F.ev 42 (.agg #[.slice ta tn tc, .slice ca cn cc]) (by kernel_rfl)) (F.ev 44 (.slice a n c) (by kernel_rfl)) (F.ev 45 (.int .i64 (min (1000000 : Int) ((bu : Int) + (max (0 : Int) ((min (dn : Int) (1000 : Int)) : Int)) : Int))) (by kernel_rfl))) (enters_of Try.func44 (by kernel_rfl) rfl _)) (reach_any ta ca tn tc cn cc f a n c fs (min (1000000 : Int) ((bu : Int) + (max (0 : Int) ((min (dn : Int) (1000 : Int)) : Int)) : Int)) w11 hf hx) ?_
      clear F ac
      rintro e w15 ⟨ra14, rn14, rc14, rfl, hR14, g⟩
      have hlR14 := hR14.len
      have hltR14 := hR14.lt
      refine ⟨_, rfl, ?_⟩
      intro ac F
      replace G := G.trans g
      replace hC := hC.gr g
      replace hf := hf.gr g
      replace hx := hx.gr g
      replace hy := hy.gr g
      replace hR10 := hR10.gr g
      clear g
      refine Y.pval F (X.w0 rfl) rfl (X.move rfl (F.ev 46 (.tuple #[.slice ra14 rn14 rc14, .int .i64 (reachE f fs (min (1000000 : Int) ((bu : Int) + (max (0 : Int) ((min (dn : Int) (1000 : Int)) : Int)) : Int)))]) (by kernel_rfl))) ?_
      clear F ac
      intro ac F
      refine Y.pval F (X.w0 rfl) rfl (X.extract rfl (F.ev 41 (.tuple #[.slice ra14 rn14 rc14, .int .i64 (reachE f fs (min (1000000 : Int) ((bu : Int) + (max (0 : Int) ((min (dn : Int) (1000 : Int)) : Int)) : Int)))]) (by kernel_rfl)) rfl) ?_
      clear F ac
      intro ac F
      refine Y.pval F (X.w0 rfl) rfl (X.extract rfl (F.ev 41 (.tuple #[.slice ra14 rn14 rc14, .int .i64 (reachE f fs (min (1000000 : Int) ((bu : Int) + (max (0 : Int) ((min (dn : Int) (1000 : Int)) : Int)) : Int)))]) (by kernel_rfl)) rfl) ?_
      clear F ac
      intro ac F
      refine Y.pval F (X.w0 rfl) rfl (X.assign rfl (F.ev 47 (.slice ra14 rn14 rc14) (by kernel_rfl))) ?_
      clear F ac
      intro ac F
      refine Y.pval F (X.w0 rfl) rfl (X.assign rfl (F.ev 48 (.int .i64 (reachE f fs (min (1000000 : Int) ((bu : Int) + (max (0 : Int) ((min (dn : Int) (1000 : Int)) : Int)) : Int)))) (by kernel_rfl))) ?_
      clear F ac
      intro ac F
      refine Y.nil ?_
      replace F : Fr ac 146 [(0, .agg #[.slice ta tn tc, .slice ca cn cc]), (1, .agg #[.slice a n c, .slice b_ m d]), (2, .agg #[.slice ja j1 j2, .slice jb j3 j4, .int .i64 bu, .int .i64 dn, .slice jc j5 j6]), (3, .pointer (some ⟨w.heap.size, 0, none⟩)), (4, .pointer (some ⟨w3.heap.size, 0, none⟩)), (5, .pointer (some ⟨w4.heap.size, 0, none⟩)), (6, .bool false), (7, .slice ra10 rn10 rc10), (8, .int .i64 (reachE f fs (min (1000000 : Int) ((bu : Int) + (max (0 : Int) ((min (dn : Int) (1000 : Int)) : Int)) : Int)))), (9, .int .i64 (min (1000000 : Int) ((bu : Int) + (max (0 : Int) ((min (dn : Int) (1000 : Int)) : Int)) : Int))), (10, .slice ra14 rn14 rc14), (19, .bool false), (31, .bool false)] := F.sub _ (by kernel_rfl)
      refine X.thenN ?_
      refine Y.seq ?_
      refine Y.seq ?_
      refine Y.lit (by kernel_rfl) ?_
      refine Y.pval F (X.w0 rfl) rfl (X.move rfl (F.ev 8 (.int .i64 (reachE f fs (min (1000000 : Int) ((bu : Int) + (max (0 : Int) ((min (dn : Int) (1000 : Int)) : Int)) : Int)))) (by kernel_rfl))) ?_
      clear F ac
      intro ac F
      refine Y.pval F (X.w0 rfl) rfl (X.binop rfl (F.ev 49 (.int .i64 (reachE f fs (min (1000000 : Int) ((bu : Int) + (max (0 : Int) ((min (dn : Int) (1000 : Int)) : Int)) : Int)))) (by kernel_rfl)) (X.kc (.int .i64 0) rfl) (X.neqI Try.underlying31 rfl)) ?_
      clear F ac
      intro ac F
      refine Y.nil ?_
      replace F : Fr ac 146 [(0, .agg #[.slice ta tn tc, .slice ca cn cc]), (1, .agg #[.slice a n c, .slice b_ m d]), (2, .agg #[.slice ja j1 j2, .slice jb j3 j4, .int .i64 bu, .int .i64 dn, .slice jc j5 j6]), (3, .pointer (some ⟨w.heap.size, 0, none⟩)), (4, .pointer (some ⟨w3.heap.size, 0, none⟩)), (5, .pointer (some ⟨w4.heap.size, 0, none⟩)), (6, .bool false), (7, .slice ra10 rn10 rc10), (8, .int .i64 (reachE f fs (min (1000000 : Int) ((bu : Int) + (max (0 : Int) ((min (dn : Int) (1000 : Int)) : Int)) : Int)))), (9, .int .i64 (min (1000000 : Int) ((bu : Int) + (max (0 : Int) ((min (dn : Int) (1000 : Int)) : Int)) : Int))), (10, .slice ra14 rn14 rc14), (19, .bool false), (31, .bool false), (50, .bool ((reachE f fs (min (1000000 : Int) ((bu : Int) + (max (0 : Int) ((min (dn : Int) (1000 : Int)) : Int)) : Int)) : Int) != 0))] := F.sub _ (by kernel_rfl)
      refine X.thenN ?_
      have hmo : bu ≤ (min (1000000 : Int) ((bu : Int) + (max (0 : Int) ((min (dn : Int) (1000 : Int)) : Int)) : Int)) ∧ (min (1000000 : Int) ((bu : Int) + (max (0 : Int) ((min (dn : Int) (1000 : Int)) : Int)) : Int)) ≤ 1000000 := by omega
      have hE1 := reachE_more hE0 hmo.1 hmo.2
      have hSub : (reachR f fs bu).Sublist (reachR f fs (min (1000000 : Int) ((bu : Int) + (max (0 : Int) ((min (dn : Int) (1000 : Int)) : Int)) : Int))) := by rw [hRe, (reachE_ok hE1).2.2.2.2.2]; exact reach_sub hok hok hs rfl (fun _ h => h) hmo.1
      have h17 : ((reachE f fs (min (1000000 : Int) ((bu : Int) + (max (0 : Int) ((min (dn : Int) (1000 : Int)) : Int)) : Int)) : Int) != 0) = false := by rw [hE1]; rfl
      try rw [h17] at F
      refine Y.condF (F.ev 50 (.bool false) (by kernel_rfl)) ?_
      refine Y.skip ?_
      refine X.thenN ?_
      refine Y.seq ?_
      refine Y.lit (by kernel_rfl) ?_
      refine Y.pval F (X.w0 rfl) rfl (X.assign rfl (X.kc (.int .i64 0) rfl)) ?_
      clear F ac
      intro ac F
      refine Y.nil ?_
      replace F : Fr ac 146 [(0, .agg #[.slice ta tn tc, .slice ca cn cc]), (1, .agg #[.slice a n c, .slice b_ m d]), (2, .agg #[.slice ja j1 j2, .slice jb j3 j4, .int .i64 bu, .int .i64 dn, .slice jc j5 j6]), (3, .pointer (some ⟨w.heap.size, 0, none⟩)), (4, .pointer (some ⟨w3.heap.size, 0, none⟩)), (5, .pointer (some ⟨w4.heap.size, 0, none⟩)), (6, .bool false), (7, .slice ra10 rn10 rc10), (8, .int .i64 (reachE f fs (min (1000000 : Int) ((bu : Int) + (max (0 : Int) ((min (dn : Int) (1000 : Int)) : Int)) : Int)))), (9, .int .i64 (min (1000000 : Int) ((bu : Int) + (max (0 : Int) ((min (dn : Int) (1000 : Int)) : Int)) : Int))), (10, .slice ra14 rn14 rc14), (11, .int .i64 0), (19, .bool false), (31, .bool false), (50, .bool false)] := F.sub _ (by kernel_rfl)
      refine X.thenN ?_
      refine Y.seq ?_
      refine Y.lit (by kernel_rfl) ?_
      refine Y.pval F (X.w0 rfl) rfl (X.assign rfl (X.kc (.bool false) rfl)) ?_
      clear F ac
      intro ac F
      refine Y.nil ?_
      replace F : Fr ac 146 [(0, .agg #[.slice ta tn tc, .slice ca cn cc]), (1, .agg #[.slice a n c, .slice b_ m d]), (2, .agg #[.slice ja j1 j2, .slice jb j3 j4, .int .i64 bu, .int .i64 dn, .slice jc j5 j6]), (3, .pointer (some ⟨w.heap.size, 0, none⟩)), (4, .pointer (some ⟨w3.heap.size, 0, none⟩)), (5, .pointer (some ⟨w4.heap.size, 0, none⟩)), (6, .bool false), (7, .slice ra10 rn10 rc10), (8, .int .i64 (reachE f fs (min (1000000 : Int) ((bu : Int) + (max (0 : Int) ((min (dn : Int) (1000 : Int)) : Int)) : Int)))), (9, .int .i64 (min (1000000 : Int) ((bu : Int) + (max (0 : Int) ((min (dn : Int) (1000 : Int)) : Int)) : Int))), (10, .slice ra14 rn14 rc14), (11, .int .i64 0), (12, .bool false), (19, .bool false), (31, .bool false), (50, .bool false)] := F.sub _ (by kernel_rfl)
      refine X.thenN ?_
      refine Y.seq ?_
      refine Y.seq ?_
      refine Y.lit (by kernel_rfl) ?_
      refine Y.pval F (X.w0 rfl) rfl (X.assign rfl (X.kc (.int .i64 0) rfl)) ?_
      clear F ac
      intro ac F
      refine Y.nil ?_
      replace F : Fr ac 146 [(0, .agg #[.slice ta tn tc, .slice ca cn cc]), (1, .agg #[.slice a n c, .slice b_ m d]), (2, .agg #[.slice ja j1 j2, .slice jb j3 j4, .int .i64 bu, .int .i64 dn, .slice jc j5 j6]), (3, .pointer (some ⟨w.heap.size, 0, none⟩)), (4, .pointer (some ⟨w3.heap.size, 0, none⟩)), (5, .pointer (some ⟨w4.heap.size, 0, none⟩)), (6, .bool false), (7, .slice ra10 rn10 rc10), (8, .int .i64 (reachE f fs (min (1000000 : Int) ((bu : Int) + (max (0 : Int) ((min (dn : Int) (1000 : Int)) : Int)) : Int)))), (9, .int .i64 (min (1000000 : Int) ((bu : Int) + (max (0 : Int) ((min (dn : Int) (1000 : Int)) : Int)) : Int))), (10, .slice ra14 rn14 rc14), (11, .int .i64 0), (12, .bool false), (13, .int .i64 0), (19, .bool false), (31, .bool false), (50, .bool false)] := F.sub _ (by kernel_rfl)
      refine X.thenN ?_
      refine Y.block ?_
      have hfB := hf
      have hxB := hx
      have hyB := hy
      have hR10B := hR10
      have hR14B := hR14
      have hCB := hC
      have GB := G
      refine Y.loop (fun me_ ac wr => ∃ (k i : Nat), me_ = rn14 - i ∧ Gr w15 wr ∧ k ≤ rn10 ∧ i ≤ rn14 ∧ ((reachR f fs bu).drop k).Sublist ((reachR f fs (min (1000000 : Int) ((bu : Int) + (max (0 : Int) ((min (dn : Int) (1000 : Int)) : Int)) : Int))).drop i) ∧ Fr ac 146 [(0, .agg #[.slice ta tn tc, .slice ca cn cc]), (1, .agg #[.slice a n c, .slice b_ m d]), (2, .agg #[.slice ja j1 j2, .slice jb j3 j4, .int .i64 bu, .int .i64 dn, .slice jc j5 j6]), (3, .pointer (some ⟨w.heap.size, 0, none⟩)), (4, .pointer (some ⟨w3.heap.size, 0, none⟩)), (5, .pointer (some ⟨w4.heap.size, 0, none⟩)), (6, .bool false), (7, .slice ra10 rn10 rc10), (8, .int .i64 (reachE f fs (min (1000000 : Int) ((bu : Int) + (max (0 : Int) ((min (dn : Int) (1000 : Int)) : Int)) : Int)))), (9, .int .i64 (min (1000000 : Int) ((bu : Int) + (max (0 : Int) ((min (dn : Int) (1000 : Int)) : Int)) : Int))), (10, .slice ra14 rn14 rc14), (11, .int .i64 k), (12, .bool false), (13, .int .i64 i), (19, .bool false), (31, .bool false), (50, .bool false)]) _ ⟨0, 0, rfl, Gr.refl _, Nat.zero_le _, Nat.zero_le _, by simpa using hSub, F.sub _ (by kernel_rfl)⟩ ?_
      clear F
      intro me_ ac w18 hI
      obtain ⟨k, i, rfl, gr, hk, hii, hsub, F⟩ := hI
      replace G := GB.trans gr
      replace hC := hCB.gr gr
      replace hf := hfB.gr gr
      replace hx := hxB.gr gr
      replace hy := hyB.gr gr
      replace hR10 := hR10B.gr gr
      replace hR14 := hR14B.gr gr
      have GB_ := gr
      clear gr
      refine Y.seq ?_
      refine Y.seq ?_
      refine Y.lit (by kernel_rfl) ?_
      refine Y.pval F (X.w0 rfl) rfl (X.move rfl (F.ev 13 (.int .i64 i) (by kernel_rfl))) ?_
      clear F ac
      intro ac F
      refine Y.pval F (X.w0 rfl) rfl (X.move rfl (F.ev 10 (.slice ra14 rn14 rc14) (by kernel_rfl))) ?_
      clear F ac
      intro ac F
      refine Y.pval F (X.w0 rfl) rfl (X.len1 Try.underlying22 rfl (F.ev 52 (.slice ra14 rn14 rc14) (by kernel_rfl))) ?_
      clear F ac
      intro ac F
      refine Y.pval F (X.w0 rfl) rfl (X.binop rfl (F.ev 51 (.int .i64 i) (by kernel_rfl)) (F.ev 53 (.int .i64 rn14) (by kernel_rfl)) (X.lssI Try.underlying3 rfl)) ?_
      clear F ac
      intro ac F
      refine Y.nil ?_
      replace F : Fr ac 146 [(0, .agg #[.slice ta tn tc, .slice ca cn cc]), (1, .agg #[.slice a n c, .slice b_ m d]), (2, .agg #[.slice ja j1 j2, .slice jb j3 j4, .int .i64 bu, .int .i64 dn, .slice jc j5 j6]), (3, .pointer (some ⟨w.heap.size, 0, none⟩)), (4, .pointer (some ⟨w3.heap.size, 0, none⟩)), (5, .pointer (some ⟨w4.heap.size, 0, none⟩)), (6, .bool false), (7, .slice ra10 rn10 rc10), (8, .int .i64 (reachE f fs (min (1000000 : Int) ((bu : Int) + (max (0 : Int) ((min (dn : Int) (1000 : Int)) : Int)) : Int)))), (9, .int .i64 (min (1000000 : Int) ((bu : Int) + (max (0 : Int) ((min (dn : Int) (1000 : Int)) : Int)) : Int))), (10, .slice ra14 rn14 rc14), (11, .int .i64 k), (12, .bool false), (13, .int .i64 i), (19, .bool false), (31, .bool false), (50, .bool false), (54, .bool (decide ((i : Int) < rn14)))] := F.sub _ (by kernel_rfl)
      refine X.thenN ?_
      cases h19 : decide ((i : Int) < rn14) with
      | false =>
        try rw [h19] at F
        have h19p : ¬ ((i : Int) < rn14) := of_decide_eq_false h19
        have hkE := scan_end (few := (reachR f fs bu)) (many := (reachR f fs (min (1000000 : Int) ((bu : Int) + (max (0 : Int) ((min (dn : Int) (1000 : Int)) : Int)) : Int)))) (by omega) (by omega) hsub
        refine Y.condF (F.ev 54 (.bool false) (by kernel_rfl)) ?_
        refine Y.exit ?_
        refine X.thenX ?_
        refine X.thenX ?_
        refine X.blockX ?_
        refine X.thenN ?_
        refine Y.seq ?_
        refine Y.seq ?_
        refine Y.lit (by kernel_rfl) ?_
        refine Y.pval F (X.w0 rfl) rfl (X.assign rfl (X.kc (.int .i64 0) rfl)) ?_
        clear F ac
        intro ac F
        refine Y.nil ?_
        replace F : Fr ac 146 [(0, .agg #[.slice ta tn tc, .slice ca cn cc]), (1, .agg #[.slice a n c, .slice b_ m d]), (2, .agg #[.slice ja j1 j2, .slice jb j3 j4, .int .i64 bu, .int .i64 dn, .slice jc j5 j6]), (3, .pointer (some ⟨w.heap.size, 0, none⟩)), (4, .pointer (some ⟨w3.heap.size, 0, none⟩)), (5, .pointer (some ⟨w4.heap.size, 0, none⟩)), (6, .bool false), (7, .slice ra10 rn10 rc10), (8, .int .i64 (reachE f fs (min (1000000 : Int) ((bu : Int) + (max (0 : Int) ((min (dn : Int) (1000 : Int)) : Int)) : Int)))), (9, .int .i64 (min (1000000 : Int) ((bu : Int) + (max (0 : Int) ((min (dn : Int) (1000 : Int)) : Int)) : Int))), (10, .slice ra14 rn14 rc14), (11, .int .i64 k), (12, .bool false), (13, .int .i64 i), (14, .int .i64 0), (19, .bool false), (31, .bool false), (50, .bool false), (54, .bool false)] := F.sub _ (by kernel_rfl)
        refine X.thenN ?_
        refine Y.block ?_
        have hfBB := hf
        have hxBB := hx
        have hyBB := hy
        have hR10BB := hR10
        have hR14BB := hR14
        have hCBB := hC
        have GBB := G
        refine Y.loop (fun me_ ac wr => ∃ (j : Nat) (b : Bool), me_ = rn10 - j ∧ Gr w18 wr ∧ j ≤ rn10 ∧ b = decide (ys ∈ ((reachR f fs bu)).take j) ∧ Fr ac 146 [(0, .agg #[.slice ta tn tc, .slice ca cn cc]), (1, .agg #[.slice a n c, .slice b_ m d]), (2, .agg #[.slice ja j1 j2, .slice jb j3 j4, .int .i64 bu, .int .i64 dn, .slice jc j5 j6]), (3, .pointer (some ⟨w.heap.size, 0, none⟩)), (4, .pointer (some ⟨w3.heap.size, 0, none⟩)), (5, .pointer (some ⟨w4.heap.size, 0, none⟩)), (6, .bool false), (7, .slice ra10 rn10 rc10), (8, .int .i64 (reachE f fs (min (1000000 : Int) ((bu : Int) + (max (0 : Int) ((min (dn : Int) (1000 : Int)) : Int)) : Int)))), (9, .int .i64 (min (1000000 : Int) ((bu : Int) + (max (0 : Int) ((min (dn : Int) (1000 : Int)) : Int)) : Int))), (10, .slice ra14 rn14 rc14), (11, .int .i64 k), (12, .bool b), (13, .int .i64 i), (14, .int .i64 j), (19, .bool false), (31, .bool false), (50, .bool false), (54, .bool false)]) _ ⟨0, false, rfl, Gr.refl _, Nat.zero_le _, by simp, F.sub _ (by kernel_rfl)⟩ ?_
        clear F
        intro me_ ac w20 hI
        obtain ⟨j, b, rfl, gr, hii2, hb, F⟩ := hI
        replace G := GBB.trans gr
        replace hC := hCBB.gr gr
        replace hf := hfBB.gr gr
        replace hx := hxBB.gr gr
        replace hy := hyBB.gr gr
        replace hR10 := hR10BB.gr gr
        replace hR14 := hR14BB.gr gr
        replace GB_ := GB_.trans gr
        have GBB_ := gr
        clear gr
        refine Y.seq ?_
        refine Y.seq ?_
        refine Y.lit (by kernel_rfl) ?_
        refine Y.pval F (X.w0 rfl) rfl (X.move rfl (F.ev 14 (.int .i64 j) (by kernel_rfl))) ?_
        clear F ac
        intro ac F
        refine Y.pval F (X.w0 rfl) rfl (X.move rfl (F.ev 7 (.slice ra10 rn10 rc10) (by kernel_rfl))) ?_
        clear F ac
        intro ac F
        refine Y.pval F (X.w0 rfl) rfl (X.len1 Try.underlying22 rfl (F.ev 75 (.slice ra10 rn10 rc10) (by kernel_rfl))) ?_
        clear F ac
        intro ac F
        refine Y.pval F (X.w0 rfl) rfl (X.binop rfl (F.ev 74 (.int .i64 j) (by kernel_rfl)) (F.ev 76 (.int .i64 rn10) (by kernel_rfl)) (X.lssI Try.underlying3 rfl)) ?_
        clear F ac
        intro ac F
        refine Y.nil ?_
        replace F : Fr ac 146 [(0, .agg #[.slice ta tn tc, .slice ca cn cc]), (1, .agg #[.slice a n c, .slice b_ m d]), (2, .agg #[.slice ja j1 j2, .slice jb j3 j4, .int .i64 bu, .int .i64 dn, .slice jc j5 j6]), (3, .pointer (some ⟨w.heap.size, 0, none⟩)), (4, .pointer (some ⟨w3.heap.size, 0, none⟩)), (5, .pointer (some ⟨w4.heap.size, 0, none⟩)), (6, .bool false), (7, .slice ra10 rn10 rc10), (8, .int .i64 (reachE f fs (min (1000000 : Int) ((bu : Int) + (max (0 : Int) ((min (dn : Int) (1000 : Int)) : Int)) : Int)))), (9, .int .i64 (min (1000000 : Int) ((bu : Int) + (max (0 : Int) ((min (dn : Int) (1000 : Int)) : Int)) : Int))), (10, .slice ra14 rn14 rc14), (11, .int .i64 k), (12, .bool b), (13, .int .i64 i), (14, .int .i64 j), (19, .bool false), (31, .bool false), (50, .bool false), (54, .bool false), (77, .bool (decide ((j : Int) < rn10)))] := F.sub _ (by kernel_rfl)
        refine X.thenN ?_
        cases h21 : decide ((j : Int) < rn10) with
        | false =>
          try rw [h21] at F
          have h21p : ¬ ((j : Int) < rn10) := of_decide_eq_false h21
          have hbE : b = decide (ys ∈ reachR f fs bu) := by rw [hb, List.take_of_length_le (by omega)]
          refine Y.condF (F.ev 77 (.bool false) (by kernel_rfl)) ?_
          refine Y.exit ?_
          refine X.thenX ?_
          refine X.thenX ?_
          refine X.blockX ?_
          refine X.thenN ?_
          refine Y.seq ?_
          refine Y.seq ?_
          refine Y.lit (by kernel_rfl) ?_
          refine Y.pval F (X.w0 rfl) rfl (X.move rfl (F.ev 11 (.int .i64 k) (by kernel_rfl))) ?_
          clear F ac
          intro ac F
          refine Y.pval F (X.w0 rfl) rfl (X.move rfl (F.ev 7 (.slice ra10 rn10 rc10) (by kernel_rfl))) ?_
          clear F ac
          intro ac F
          refine Y.pval F (X.w0 rfl) rfl (X.len1 Try.underlying22 rfl (F.ev 91 (.slice ra10 rn10 rc10) (by kernel_rfl))) ?_
          clear F ac
          intro ac F
          refine Y.pval F (X.w0 rfl) rfl (X.binop rfl (F.ev 90 (.int .i64 k) (by kernel_rfl)) (F.ev 92 (.int .i64 rn10) (by kernel_rfl)) (X.neqI Try.underlying3 rfl)) ?_
          clear F ac
          intro ac F
          refine Y.nil ?_
          replace F : Fr ac 146 [(0, .agg #[.slice ta tn tc, .slice ca cn cc]), (1, .agg #[.slice a n c, .slice b_ m d]), (2, .agg #[.slice ja j1 j2, .slice jb j3 j4, .int .i64 bu, .int .i64 dn, .slice jc j5 j6]), (3, .pointer (some ⟨w.heap.size, 0, none⟩)), (4, .pointer (some ⟨w3.heap.size, 0, none⟩)), (5, .pointer (some ⟨w4.heap.size, 0, none⟩)), (6, .bool false), (7, .slice ra10 rn10 rc10), (8, .int .i64 (reachE f fs (min (1000000 : Int) ((bu : Int) + (max (0 : Int) ((min (dn : Int) (1000 : Int)) : Int)) : Int)))), (9, .int .i64 (min (1000000 : Int) ((bu : Int) + (max (0 : Int) ((min (dn : Int) (1000 : Int)) : Int)) : Int))), (10, .slice ra14 rn14 rc14), (11, .int .i64 k), (12, .bool b), (13, .int .i64 i), (14, .int .i64 j), (19, .bool false), (31, .bool false), (50, .bool false), (54, .bool false), (77, .bool false), (93, .bool ((k : Int) != rn10))] := F.sub _ (by kernel_rfl)
          refine X.thenN ?_
          have h23 : ((k : Int) != rn10) = false := by simp; omega
          try rw [h23] at F
          refine Y.condF (F.ev 93 (.bool false) (by kernel_rfl)) ?_
          refine Y.skip ?_
          refine X.thenN ?_
          refine Y.seq ?_
          refine Y.lit (by kernel_rfl) ?_
          refine Y.pval F (X.w0 rfl) rfl (X.load rfl (F.ev 3 (.pointer (some ⟨w.heap.size, 0, none⟩)) (by kernel_rfl)) (X.ldN (Try.agg25 _) (Try.siz25 _) (X.c2 (hC.at 0 rfl) (hC.at 1 rfl)))) ?_
          clear F ac
          intro ac F
          refine Y.pval F (X.w0 rfl) rfl (X.field rfl (F.ev 4 (.pointer (some ⟨w3.heap.size, 0, none⟩)) (by kernel_rfl)) (X.fld Try.underlying28 rfl (Try.siz26 _) rfl rfl)) ?_
          clear F ac
          intro ac F
          refine Y.pval F (X.w0 rfl) rfl (X.load rfl (F.ev 96 (.pointer (some ⟨w3.heap.size, 0, none⟩)) (by kernel_rfl)) (X.ld1 (Try.agg26 _) (hC.at 2 rfl))) ?_
          clear F ac
          intro ac F
          refine Y.pval F (X.w0 rfl) rfl (X.field rfl (F.ev 4 (.pointer (some ⟨w3.heap.size, 0, none⟩)) (by kernel_rfl)) (X.fld Try.underlying28 rfl (Try.siz26 _) rfl rfl)) ?_
          clear F ac
          intro ac F
          refine Y.pval F (X.w0 rfl) rfl (X.load rfl (F.ev 98 (.pointer (some ⟨w3.heap.size, 1, none⟩)) (by kernel_rfl)) (X.ld1 (Try.agg26 _) (hC.at 3 rfl))) ?_
          clear F ac
          intro ac F
          refine Y.pval F (X.w0 rfl) rfl (X.field rfl (F.ev 5 (.pointer (some ⟨w4.heap.size, 0, none⟩)) (by kernel_rfl)) (X.fld Try.underlying41 rfl (Try.siz3 _) rfl rfl)) ?_
          clear F ac
          intro ac F
          refine Y.pval F (X.w0 rfl) rfl (X.load rfl (F.ev 100 (.pointer (some ⟨w4.heap.size, 2, none⟩)) (by kernel_rfl)) (X.ld1 (Try.agg3 _) (hC.at 6 rfl))) ?_
          clear F ac
          intro ac F
          refine Y.pcall F (X.w0 rfl) rfl (X.enter (F := 17) rfl (X.kc (.func (.func 17) #[] #[]) rfl) (X.a4 (F.ev 95 (.agg #[.slice ta tn tc, .slice ca cn cc]) (by kernel_rfl)) (F.ev 97 (.slice a n c) (by kernel_rfl)) (F.ev 99 (.slice b_ m d) (by kernel_rfl)) (F.ev 101 (.int .i64 bu) (by kernel_rfl))) (enters_of Try.func17 (by kernel_rfl) rfl _)) (plan_any ta ca a b_ tn tc cn cc n c m d f fs ys bu w20 hf hx hy) ?_
          clear F ac
          rintro e w26 ⟨ra25, rn25, rc25, rfl, hR25, g, hcp25⟩
          refine ⟨_, rfl, ?_⟩
          intro ac F
          replace G := G.trans g
          replace hC := hC.gr g
          replace GB_ := GB_.trans g
          replace GBB_ := GBB_.trans g
          replace hf := hf.gr g
          replace hx := hx.gr g
          replace hy := hy.gr g
          replace hR10 := hR10.gr g
          replace hR14 := hR14.gr g
          clear g
          refine Y.pval F (X.w0 rfl) rfl (X.move rfl (F.ev 102 (.tuple #[.slice ra25 rn25 rc25, .int .i64 (planE f fs ys bu)]) (by kernel_rfl))) ?_
          clear F ac
          intro ac F
          refine Y.pval F (X.w0 rfl) rfl (X.extract rfl (F.ev 94 (.tuple #[.slice ra25 rn25 rc25, .int .i64 (planE f fs ys bu)]) (by kernel_rfl)) rfl) ?_
          clear F ac
          intro ac F
          refine Y.pval F (X.w0 rfl) rfl (X.extract rfl (F.ev 94 (.tuple #[.slice ra25 rn25 rc25, .int .i64 (planE f fs ys bu)]) (by kernel_rfl)) rfl) ?_
          clear F ac
          intro ac F
          refine Y.pval F (X.w0 rfl) rfl (X.assign rfl (F.ev 103 (.slice ra25 rn25 rc25) (by kernel_rfl))) ?_
          clear F ac
          intro ac F
          refine Y.pval F (X.w0 rfl) rfl (X.assign rfl (F.ev 104 (.int .i64 (planE f fs ys bu)) (by kernel_rfl))) ?_
          clear F ac
          intro ac F
          refine Y.nil ?_
          replace F : Fr ac 146 [(0, .agg #[.slice ta tn tc, .slice ca cn cc]), (1, .agg #[.slice a n c, .slice b_ m d]), (2, .agg #[.slice ja j1 j2, .slice jb j3 j4, .int .i64 bu, .int .i64 dn, .slice jc j5 j6]), (3, .pointer (some ⟨w.heap.size, 0, none⟩)), (4, .pointer (some ⟨w3.heap.size, 0, none⟩)), (5, .pointer (some ⟨w4.heap.size, 0, none⟩)), (6, .bool false), (7, .slice ra10 rn10 rc10), (8, .int .i64 (planE f fs ys bu)), (9, .int .i64 (min (1000000 : Int) ((bu : Int) + (max (0 : Int) ((min (dn : Int) (1000 : Int)) : Int)) : Int))), (10, .slice ra14 rn14 rc14), (11, .int .i64 k), (12, .bool b), (13, .int .i64 i), (14, .int .i64 j), (15, .slice ra25 rn25 rc25), (19, .bool false), (31, .bool false), (50, .bool false), (54, .bool false), (77, .bool false), (93, .bool false)] := F.sub _ (by kernel_rfl)
          refine X.thenN ?_
          refine Y.seq ?_
          refine Y.seq ?_
          refine Y.lit (by kernel_rfl) ?_
          refine Y.pval F (X.w0 rfl) rfl (X.move rfl (F.ev 8 (.int .i64 (planE f fs ys bu)) (by kernel_rfl))) ?_
          clear F ac
          intro ac F
          refine Y.pval F (X.w0 rfl) rfl (X.binop rfl (F.ev 105 (.int .i64 (planE f fs ys bu)) (by kernel_rfl)) (X.kc (.int .i64 0) rfl) (X.neqI Try.underlying31 rfl)) ?_
          clear F ac
          intro ac F
          refine Y.pval F (X.w0 rfl) rfl (X.move rfl (F.ev 106 (.bool ((planE f fs ys bu : Int) != 0)) (by kernel_rfl))) ?_
          clear F ac
          intro ac F
          cases h27 : ((planE f fs ys bu : Int) != 0) with
          | false =>
            try rw [h27] at F
            have h27p : (planE f fs ys bu : Int) = 0 := by simpa using h27
            have hpz : planE f fs ys bu = 0 := h27p
            refine Y.pskip F (X.w2 rfl (F.yl (j := 2) (d := 107) (b := false) rfl (by kernel_rfl)) rfl) rfl ?_
            clear F ac
            intro ac F
            refine Y.pskip F (X.w2 rfl (F.yl (j := 2) (d := 107) (b := false) rfl (by kernel_rfl)) rfl) rfl ?_
            clear F ac
            intro ac F
            refine Y.pval F (X.w0 rfl) rfl (X.pickF rfl (F.ev 107 (.bool false) (by kernel_rfl)) (X.kc (.bool false) rfl)) ?_
            clear F ac
            intro ac F
            refine Y.pval F (X.w0 rfl) rfl (X.move rfl (F.ev 110 (.bool false) (by kernel_rfl))) ?_
            clear F ac
            intro ac F
            refine Y.pskip F (X.w2 rfl (F.yl (j := 6) (d := 111) (b := false) rfl (by kernel_rfl)) rfl) rfl ?_
            clear F ac
            intro ac F
            refine Y.pskip F (X.w2 rfl (F.yl (j := 6) (d := 111) (b := false) rfl (by kernel_rfl)) rfl) rfl ?_
            clear F ac
            intro ac F
            refine Y.pval F (X.w0 rfl) rfl (X.pickF rfl (F.ev 111 (.bool false) (by kernel_rfl)) (X.kc (.bool false) rfl)) ?_
            clear F ac
            intro ac F
            refine Y.nil ?_
            replace F : Fr ac 146 [(0, .agg #[.slice ta tn tc, .slice ca cn cc]), (1, .agg #[.slice a n c, .slice b_ m d]), (2, .agg #[.slice ja j1 j2, .slice jb j3 j4, .int .i64 bu, .int .i64 dn, .slice jc j5 j6]), (3, .pointer (some ⟨w.heap.size, 0, none⟩)), (4, .pointer (some ⟨w3.heap.size, 0, none⟩)), (5, .pointer (some ⟨w4.heap.size, 0, none⟩)), (6, .bool false), (7, .slice ra10 rn10 rc10), (8, .int .i64 (planE f fs ys bu)), (9, .int .i64 (min (1000000 : Int) ((bu : Int) + (max (0 : Int) ((min (dn : Int) (1000 : Int)) : Int)) : Int))), (10, .slice ra14 rn14 rc14), (11, .int .i64 k), (12, .bool b), (13, .int .i64 i), (14, .int .i64 j), (15, .slice ra25 rn25 rc25), (19, .bool false), (31, .bool false), (50, .bool false), (54, .bool false), (77, .bool false), (93, .bool false), (114, .bool false)] := F.sub _ (by kernel_rfl)
            refine X.thenN ?_
            refine Y.condF (F.ev 114 (.bool false) (by kernel_rfl)) ?_
            refine Y.skip ?_
            refine X.thenN ?_
            refine Y.seq ?_
            refine Y.seq ?_
            refine Y.lit (by kernel_rfl) ?_
            refine Y.pval F (X.w0 rfl) rfl (X.move rfl (F.ev 8 (.int .i64 (planE f fs ys bu)) (by kernel_rfl))) ?_
            clear F ac
            intro ac F
            refine Y.pval F (X.w0 rfl) rfl (X.binop rfl (F.ev 116 (.int .i64 (planE f fs ys bu)) (by kernel_rfl)) (X.kc (.int .i64 0) rfl) (X.eqlI Try.underlying31 rfl)) ?_
            clear F ac
            intro ac F
            refine Y.pval F (X.w0 rfl) rfl (X.move rfl (F.ev 12 (.bool b) (by kernel_rfl))) ?_
            clear F ac
            intro ac F
            refine Y.pval F (X.w0 rfl) rfl (X.binop rfl (F.ev 117 (.bool ((planE f fs ys bu : Int) == 0)) (by kernel_rfl)) (F.ev 118 (.bool b) (by kernel_rfl)) (Y.neqB Try.underlying4 rfl)) ?_
            clear F ac
            intro ac F
            refine Y.nil ?_
            replace F : Fr ac 146 [(0, .agg #[.slice ta tn tc, .slice ca cn cc]), (1, .agg #[.slice a n c, .slice b_ m d]), (2, .agg #[.slice ja j1 j2, .slice jb j3 j4, .int .i64 bu, .int .i64 dn, .slice jc j5 j6]), (3, .pointer (some ⟨w.heap.size, 0, none⟩)), (4, .pointer (some ⟨w3.heap.size, 0, none⟩)), (5, .pointer (some ⟨w4.heap.size, 0, none⟩)), (6, .bool false), (7, .slice ra10 rn10 rc10), (8, .int .i64 (planE f fs ys bu)), (9, .int .i64 (min (1000000 : Int) ((bu : Int) + (max (0 : Int) ((min (dn : Int) (1000 : Int)) : Int)) : Int))), (10, .slice ra14 rn14 rc14), (11, .int .i64 k), (12, .bool b), (13, .int .i64 i), (14, .int .i64 j), (15, .slice ra25 rn25 rc25), (19, .bool false), (31, .bool false), (50, .bool false), (54, .bool false), (77, .bool false), (93, .bool false), (114, .bool false), (119, .bool (((planE f fs ys bu : Int) == 0) != b))] := F.sub _ (by kernel_rfl)
            refine X.thenN ?_
            have h29 : (((planE f fs ys bu : Int) == 0) != b) = false := by
              have h0 := same_in (t := ys) hE0
              rw [hbE]
              by_cases hz : planE f fs ys bu = 0
              · simp [hz, h0.1 hz]
              · have : ¬ ys ∈ reachR f fs bu := fun h => hz (h0.2 h)
                simp [hz, this]
            try rw [h29] at F
            refine Y.condF (F.ev 119 (.bool false) (by kernel_rfl)) ?_
            refine Y.skip ?_
            refine X.thenN ?_
            refine Y.seq ?_
            refine Y.lit (by kernel_rfl) ?_
            refine Y.pval F (X.w0 rfl) rfl (X.load rfl (F.ev 3 (.pointer (some ⟨w.heap.size, 0, none⟩)) (by kernel_rfl)) (X.ldN (Try.agg25 _) (Try.siz25 _) (X.c2 (hC.at 0 rfl) (hC.at 1 rfl)))) ?_
            clear F ac
            intro ac F
            refine Y.pval F (X.w0 rfl) rfl (X.field rfl (F.ev 4 (.pointer (some ⟨w3.heap.size, 0, none⟩)) (by kernel_rfl)) (X.fld Try.underlying28 rfl (Try.siz26 _) rfl rfl)) ?_
            clear F ac
            intro ac F
            refine Y.pval F (X.w0 rfl) rfl (X.load rfl (F.ev 122 (.pointer (some ⟨w3.heap.size, 0, none⟩)) (by kernel_rfl)) (X.ld1 (Try.agg26 _) (hC.at 2 rfl))) ?_
            clear F ac
            intro ac F
            refine Y.pval F (X.w0 rfl) rfl (X.field rfl (F.ev 4 (.pointer (some ⟨w3.heap.size, 0, none⟩)) (by kernel_rfl)) (X.fld Try.underlying28 rfl (Try.siz26 _) rfl rfl)) ?_
            clear F ac
            intro ac F
            refine Y.pval F (X.w0 rfl) rfl (X.load rfl (F.ev 124 (.pointer (some ⟨w3.heap.size, 1, none⟩)) (by kernel_rfl)) (X.ld1 (Try.agg26 _) (hC.at 3 rfl))) ?_
            clear F ac
            intro ac F
            refine Y.pval F (X.w0 rfl) rfl (X.move rfl (F.ev 9 (.int .i64 (min (1000000 : Int) ((bu : Int) + (max (0 : Int) ((min (dn : Int) (1000 : Int)) : Int)) : Int))) (by kernel_rfl))) ?_
            clear F ac
            intro ac F
            refine Y.pcall F (X.w0 rfl) rfl (X.enter (F := 17) rfl (X.kc (.func (.func 17) #[] #[]) rfl) (X.a4 (F.ev 121 (.agg #[.slice ta tn tc, .slice ca cn cc]) (by kernel_rfl)) (F.ev 123 (.slice a n c) (by kernel_rfl)) (F.ev 125 (.slice b_ m d) (by kernel_rfl)) (F.ev 126 (.int .i64 (min (1000000 : Int) ((bu : Int) + (max (0 : Int) ((min (dn : Int) (1000 : Int)) : Int)) : Int))) (by kernel_rfl))) (enters_of Try.func17 (by kernel_rfl) rfl _)) (plan_any ta ca a b_ tn tc cn cc n c m d f fs ys (min (1000000 : Int) ((bu : Int) + (max (0 : Int) ((min (dn : Int) (1000 : Int)) : Int)) : Int)) w26 hf hx hy) ?_
            clear F ac
            rintro e w32 ⟨ra31, rn31, rc31, rfl, hR31, g, hcp31⟩
            refine ⟨_, rfl, ?_⟩
            intro ac F
            replace G := G.trans g
            replace hC := hC.gr g
            replace GB_ := GB_.trans g
            replace GBB_ := GBB_.trans g
            replace hf := hf.gr g
            replace hx := hx.gr g
            replace hy := hy.gr g
            replace hR10 := hR10.gr g
            replace hR14 := hR14.gr g
            replace hR25 := hR25.gr g
            clear g
            refine Y.pval F (X.w0 rfl) rfl (X.move rfl (F.ev 127 (.tuple #[.slice ra31 rn31 rc31, .int .i64 (planE f fs ys (min (1000000 : Int) ((bu : Int) + (max (0 : Int) ((min (dn : Int) (1000 : Int)) : Int)) : Int)))]) (by kernel_rfl))) ?_
            clear F ac
            intro ac F
            refine Y.pval F (X.w0 rfl) rfl (X.extract rfl (F.ev 120 (.tuple #[.slice ra31 rn31 rc31, .int .i64 (planE f fs ys (min (1000000 : Int) ((bu : Int) + (max (0 : Int) ((min (dn : Int) (1000 : Int)) : Int)) : Int)))]) (by kernel_rfl)) rfl) ?_
            clear F ac
            intro ac F
            refine Y.pval F (X.w0 rfl) rfl (X.extract rfl (F.ev 120 (.tuple #[.slice ra31 rn31 rc31, .int .i64 (planE f fs ys (min (1000000 : Int) ((bu : Int) + (max (0 : Int) ((min (dn : Int) (1000 : Int)) : Int)) : Int)))]) (by kernel_rfl)) rfl) ?_
            clear F ac
            intro ac F
            refine Y.pval F (X.w0 rfl) rfl (X.assign rfl (F.ev 128 (.slice ra31 rn31 rc31) (by kernel_rfl))) ?_
            clear F ac
            intro ac F
            refine Y.pval F (X.w0 rfl) rfl (X.assign rfl (F.ev 129 (.int .i64 (planE f fs ys (min (1000000 : Int) ((bu : Int) + (max (0 : Int) ((min (dn : Int) (1000 : Int)) : Int)) : Int)))) (by kernel_rfl))) ?_
            clear F ac
            intro ac F
            refine Y.nil ?_
            replace F : Fr ac 146 [(0, .agg #[.slice ta tn tc, .slice ca cn cc]), (1, .agg #[.slice a n c, .slice b_ m d]), (2, .agg #[.slice ja j1 j2, .slice jb j3 j4, .int .i64 bu, .int .i64 dn, .slice jc j5 j6]), (3, .pointer (some ⟨w.heap.size, 0, none⟩)), (4, .pointer (some ⟨w3.heap.size, 0, none⟩)), (5, .pointer (some ⟨w4.heap.size, 0, none⟩)), (6, .bool false), (7, .slice ra10 rn10 rc10), (8, .int .i64 (planE f fs ys bu)), (9, .int .i64 (min (1000000 : Int) ((bu : Int) + (max (0 : Int) ((min (dn : Int) (1000 : Int)) : Int)) : Int))), (10, .slice ra14 rn14 rc14), (11, .int .i64 k), (12, .bool b), (13, .int .i64 i), (14, .int .i64 j), (15, .slice ra25 rn25 rc25), (16, .slice ra31 rn31 rc31), (17, .int .i64 (planE f fs ys (min (1000000 : Int) ((bu : Int) + (max (0 : Int) ((min (dn : Int) (1000 : Int)) : Int)) : Int)))), (19, .bool false), (31, .bool false), (50, .bool false), (54, .bool false), (77, .bool false), (93, .bool false), (114, .bool false), (119, .bool false)] := F.sub _ (by kernel_rfl)
            refine X.thenN ?_
            refine Y.seq ?_
            refine Y.lit (by kernel_rfl) ?_
            refine Y.pval F (X.w0 rfl) rfl (X.move rfl (F.ev 8 (.int .i64 (planE f fs ys bu)) (by kernel_rfl))) ?_
            clear F ac
            intro ac F
            refine Y.pval F (X.w0 rfl) rfl (X.binop rfl (F.ev 130 (.int .i64 (planE f fs ys bu)) (by kernel_rfl)) (X.kc (.int .i64 0) rfl) (X.neqI Try.underlying31 h27)) ?_
            clear F ac
            intro ac F
            refine Y.pval F (X.w0 rfl) rfl (X.move rfl (F.ev 131 (.bool false) (by kernel_rfl))) ?_
            clear F ac
            intro ac F
            refine Y.pval F (X.w1 rfl (F.yl (j := 2) (d := 132) (b := false) rfl (by kernel_rfl))) rfl (X.move rfl (F.ev 17 (.int .i64 (planE f fs ys (min (1000000 : Int) ((bu : Int) + (max (0 : Int) ((min (dn : Int) (1000 : Int)) : Int)) : Int)))) (by kernel_rfl))) ?_
            clear F ac
            intro ac F
            refine Y.pval F (X.w1 rfl (F.yl (j := 2) (d := 132) (b := false) rfl (by kernel_rfl))) rfl (X.binop rfl (F.ev 133 (.int .i64 (planE f fs ys (min (1000000 : Int) ((bu : Int) + (max (0 : Int) ((min (dn : Int) (1000 : Int)) : Int)) : Int)))) (by kernel_rfl)) (X.kc (.int .i64 0) rfl) (X.eqlI Try.underlying31 rfl)) ?_
            clear F ac
            intro ac F
            refine Y.pval F (X.w1 rfl (F.yl (j := 2) (d := 132) (b := false) rfl (by kernel_rfl))) rfl (X.move rfl (F.ev 134 (.bool ((planE f fs ys (min (1000000 : Int) ((bu : Int) + (max (0 : Int) ((min (dn : Int) (1000 : Int)) : Int)) : Int)) : Int) == 0)) (by kernel_rfl))) ?_
            clear F ac
            intro ac F
            have hsm := same_more hE0 hmo.1 hmo.2 hpz
            have h34 : ((planE f fs ys (min (1000000 : Int) ((bu : Int) + (max (0 : Int) ((min (dn : Int) (1000 : Int)) : Int)) : Int)) : Int) == 0) = true := by rw [hsm.1]; rfl
            try rw [h34] at F
            refine Y.pval F (X.w1 rfl (F.yl (j := 5) (d := 135) (b := true) rfl (by kernel_rfl))) rfl (X.move rfl (F.ev 16 (.slice ra31 rn31 rc31) (by kernel_rfl))) ?_
            clear F ac
            intro ac F
            refine Y.pval F (X.w1 rfl (F.yl (j := 5) (d := 135) (b := true) rfl (by kernel_rfl))) rfl (X.len1 Try.underlying22 rfl (F.ev 136 (.slice ra31 rn31 rc31) (by kernel_rfl))) ?_
            clear F ac
            intro ac F
            refine Y.pval F (X.w1 rfl (F.yl (j := 5) (d := 135) (b := true) rfl (by kernel_rfl))) rfl (X.move rfl (F.ev 15 (.slice ra25 rn25 rc25) (by kernel_rfl))) ?_
            clear F ac
            intro ac F
            refine Y.pval F (X.w1 rfl (F.yl (j := 5) (d := 135) (b := true) rfl (by kernel_rfl))) rfl (X.len1 Try.underlying22 rfl (F.ev 138 (.slice ra25 rn25 rc25) (by kernel_rfl))) ?_
            clear F ac
            intro ac F
            refine Y.pval F (X.w1 rfl (F.yl (j := 5) (d := 135) (b := true) rfl (by kernel_rfl))) rfl (X.binop rfl (F.ev 137 (.int .i64 rn31) (by kernel_rfl)) (F.ev 139 (.int .i64 rn25) (by kernel_rfl)) (X.leqI Try.underlying3 rfl)) ?_
            clear F ac
            intro ac F
            refine Y.pval F (X.w1 rfl (F.yl (j := 2) (d := 132) (b := false) rfl (by kernel_rfl))) rfl (X.pickT rfl (F.ev 135 (.bool true) (by kernel_rfl)) (F.ev 140 (.bool (decide ((rn31 : Int) ≤ rn25))) (by kernel_rfl))) ?_
            clear F ac
            intro ac F
            refine Y.pval F (X.w0 rfl) rfl (X.pickF rfl (F.ev 132 (.bool false) (by kernel_rfl)) (F.ev 141 (.bool (decide ((rn31 : Int) ≤ rn25))) (by kernel_rfl))) ?_
            clear F ac
            intro ac F
            refine Y.pval F (X.w0 rfl) rfl (X.move rfl (F.ev 142 (.bool (decide ((rn31 : Int) ≤ rn25))) (by kernel_rfl))) ?_
            clear F ac
            intro ac F
            have h36 : decide ((rn31 : Int) ≤ rn25) = true := by have := hsm.2; have := hR25.len; have := hR31.len; simp; omega
            have h36p : ((rn31 : Int) ≤ rn25) := of_decide_eq_true h36
            try rw [h36] at F
            refine Y.pcall F (X.w1 rfl (F.yl (j := 13) (d := 143) (b := true) rfl (by kernel_rfl))) rfl (X.enter (F := 16) rfl (X.kc (.func (.func 16) #[] #[]) rfl) rfl (enters_of Try.func16 (by kernel_rfl) rfl _)) (look_any w32) ?_
            clear F ac
            rintro e w38 ⟨rfl, g⟩
            refine ⟨_, rfl, ?_⟩
            intro ac F
            replace G := G.trans g
            replace hC := hC.gr g
            replace GB_ := GB_.trans g
            replace GBB_ := GBB_.trans g
            replace hf := hf.gr g
            replace hx := hx.gr g
            replace hy := hy.gr g
            replace hR10 := hR10.gr g
            replace hR14 := hR14.gr g
            replace hR25 := hR25.gr g
            replace hR31 := hR31.gr g
            clear g
            refine Y.pval F (X.w0 rfl) rfl (X.pickT rfl (F.ev 143 (.bool true) (by kernel_rfl)) (F.ev 144 (.bool true) (by kernel_rfl))) ?_
            clear F ac
            intro ac F
            refine Y.pval F (X.w0 rfl) rfl (X.assign rfl (F.ev 145 (.bool true) (by kernel_rfl))) ?_
            clear F ac
            intro ac F
            refine Y.nil ?_
            replace F : Fr ac 146 [(0, .agg #[.slice ta tn tc, .slice ca cn cc]), (1, .agg #[.slice a n c, .slice b_ m d]), (2, .agg #[.slice ja j1 j2, .slice jb j3 j4, .int .i64 bu, .int .i64 dn, .slice jc j5 j6]), (3, .pointer (some ⟨w.heap.size, 0, none⟩)), (4, .pointer (some ⟨w3.heap.size, 0, none⟩)), (5, .pointer (some ⟨w4.heap.size, 0, none⟩)), (6, .bool true), (7, .slice ra10 rn10 rc10), (8, .int .i64 (planE f fs ys bu)), (9, .int .i64 (min (1000000 : Int) ((bu : Int) + (max (0 : Int) ((min (dn : Int) (1000 : Int)) : Int)) : Int))), (10, .slice ra14 rn14 rc14), (11, .int .i64 k), (12, .bool b), (13, .int .i64 i), (14, .int .i64 j), (15, .slice ra25 rn25 rc25), (16, .slice ra31 rn31 rc31), (17, .int .i64 (planE f fs ys (min (1000000 : Int) ((bu : Int) + (max (0 : Int) ((min (dn : Int) (1000 : Int)) : Int)) : Int)))), (19, .bool false), (31, .bool false), (50, .bool false), (54, .bool false), (77, .bool false), (93, .bool false), (114, .bool false), (119, .bool false)] := F.sub _ (by kernel_rfl)
            refine X.thenN ?_
            refine Y.ret ?_
            exact Y.ret0 F (Y.rs1 F rfl (by kernel_rfl)) ⟨rfl, G⟩
          | true =>
            try rw [h27] at F
            have h27p : ¬ (planE f fs ys bu : Int) = 0 := by simpa using h27
            refine Y.pval F (X.w1 rfl (F.yl (j := 2) (d := 107) (b := true) rfl (by kernel_rfl))) rfl (X.move rfl (F.ev 8 (.int .i64 (planE f fs ys bu)) (by kernel_rfl))) ?_
            clear F ac
            intro ac F
            refine Y.pval F (X.w1 rfl (F.yl (j := 2) (d := 107) (b := true) rfl (by kernel_rfl))) rfl (X.binop rfl (F.ev 108 (.int .i64 (planE f fs ys bu)) (by kernel_rfl)) (X.kc (.int .i64 112) rfl) (X.neqI Try.underlying31 rfl)) ?_
            clear F ac
            intro ac F
            refine Y.pval F (X.w0 rfl) rfl (X.pickT rfl (F.ev 107 (.bool true) (by kernel_rfl)) (F.ev 109 (.bool ((planE f fs ys bu : Int) != 112)) (by kernel_rfl))) ?_
            clear F ac
            intro ac F
            refine Y.pval F (X.w0 rfl) rfl (X.move rfl (F.ev 110 (.bool ((planE f fs ys bu : Int) != 112)) (by kernel_rfl))) ?_
            clear F ac
            intro ac F
            cases h39 : ((planE f fs ys bu : Int) != 112) with
            | false =>
              try rw [h39] at F
              have h39p : (planE f fs ys bu : Int) = 112 := by simpa using h39
              refine Y.pskip F (X.w2 rfl (F.yl (j := 6) (d := 111) (b := false) rfl (by kernel_rfl)) rfl) rfl ?_
              clear F ac
              intro ac F
              refine Y.pskip F (X.w2 rfl (F.yl (j := 6) (d := 111) (b := false) rfl (by kernel_rfl)) rfl) rfl ?_
              clear F ac
              intro ac F
              refine Y.pval F (X.w0 rfl) rfl (X.pickF rfl (F.ev 111 (.bool false) (by kernel_rfl)) (X.kc (.bool false) rfl)) ?_
              clear F ac
              intro ac F
              refine Y.nil ?_
              replace F : Fr ac 146 [(0, .agg #[.slice ta tn tc, .slice ca cn cc]), (1, .agg #[.slice a n c, .slice b_ m d]), (2, .agg #[.slice ja j1 j2, .slice jb j3 j4, .int .i64 bu, .int .i64 dn, .slice jc j5 j6]), (3, .pointer (some ⟨w.heap.size, 0, none⟩)), (4, .pointer (some ⟨w3.heap.size, 0, none⟩)), (5, .pointer (some ⟨w4.heap.size, 0, none⟩)), (6, .bool false), (7, .slice ra10 rn10 rc10), (8, .int .i64 (planE f fs ys bu)), (9, .int .i64 (min (1000000 : Int) ((bu : Int) + (max (0 : Int) ((min (dn : Int) (1000 : Int)) : Int)) : Int))), (10, .slice ra14 rn14 rc14), (11, .int .i64 k), (12, .bool b), (13, .int .i64 i), (14, .int .i64 j), (15, .slice ra25 rn25 rc25), (19, .bool false), (31, .bool false), (50, .bool false), (54, .bool false), (77, .bool false), (93, .bool false), (114, .bool false)] := F.sub _ (by kernel_rfl)
              refine X.thenN ?_
              refine Y.condF (F.ev 114 (.bool false) (by kernel_rfl)) ?_
              refine Y.skip ?_
              refine X.thenN ?_
              refine Y.seq ?_
              refine Y.seq ?_
              refine Y.lit (by kernel_rfl) ?_
              refine Y.pval F (X.w0 rfl) rfl (X.move rfl (F.ev 8 (.int .i64 (planE f fs ys bu)) (by kernel_rfl))) ?_
              clear F ac
              intro ac F
              refine Y.pval F (X.w0 rfl) rfl (X.binop rfl (F.ev 116 (.int .i64 (planE f fs ys bu)) (by kernel_rfl)) (X.kc (.int .i64 0) rfl) (X.eqlI Try.underlying31 rfl)) ?_
              clear F ac
              intro ac F
              refine Y.pval F (X.w0 rfl) rfl (X.move rfl (F.ev 12 (.bool b) (by kernel_rfl))) ?_
              clear F ac
              intro ac F
              refine Y.pval F (X.w0 rfl) rfl (X.binop rfl (F.ev 117 (.bool ((planE f fs ys bu : Int) == 0)) (by kernel_rfl)) (F.ev 118 (.bool b) (by kernel_rfl)) (Y.neqB Try.underlying4 rfl)) ?_
              clear F ac
              intro ac F
              refine Y.nil ?_
              replace F : Fr ac 146 [(0, .agg #[.slice ta tn tc, .slice ca cn cc]), (1, .agg #[.slice a n c, .slice b_ m d]), (2, .agg #[.slice ja j1 j2, .slice jb j3 j4, .int .i64 bu, .int .i64 dn, .slice jc j5 j6]), (3, .pointer (some ⟨w.heap.size, 0, none⟩)), (4, .pointer (some ⟨w3.heap.size, 0, none⟩)), (5, .pointer (some ⟨w4.heap.size, 0, none⟩)), (6, .bool false), (7, .slice ra10 rn10 rc10), (8, .int .i64 (planE f fs ys bu)), (9, .int .i64 (min (1000000 : Int) ((bu : Int) + (max (0 : Int) ((min (dn : Int) (1000 : Int)) : Int)) : Int))), (10, .slice ra14 rn14 rc14), (11, .int .i64 k), (12, .bool b), (13, .int .i64 i), (14, .int .i64 j), (15, .slice ra25 rn25 rc25), (19, .bool false), (31, .bool false), (50, .bool false), (54, .bool false), (77, .bool false), (93, .bool false), (114, .bool false), (119, .bool (((planE f fs ys bu : Int) == 0) != b))] := F.sub _ (by kernel_rfl)
              refine X.thenN ?_
              have h41 : (((planE f fs ys bu : Int) == 0) != b) = false := by
                have h0 := same_in (t := ys) hE0
                rw [hbE]
                by_cases hz : planE f fs ys bu = 0
                · simp [hz, h0.1 hz]
                · have : ¬ ys ∈ reachR f fs bu := fun h => hz (h0.2 h)
                  simp [hz, this]
              try rw [h41] at F
              refine Y.condF (F.ev 119 (.bool false) (by kernel_rfl)) ?_
              refine Y.skip ?_
              refine X.thenN ?_
              refine Y.seq ?_
              refine Y.lit (by kernel_rfl) ?_
              refine Y.pval F (X.w0 rfl) rfl (X.load rfl (F.ev 3 (.pointer (some ⟨w.heap.size, 0, none⟩)) (by kernel_rfl)) (X.ldN (Try.agg25 _) (Try.siz25 _) (X.c2 (hC.at 0 rfl) (hC.at 1 rfl)))) ?_
              clear F ac
              intro ac F
              refine Y.pval F (X.w0 rfl) rfl (X.field rfl (F.ev 4 (.pointer (some ⟨w3.heap.size, 0, none⟩)) (by kernel_rfl)) (X.fld Try.underlying28 rfl (Try.siz26 _) rfl rfl)) ?_
              clear F ac
              intro ac F
              refine Y.pval F (X.w0 rfl) rfl (X.load rfl (F.ev 122 (.pointer (some ⟨w3.heap.size, 0, none⟩)) (by kernel_rfl)) (X.ld1 (Try.agg26 _) (hC.at 2 rfl))) ?_
              clear F ac
              intro ac F
              refine Y.pval F (X.w0 rfl) rfl (X.field rfl (F.ev 4 (.pointer (some ⟨w3.heap.size, 0, none⟩)) (by kernel_rfl)) (X.fld Try.underlying28 rfl (Try.siz26 _) rfl rfl)) ?_
              clear F ac
              intro ac F
              refine Y.pval F (X.w0 rfl) rfl (X.load rfl (F.ev 124 (.pointer (some ⟨w3.heap.size, 1, none⟩)) (by kernel_rfl)) (X.ld1 (Try.agg26 _) (hC.at 3 rfl))) ?_
              clear F ac
              intro ac F
              refine Y.pval F (X.w0 rfl) rfl (X.move rfl (F.ev 9 (.int .i64 (min (1000000 : Int) ((bu : Int) + (max (0 : Int) ((min (dn : Int) (1000 : Int)) : Int)) : Int))) (by kernel_rfl))) ?_
              clear F ac
              intro ac F
              refine Y.pcall F (X.w0 rfl) rfl (X.enter (F := 17) rfl (X.kc (.func (.func 17) #[] #[]) rfl) (X.a4 (F.ev 121 (.agg #[.slice ta tn tc, .slice ca cn cc]) (by kernel_rfl)) (F.ev 123 (.slice a n c) (by kernel_rfl)) (F.ev 125 (.slice b_ m d) (by kernel_rfl)) (F.ev 126 (.int .i64 (min (1000000 : Int) ((bu : Int) + (max (0 : Int) ((min (dn : Int) (1000 : Int)) : Int)) : Int))) (by kernel_rfl))) (enters_of Try.func17 (by kernel_rfl) rfl _)) (plan_any ta ca a b_ tn tc cn cc n c m d f fs ys (min (1000000 : Int) ((bu : Int) + (max (0 : Int) ((min (dn : Int) (1000 : Int)) : Int)) : Int)) w26 hf hx hy) ?_
              clear F ac
              rintro e w44 ⟨ra43, rn43, rc43, rfl, hR43, g, hcp43⟩
              refine ⟨_, rfl, ?_⟩
              intro ac F
              replace G := G.trans g
              replace hC := hC.gr g
              replace GB_ := GB_.trans g
              replace GBB_ := GBB_.trans g
              replace hf := hf.gr g
              replace hx := hx.gr g
              replace hy := hy.gr g
              replace hR10 := hR10.gr g
              replace hR14 := hR14.gr g
              replace hR25 := hR25.gr g
              clear g
              refine Y.pval F (X.w0 rfl) rfl (X.move rfl (F.ev 127 (.tuple #[.slice ra43 rn43 rc43, .int .i64 (planE f fs ys (min (1000000 : Int) ((bu : Int) + (max (0 : Int) ((min (dn : Int) (1000 : Int)) : Int)) : Int)))]) (by kernel_rfl))) ?_
              clear F ac
              intro ac F
              refine Y.pval F (X.w0 rfl) rfl (X.extract rfl (F.ev 120 (.tuple #[.slice ra43 rn43 rc43, .int .i64 (planE f fs ys (min (1000000 : Int) ((bu : Int) + (max (0 : Int) ((min (dn : Int) (1000 : Int)) : Int)) : Int)))]) (by kernel_rfl)) rfl) ?_
              clear F ac
              intro ac F
              refine Y.pval F (X.w0 rfl) rfl (X.extract rfl (F.ev 120 (.tuple #[.slice ra43 rn43 rc43, .int .i64 (planE f fs ys (min (1000000 : Int) ((bu : Int) + (max (0 : Int) ((min (dn : Int) (1000 : Int)) : Int)) : Int)))]) (by kernel_rfl)) rfl) ?_
              clear F ac
              intro ac F
              refine Y.pval F (X.w0 rfl) rfl (X.assign rfl (F.ev 128 (.slice ra43 rn43 rc43) (by kernel_rfl))) ?_
              clear F ac
              intro ac F
              refine Y.pval F (X.w0 rfl) rfl (X.assign rfl (F.ev 129 (.int .i64 (planE f fs ys (min (1000000 : Int) ((bu : Int) + (max (0 : Int) ((min (dn : Int) (1000 : Int)) : Int)) : Int)))) (by kernel_rfl))) ?_
              clear F ac
              intro ac F
              refine Y.nil ?_
              replace F : Fr ac 146 [(0, .agg #[.slice ta tn tc, .slice ca cn cc]), (1, .agg #[.slice a n c, .slice b_ m d]), (2, .agg #[.slice ja j1 j2, .slice jb j3 j4, .int .i64 bu, .int .i64 dn, .slice jc j5 j6]), (3, .pointer (some ⟨w.heap.size, 0, none⟩)), (4, .pointer (some ⟨w3.heap.size, 0, none⟩)), (5, .pointer (some ⟨w4.heap.size, 0, none⟩)), (6, .bool false), (7, .slice ra10 rn10 rc10), (8, .int .i64 (planE f fs ys bu)), (9, .int .i64 (min (1000000 : Int) ((bu : Int) + (max (0 : Int) ((min (dn : Int) (1000 : Int)) : Int)) : Int))), (10, .slice ra14 rn14 rc14), (11, .int .i64 k), (12, .bool b), (13, .int .i64 i), (14, .int .i64 j), (15, .slice ra25 rn25 rc25), (16, .slice ra43 rn43 rc43), (17, .int .i64 (planE f fs ys (min (1000000 : Int) ((bu : Int) + (max (0 : Int) ((min (dn : Int) (1000 : Int)) : Int)) : Int)))), (19, .bool false), (31, .bool false), (50, .bool false), (54, .bool false), (77, .bool false), (93, .bool false), (114, .bool false), (119, .bool false)] := F.sub _ (by kernel_rfl)
              refine X.thenN ?_
              refine Y.seq ?_
              refine Y.lit (by kernel_rfl) ?_
              refine Y.pval F (X.w0 rfl) rfl (X.move rfl (F.ev 8 (.int .i64 (planE f fs ys bu)) (by kernel_rfl))) ?_
              clear F ac
              intro ac F
              refine Y.pval F (X.w0 rfl) rfl (X.binop rfl (F.ev 130 (.int .i64 (planE f fs ys bu)) (by kernel_rfl)) (X.kc (.int .i64 0) rfl) (X.neqI Try.underlying31 h27)) ?_
              clear F ac
              intro ac F
              refine Y.pval F (X.w0 rfl) rfl (X.move rfl (F.ev 131 (.bool true) (by kernel_rfl))) ?_
              clear F ac
              intro ac F
              refine Y.pskip F (X.w2 rfl (F.yl (j := 2) (d := 132) (b := true) rfl (by kernel_rfl)) rfl) rfl ?_
              clear F ac
              intro ac F
              refine Y.pskip F (X.w2 rfl (F.yl (j := 2) (d := 132) (b := true) rfl (by kernel_rfl)) rfl) rfl ?_
              clear F ac
              intro ac F
              refine Y.pskip F (X.w2 rfl (F.yl (j := 2) (d := 132) (b := true) rfl (by kernel_rfl)) rfl) rfl ?_
              clear F ac
              intro ac F
              refine Y.pskip F (Y.w3 rfl (F.yn (j := 5) (d := 135) rfl (by kernel_rfl))) rfl ?_
              clear F ac
              intro ac F
              refine Y.pskip F (Y.w3 rfl (F.yn (j := 5) (d := 135) rfl (by kernel_rfl))) rfl ?_
              clear F ac
              intro ac F
              refine Y.pskip F (Y.w3 rfl (F.yn (j := 5) (d := 135) rfl (by kernel_rfl))) rfl ?_
              clear F ac
              intro ac F
              refine Y.pskip F (Y.w3 rfl (F.yn (j := 5) (d := 135) rfl (by kernel_rfl))) rfl ?_
              clear F ac
              intro ac F
              refine Y.pskip F (Y.w3 rfl (F.yn (j := 5) (d := 135) rfl (by kernel_rfl))) rfl ?_
              clear F ac
              intro ac F
              refine Y.pskip F (X.w2 rfl (F.yl (j := 2) (d := 132) (b := true) rfl (by kernel_rfl)) rfl) rfl ?_
              clear F ac
              intro ac F
              refine Y.pval F (X.w0 rfl) rfl (X.pickT rfl (F.ev 132 (.bool true) (by kernel_rfl)) (X.kc (.bool true) rfl)) ?_
              clear F ac
              intro ac F
              refine Y.pval F (X.w0 rfl) rfl (X.move rfl (F.ev 142 (.bool true) (by kernel_rfl))) ?_
              clear F ac
              intro ac F
              refine Y.pcall F (X.w1 rfl (F.yl (j := 13) (d := 143) (b := true) rfl (by kernel_rfl))) rfl (X.enter (F := 16) rfl (X.kc (.func (.func 16) #[] #[]) rfl) rfl (enters_of Try.func16 (by kernel_rfl) rfl _)) (look_any w44) ?_
              clear F ac
              rintro e w46 ⟨rfl, g⟩
              refine ⟨_, rfl, ?_⟩
              intro ac F
              replace G := G.trans g
              replace hC := hC.gr g
              replace GB_ := GB_.trans g
              replace GBB_ := GBB_.trans g
              replace hf := hf.gr g
              replace hx := hx.gr g
              replace hy := hy.gr g
              replace hR10 := hR10.gr g
              replace hR14 := hR14.gr g
              replace hR25 := hR25.gr g
              replace hR43 := hR43.gr g
              clear g
              refine Y.pval F (X.w0 rfl) rfl (X.pickT rfl (F.ev 143 (.bool true) (by kernel_rfl)) (F.ev 144 (.bool true) (by kernel_rfl))) ?_
              clear F ac
              intro ac F
              refine Y.pval F (X.w0 rfl) rfl (X.assign rfl (F.ev 145 (.bool true) (by kernel_rfl))) ?_
              clear F ac
              intro ac F
              refine Y.nil ?_
              replace F : Fr ac 146 [(0, .agg #[.slice ta tn tc, .slice ca cn cc]), (1, .agg #[.slice a n c, .slice b_ m d]), (2, .agg #[.slice ja j1 j2, .slice jb j3 j4, .int .i64 bu, .int .i64 dn, .slice jc j5 j6]), (3, .pointer (some ⟨w.heap.size, 0, none⟩)), (4, .pointer (some ⟨w3.heap.size, 0, none⟩)), (5, .pointer (some ⟨w4.heap.size, 0, none⟩)), (6, .bool true), (7, .slice ra10 rn10 rc10), (8, .int .i64 (planE f fs ys bu)), (9, .int .i64 (min (1000000 : Int) ((bu : Int) + (max (0 : Int) ((min (dn : Int) (1000 : Int)) : Int)) : Int))), (10, .slice ra14 rn14 rc14), (11, .int .i64 k), (12, .bool b), (13, .int .i64 i), (14, .int .i64 j), (15, .slice ra25 rn25 rc25), (16, .slice ra43 rn43 rc43), (17, .int .i64 (planE f fs ys (min (1000000 : Int) ((bu : Int) + (max (0 : Int) ((min (dn : Int) (1000 : Int)) : Int)) : Int)))), (19, .bool false), (31, .bool false), (50, .bool false), (54, .bool false), (77, .bool false), (93, .bool false), (114, .bool false), (119, .bool false)] := F.sub _ (by kernel_rfl)
              refine X.thenN ?_
              refine Y.ret ?_
              exact Y.ret0 F (Y.rs1 F rfl (by kernel_rfl)) ⟨rfl, G⟩
            | true =>
              try rw [h39] at F
              have h39p : ¬ (planE f fs ys bu : Int) = 112 := by simpa using h39
              refine Y.pval F (X.w1 rfl (F.yl (j := 6) (d := 111) (b := true) rfl (by kernel_rfl))) rfl (X.move rfl (F.ev 8 (.int .i64 (planE f fs ys bu)) (by kernel_rfl))) ?_
              clear F ac
              intro ac F
              refine Y.pval F (X.w1 rfl (F.yl (j := 6) (d := 111) (b := true) rfl (by kernel_rfl))) rfl (X.binop rfl (F.ev 112 (.int .i64 (planE f fs ys bu)) (by kernel_rfl)) (X.kc (.int .i64 111) rfl) (X.neqI Try.underlying31 rfl)) ?_
              clear F ac
              intro ac F
              refine Y.pval F (X.w0 rfl) rfl (X.pickT rfl (F.ev 111 (.bool true) (by kernel_rfl)) (F.ev 113 (.bool ((planE f fs ys bu : Int) != 111)) (by kernel_rfl))) ?_
              clear F ac
              intro ac F
              refine Y.nil ?_
              replace F : Fr ac 146 [(0, .agg #[.slice ta tn tc, .slice ca cn cc]), (1, .agg #[.slice a n c, .slice b_ m d]), (2, .agg #[.slice ja j1 j2, .slice jb j3 j4, .int .i64 bu, .int .i64 dn, .slice jc j5 j6]), (3, .pointer (some ⟨w.heap.size, 0, none⟩)), (4, .pointer (some ⟨w3.heap.size, 0, none⟩)), (5, .pointer (some ⟨w4.heap.size, 0, none⟩)), (6, .bool false), (7, .slice ra10 rn10 rc10), (8, .int .i64 (planE f fs ys bu)), (9, .int .i64 (min (1000000 : Int) ((bu : Int) + (max (0 : Int) ((min (dn : Int) (1000 : Int)) : Int)) : Int))), (10, .slice ra14 rn14 rc14), (11, .int .i64 k), (12, .bool b), (13, .int .i64 i), (14, .int .i64 j), (15, .slice ra25 rn25 rc25), (19, .bool false), (31, .bool false), (50, .bool false), (54, .bool false), (77, .bool false), (93, .bool false), (114, .bool ((planE f fs ys bu : Int) != 111))] := F.sub _ (by kernel_rfl)
              refine X.thenN ?_
              cases h47 : ((planE f fs ys bu : Int) != 111) with
              | false =>
                try rw [h47] at F
                have h47p : (planE f fs ys bu : Int) = 111 := by simpa using h47
                refine Y.condF (F.ev 114 (.bool false) (by kernel_rfl)) ?_
                refine Y.skip ?_
                refine X.thenN ?_
                refine Y.seq ?_
                refine Y.seq ?_
                refine Y.lit (by kernel_rfl) ?_
                refine Y.pval F (X.w0 rfl) rfl (X.move rfl (F.ev 8 (.int .i64 (planE f fs ys bu)) (by kernel_rfl))) ?_
                clear F ac
                intro ac F
                refine Y.pval F (X.w0 rfl) rfl (X.binop rfl (F.ev 116 (.int .i64 (planE f fs ys bu)) (by kernel_rfl)) (X.kc (.int .i64 0) rfl) (X.eqlI Try.underlying31 rfl)) ?_
                clear F ac
                intro ac F
                refine Y.pval F (X.w0 rfl) rfl (X.move rfl (F.ev 12 (.bool b) (by kernel_rfl))) ?_
                clear F ac
                intro ac F
                refine Y.pval F (X.w0 rfl) rfl (X.binop rfl (F.ev 117 (.bool ((planE f fs ys bu : Int) == 0)) (by kernel_rfl)) (F.ev 118 (.bool b) (by kernel_rfl)) (Y.neqB Try.underlying4 rfl)) ?_
                clear F ac
                intro ac F
                refine Y.nil ?_
                replace F : Fr ac 146 [(0, .agg #[.slice ta tn tc, .slice ca cn cc]), (1, .agg #[.slice a n c, .slice b_ m d]), (2, .agg #[.slice ja j1 j2, .slice jb j3 j4, .int .i64 bu, .int .i64 dn, .slice jc j5 j6]), (3, .pointer (some ⟨w.heap.size, 0, none⟩)), (4, .pointer (some ⟨w3.heap.size, 0, none⟩)), (5, .pointer (some ⟨w4.heap.size, 0, none⟩)), (6, .bool false), (7, .slice ra10 rn10 rc10), (8, .int .i64 (planE f fs ys bu)), (9, .int .i64 (min (1000000 : Int) ((bu : Int) + (max (0 : Int) ((min (dn : Int) (1000 : Int)) : Int)) : Int))), (10, .slice ra14 rn14 rc14), (11, .int .i64 k), (12, .bool b), (13, .int .i64 i), (14, .int .i64 j), (15, .slice ra25 rn25 rc25), (19, .bool false), (31, .bool false), (50, .bool false), (54, .bool false), (77, .bool false), (93, .bool false), (114, .bool false), (119, .bool (((planE f fs ys bu : Int) == 0) != b))] := F.sub _ (by kernel_rfl)
                refine X.thenN ?_
                have h49 : (((planE f fs ys bu : Int) == 0) != b) = false := by
                  have h0 := same_in (t := ys) hE0
                  rw [hbE]
                  by_cases hz : planE f fs ys bu = 0
                  · simp [hz, h0.1 hz]
                  · have : ¬ ys ∈ reachR f fs bu := fun h => hz (h0.2 h)
                    simp [hz, this]
                try rw [h49] at F
                refine Y.condF (F.ev 119 (.bool false) (by kernel_rfl)) ?_
                refine Y.skip ?_
                refine X.thenN ?_
                refine Y.seq ?_
                refine Y.lit (by kernel_rfl) ?_
                refine Y.pval F (X.w0 rfl) rfl (X.load rfl (F.ev 3 (.pointer (some ⟨w.heap.size, 0, none⟩)) (by kernel_rfl)) (X.ldN (Try.agg25 _) (Try.siz25 _) (X.c2 (hC.at 0 rfl) (hC.at 1 rfl)))) ?_
                clear F ac
                intro ac F
                refine Y.pval F (X.w0 rfl) rfl (X.field rfl (F.ev 4 (.pointer (some ⟨w3.heap.size, 0, none⟩)) (by kernel_rfl)) (X.fld Try.underlying28 rfl (Try.siz26 _) rfl rfl)) ?_
                clear F ac
                intro ac F
                refine Y.pval F (X.w0 rfl) rfl (X.load rfl (F.ev 122 (.pointer (some ⟨w3.heap.size, 0, none⟩)) (by kernel_rfl)) (X.ld1 (Try.agg26 _) (hC.at 2 rfl))) ?_
                clear F ac
                intro ac F
                refine Y.pval F (X.w0 rfl) rfl (X.field rfl (F.ev 4 (.pointer (some ⟨w3.heap.size, 0, none⟩)) (by kernel_rfl)) (X.fld Try.underlying28 rfl (Try.siz26 _) rfl rfl)) ?_
                clear F ac
                intro ac F
                refine Y.pval F (X.w0 rfl) rfl (X.load rfl (F.ev 124 (.pointer (some ⟨w3.heap.size, 1, none⟩)) (by kernel_rfl)) (X.ld1 (Try.agg26 _) (hC.at 3 rfl))) ?_
                clear F ac
                intro ac F
                refine Y.pval F (X.w0 rfl) rfl (X.move rfl (F.ev 9 (.int .i64 (min (1000000 : Int) ((bu : Int) + (max (0 : Int) ((min (dn : Int) (1000 : Int)) : Int)) : Int))) (by kernel_rfl))) ?_
                clear F ac
                intro ac F
                refine Y.pcall F (X.w0 rfl) rfl (X.enter (F := 17) rfl (X.kc (.func (.func 17) #[] #[]) rfl) (X.a4 (F.ev 121 (.agg #[.slice ta tn tc, .slice ca cn cc]) (by kernel_rfl)) (F.ev 123 (.slice a n c) (by kernel_rfl)) (F.ev 125 (.slice b_ m d) (by kernel_rfl)) (F.ev 126 (.int .i64 (min (1000000 : Int) ((bu : Int) + (max (0 : Int) ((min (dn : Int) (1000 : Int)) : Int)) : Int))) (by kernel_rfl))) (enters_of Try.func17 (by kernel_rfl) rfl _)) (plan_any ta ca a b_ tn tc cn cc n c m d f fs ys (min (1000000 : Int) ((bu : Int) + (max (0 : Int) ((min (dn : Int) (1000 : Int)) : Int)) : Int)) w26 hf hx hy) ?_
                clear F ac
                rintro e w52 ⟨ra51, rn51, rc51, rfl, hR51, g, hcp51⟩
                refine ⟨_, rfl, ?_⟩
                intro ac F
                replace G := G.trans g
                replace hC := hC.gr g
                replace GB_ := GB_.trans g
                replace GBB_ := GBB_.trans g
                replace hf := hf.gr g
                replace hx := hx.gr g
                replace hy := hy.gr g
                replace hR10 := hR10.gr g
                replace hR14 := hR14.gr g
                replace hR25 := hR25.gr g
                clear g
                refine Y.pval F (X.w0 rfl) rfl (X.move rfl (F.ev 127 (.tuple #[.slice ra51 rn51 rc51, .int .i64 (planE f fs ys (min (1000000 : Int) ((bu : Int) + (max (0 : Int) ((min (dn : Int) (1000 : Int)) : Int)) : Int)))]) (by kernel_rfl))) ?_
                clear F ac
                intro ac F
                refine Y.pval F (X.w0 rfl) rfl (X.extract rfl (F.ev 120 (.tuple #[.slice ra51 rn51 rc51, .int .i64 (planE f fs ys (min (1000000 : Int) ((bu : Int) + (max (0 : Int) ((min (dn : Int) (1000 : Int)) : Int)) : Int)))]) (by kernel_rfl)) rfl) ?_
                clear F ac
                intro ac F
                refine Y.pval F (X.w0 rfl) rfl (X.extract rfl (F.ev 120 (.tuple #[.slice ra51 rn51 rc51, .int .i64 (planE f fs ys (min (1000000 : Int) ((bu : Int) + (max (0 : Int) ((min (dn : Int) (1000 : Int)) : Int)) : Int)))]) (by kernel_rfl)) rfl) ?_
                clear F ac
                intro ac F
                refine Y.pval F (X.w0 rfl) rfl (X.assign rfl (F.ev 128 (.slice ra51 rn51 rc51) (by kernel_rfl))) ?_
                clear F ac
                intro ac F
                refine Y.pval F (X.w0 rfl) rfl (X.assign rfl (F.ev 129 (.int .i64 (planE f fs ys (min (1000000 : Int) ((bu : Int) + (max (0 : Int) ((min (dn : Int) (1000 : Int)) : Int)) : Int)))) (by kernel_rfl))) ?_
                clear F ac
                intro ac F
                refine Y.nil ?_
                replace F : Fr ac 146 [(0, .agg #[.slice ta tn tc, .slice ca cn cc]), (1, .agg #[.slice a n c, .slice b_ m d]), (2, .agg #[.slice ja j1 j2, .slice jb j3 j4, .int .i64 bu, .int .i64 dn, .slice jc j5 j6]), (3, .pointer (some ⟨w.heap.size, 0, none⟩)), (4, .pointer (some ⟨w3.heap.size, 0, none⟩)), (5, .pointer (some ⟨w4.heap.size, 0, none⟩)), (6, .bool false), (7, .slice ra10 rn10 rc10), (8, .int .i64 (planE f fs ys bu)), (9, .int .i64 (min (1000000 : Int) ((bu : Int) + (max (0 : Int) ((min (dn : Int) (1000 : Int)) : Int)) : Int))), (10, .slice ra14 rn14 rc14), (11, .int .i64 k), (12, .bool b), (13, .int .i64 i), (14, .int .i64 j), (15, .slice ra25 rn25 rc25), (16, .slice ra51 rn51 rc51), (17, .int .i64 (planE f fs ys (min (1000000 : Int) ((bu : Int) + (max (0 : Int) ((min (dn : Int) (1000 : Int)) : Int)) : Int)))), (19, .bool false), (31, .bool false), (50, .bool false), (54, .bool false), (77, .bool false), (93, .bool false), (114, .bool false), (119, .bool false)] := F.sub _ (by kernel_rfl)
                refine X.thenN ?_
                refine Y.seq ?_
                refine Y.lit (by kernel_rfl) ?_
                refine Y.pval F (X.w0 rfl) rfl (X.move rfl (F.ev 8 (.int .i64 (planE f fs ys bu)) (by kernel_rfl))) ?_
                clear F ac
                intro ac F
                refine Y.pval F (X.w0 rfl) rfl (X.binop rfl (F.ev 130 (.int .i64 (planE f fs ys bu)) (by kernel_rfl)) (X.kc (.int .i64 0) rfl) (X.neqI Try.underlying31 h27)) ?_
                clear F ac
                intro ac F
                refine Y.pval F (X.w0 rfl) rfl (X.move rfl (F.ev 131 (.bool true) (by kernel_rfl))) ?_
                clear F ac
                intro ac F
                refine Y.pskip F (X.w2 rfl (F.yl (j := 2) (d := 132) (b := true) rfl (by kernel_rfl)) rfl) rfl ?_
                clear F ac
                intro ac F
                refine Y.pskip F (X.w2 rfl (F.yl (j := 2) (d := 132) (b := true) rfl (by kernel_rfl)) rfl) rfl ?_
                clear F ac
                intro ac F
                refine Y.pskip F (X.w2 rfl (F.yl (j := 2) (d := 132) (b := true) rfl (by kernel_rfl)) rfl) rfl ?_
                clear F ac
                intro ac F
                refine Y.pskip F (Y.w3 rfl (F.yn (j := 5) (d := 135) rfl (by kernel_rfl))) rfl ?_
                clear F ac
                intro ac F
                refine Y.pskip F (Y.w3 rfl (F.yn (j := 5) (d := 135) rfl (by kernel_rfl))) rfl ?_
                clear F ac
                intro ac F
                refine Y.pskip F (Y.w3 rfl (F.yn (j := 5) (d := 135) rfl (by kernel_rfl))) rfl ?_
                clear F ac
                intro ac F
                refine Y.pskip F (Y.w3 rfl (F.yn (j := 5) (d := 135) rfl (by kernel_rfl))) rfl ?_
                clear F ac
                intro ac F
                refine Y.pskip F (Y.w3 rfl (F.yn (j := 5) (d := 135) rfl (by kernel_rfl))) rfl ?_
                clear F ac
                intro ac F
                refine Y.pskip F (X.w2 rfl (F.yl (j := 2) (d := 132) (b := true) rfl (by kernel_rfl)) rfl) rfl ?_
                clear F ac
                intro ac F
                refine Y.pval F (X.w0 rfl) rfl (X.pickT rfl (F.ev 132 (.bool true) (by kernel_rfl)) (X.kc (.bool true) rfl)) ?_
                clear F ac
                intro ac F
                refine Y.pval F (X.w0 rfl) rfl (X.move rfl (F.ev 142 (.bool true) (by kernel_rfl))) ?_
                clear F ac
                intro ac F
                refine Y.pcall F (X.w1 rfl (F.yl (j := 13) (d := 143) (b := true) rfl (by kernel_rfl))) rfl (X.enter (F := 16) rfl (X.kc (.func (.func 16) #[] #[]) rfl) rfl (enters_of Try.func16 (by kernel_rfl) rfl _)) (look_any w52) ?_
                clear F ac
                rintro e w54 ⟨rfl, g⟩
                refine ⟨_, rfl, ?_⟩
                intro ac F
                replace G := G.trans g
                replace hC := hC.gr g
                replace GB_ := GB_.trans g
                replace GBB_ := GBB_.trans g
                replace hf := hf.gr g
                replace hx := hx.gr g
                replace hy := hy.gr g
                replace hR10 := hR10.gr g
                replace hR14 := hR14.gr g
                replace hR25 := hR25.gr g
                replace hR51 := hR51.gr g
                clear g
                refine Y.pval F (X.w0 rfl) rfl (X.pickT rfl (F.ev 143 (.bool true) (by kernel_rfl)) (F.ev 144 (.bool true) (by kernel_rfl))) ?_
                clear F ac
                intro ac F
                refine Y.pval F (X.w0 rfl) rfl (X.assign rfl (F.ev 145 (.bool true) (by kernel_rfl))) ?_
                clear F ac
                intro ac F
                refine Y.nil ?_
                replace F : Fr ac 146 [(0, .agg #[.slice ta tn tc, .slice ca cn cc]), (1, .agg #[.slice a n c, .slice b_ m d]), (2, .agg #[.slice ja j1 j2, .slice jb j3 j4, .int .i64 bu, .int .i64 dn, .slice jc j5 j6]), (3, .pointer (some ⟨w.heap.size, 0, none⟩)), (4, .pointer (some ⟨w3.heap.size, 0, none⟩)), (5, .pointer (some ⟨w4.heap.size, 0, none⟩)), (6, .bool true), (7, .slice ra10 rn10 rc10), (8, .int .i64 (planE f fs ys bu)), (9, .int .i64 (min (1000000 : Int) ((bu : Int) + (max (0 : Int) ((min (dn : Int) (1000 : Int)) : Int)) : Int))), (10, .slice ra14 rn14 rc14), (11, .int .i64 k), (12, .bool b), (13, .int .i64 i), (14, .int .i64 j), (15, .slice ra25 rn25 rc25), (16, .slice ra51 rn51 rc51), (17, .int .i64 (planE f fs ys (min (1000000 : Int) ((bu : Int) + (max (0 : Int) ((min (dn : Int) (1000 : Int)) : Int)) : Int)))), (19, .bool false), (31, .bool false), (50, .bool false), (54, .bool false), (77, .bool false), (93, .bool false), (114, .bool false), (119, .bool false)] := F.sub _ (by kernel_rfl)
                refine X.thenN ?_
                refine Y.ret ?_
                exact Y.ret0 F (Y.rs1 F rfl (by kernel_rfl)) ⟨rfl, G⟩
              | true =>
                try rw [h47] at F
                have h47p : ¬ (planE f fs ys bu : Int) = 111 := by simpa using h47
                refine Y.condT (F.ev 114 (.bool true) (by kernel_rfl)) ?_
                refine Y.seq ?_
                refine Y.lit (by kernel_rfl) ?_
                refine Y.pcall F (X.w0 rfl) rfl (X.enter (F := 16) rfl (X.kc (.func (.func 16) #[] #[]) rfl) rfl (enters_of Try.func16 (by kernel_rfl) rfl _)) (look_any w26) ?_
                clear F ac
                rintro e w56 ⟨rfl, g⟩
                refine ⟨_, rfl, ?_⟩
                intro ac F
                replace G := G.trans g
                replace hC := hC.gr g
                replace GB_ := GB_.trans g
                replace GBB_ := GBB_.trans g
                replace hf := hf.gr g
                replace hx := hx.gr g
                replace hy := hy.gr g
                replace hR10 := hR10.gr g
                replace hR14 := hR14.gr g
                replace hR25 := hR25.gr g
                clear g
                refine Y.pval F (X.w0 rfl) rfl (X.assign rfl (F.ev 115 (.bool true) (by kernel_rfl))) ?_
                clear F ac
                intro ac F
                refine Y.nil ?_
                replace F : Fr ac 146 [(0, .agg #[.slice ta tn tc, .slice ca cn cc]), (1, .agg #[.slice a n c, .slice b_ m d]), (2, .agg #[.slice ja j1 j2, .slice jb j3 j4, .int .i64 bu, .int .i64 dn, .slice jc j5 j6]), (3, .pointer (some ⟨w.heap.size, 0, none⟩)), (4, .pointer (some ⟨w3.heap.size, 0, none⟩)), (5, .pointer (some ⟨w4.heap.size, 0, none⟩)), (6, .bool true), (7, .slice ra10 rn10 rc10), (8, .int .i64 (planE f fs ys bu)), (9, .int .i64 (min (1000000 : Int) ((bu : Int) + (max (0 : Int) ((min (dn : Int) (1000 : Int)) : Int)) : Int))), (10, .slice ra14 rn14 rc14), (11, .int .i64 k), (12, .bool b), (13, .int .i64 i), (14, .int .i64 j), (15, .slice ra25 rn25 rc25), (19, .bool false), (31, .bool false), (50, .bool false), (54, .bool false), (77, .bool false), (93, .bool false), (114, .bool true)] := F.sub _ (by kernel_rfl)
                refine X.thenN ?_
                refine Y.ret ?_
                refine X.thenR ?_
                exact Y.ret0 F (Y.rs1 F rfl (by kernel_rfl)) ⟨rfl, G⟩
        | true =>
          try rw [h21] at F
          have h21p : ((j : Int) < rn10) := of_decide_eq_true h21
          refine Y.condT (F.ev 77 (.bool true) (by kernel_rfl)) ?_
          refine Y.skip ?_
          refine X.thenN ?_
          refine Y.seq ?_
          refine Y.block ?_
          cases h57 : b with
          | false =>
            try rw [h57] at F
            obtain ⟨pd58, pa58, rn58, pq58, pe58, -, pc58, pi58⟩ := hR10.at (j := j) (by omega)
            subst pe58
            replace hC : RCells w20 [(⟨w.heap.size, 0, none⟩, .slice ta tn tc), (⟨w.heap.size, 1, none⟩, .slice ca cn cc), (⟨w3.heap.size, 0, none⟩, .slice a n c), (⟨w3.heap.size, 1, none⟩, .slice b_ m d), (⟨w4.heap.size, 0, none⟩, .slice ja j1 j2), (⟨w4.heap.size, 1, none⟩, .slice jb j3 j4), (⟨w4.heap.size, 2, none⟩, .int .i64 bu), (⟨w4.heap.size, 3, none⟩, .int .i64 dn), (⟨w4.heap.size, 4, none⟩, .slice jc j5 j6), (pd58.add j, .slice pa58 rn58 pq58)] := hC.append ((RCells.cons pc58 (RCells.nil _)))
            clear pc58
            refine Y.region F [some (.bool false), some (.bool false), some (.slice (some pd58) rn10 rc10), some (.int .i64 j), some (.pointer (some (pd58.add j))), some (.slice pa58 rn58 pq58), some (.pointer (some ⟨w3.heap.size, 1, none⟩)), some (.slice b_ m d), some (.bool (decide (((reachR f fs bu)[j]?.getD []) = ys))), some (.bool (decide (((reachR f fs bu)[j]?.getD []) = ys))), some (.bool (decide (((reachR f fs bu)[j]?.getD []) = ys)))] [] rfl ⟨by kernel_rfl, of_decide_eq_true (by kernel_rfl), by kernel_rfl, by kernel_rfl, by kernel_rfl⟩ ⟨?_, ?_, ?_, ?_, ?_, ?_, ?_, ?_, ?_, ?_, ?_, trivial⟩ ?_
            · intro ac done u W Sx hR
              have g : Gr w20 W := hR.1
              exact X.val (X.w0 rfl) rfl (X.move rfl (Sx.ev 12 (.bool false) (by kernel_rfl))) (hR.step (Gr.refl _) rfl)
            · intro ac done u W Sx hR
              have g : Gr w20 W := hR.1
              exact X.val (X.w0 rfl) rfl (X.move rfl (Sx.ev 80 (.bool false) (by kernel_rfl))) (hR.step (Gr.refl _) rfl)
            · intro ac done u W Sx hR
              have g : Gr w20 W := hR.1
              exact X.val (X.w1 rfl (Sx.yl 1 81 false (by kernel_rfl) rfl rfl)) rfl (X.move rfl (Sx.ev 7 (.slice (some pd58) rn10 rc10) (by kernel_rfl))) (hR.step (Gr.refl _) rfl)
            · intro ac done u W Sx hR
              have g : Gr w20 W := hR.1
              exact X.val (X.w1 rfl (Sx.yl 1 81 false (by kernel_rfl) rfl rfl)) rfl (X.move rfl (Sx.ev 14 (.int .i64 j) (by kernel_rfl))) (hR.step (Gr.refl _) rfl)
            · intro ac done u W Sx hR
              have g : Gr w20 W := hR.1
              exact X.val (X.w1 rfl (Sx.yl 1 81 false (by kernel_rfl) rfl rfl)) rfl (X.index rfl (Sx.ev 82 (.slice (some pd58) rn10 rc10) (by kernel_rfl)) (Sx.ev 83 (.int .i64 j) (by kernel_rfl)) (X.idx (k := j) Try.underlying22 (Try.siz26 _) (by omega) (by omega) (by rw [Nat.mul_one]))) (hR.step (Gr.refl _) rfl)
            · intro ac done u W Sx hR
              have g : Gr w20 W := hR.1
              exact X.val (X.w1 rfl (Sx.yl 1 81 false (by kernel_rfl) rfl rfl)) rfl (X.load rfl (Sx.ev 84 (.pointer (some (pd58.add j))) (by kernel_rfl)) (X.ld1 (Try.agg26 _) ((hC.gr g).at 9 rfl))) (hR.step (Gr.refl _) rfl)
            · intro ac done u W Sx hR
              have g : Gr w20 W := hR.1
              exact X.val (X.w1 rfl (Sx.yl 1 81 false (by kernel_rfl) rfl rfl)) rfl (X.field rfl (Sx.ev 4 (.pointer (some ⟨w3.heap.size, 0, none⟩)) (by kernel_rfl)) (X.fld Try.underlying28 rfl (Try.siz26 _) rfl rfl)) (hR.step (Gr.refl _) rfl)
            · intro ac done u W Sx hR
              have g : Gr w20 W := hR.1
              exact X.val (X.w1 rfl (Sx.yl 1 81 false (by kernel_rfl) rfl rfl)) rfl (X.load rfl (Sx.ev 86 (.pointer (some ⟨w3.heap.size, 1, none⟩)) (by kernel_rfl)) (X.ld1 (Try.agg26 _) ((hC.gr g).at 3 rfl))) (hR.step (Gr.refl _) rfl)
            · intro ac done u W Sx hR
              have g : Gr w20 W := hR.1
              refine X.call (X.w1 rfl (Sx.yl 1 81 false (by kernel_rfl) rfl rfl)) (X.enter (F := 22) rfl (X.kc (.func (.func 22) #[] #[]) rfl) (X.a2 (Sx.ev 85 (.slice pa58 rn58 pq58) (by kernel_rfl)) (Sx.ev 87 (.slice b_ m d) (by kernel_rfl))) (enters_of Try.func22 (by kernel_rfl) rfl _)) (sameInts_any pa58 b_ rn58 pq58 m d ((reachR f fs bu)[j]?.getD []) ys W (pi58.gr g) (hy.gr g)) ?_
              rintro e W2 ⟨rfl, q, rfl⟩
              exact ⟨_, rfl, X.kn rfl, hR.step (Gr.drewN _ _) rfl⟩
            · intro ac done u W Sx hR
              have g : Gr w20 W := hR.1
              exact X.val (X.w0 rfl) rfl (X.pickF rfl (Sx.ev 81 (.bool false) (by kernel_rfl)) (Sx.ev 88 (.bool (decide (((reachR f fs bu)[j]?.getD []) = ys))) (by kernel_rfl))) (hR.step (Gr.refl _) rfl)
            · intro ac done u W Sx hR
              have g : Gr w20 W := hR.1
              exact X.val (X.w0 rfl) rfl (X.assign rfl (Sx.ev 89 (.bool (decide (((reachR f fs bu)[j]?.getD []) = ys))) (by kernel_rfl))) (hR.step (Gr.refl _) rfl)
            intro ac u w60 hs hd hl ho hR
            have g : Gr w20 w60 := hR.1
            replace F : Fr ac 146 [(0, .agg #[.slice ta tn tc, .slice ca cn cc]), (1, .agg #[.slice a n c, .slice b_ m d]), (2, .agg #[.slice ja j1 j2, .slice jb j3 j4, .int .i64 bu, .int .i64 dn, .slice jc j5 j6]), (3, .pointer (some ⟨w.heap.size, 0, none⟩)), (4, .pointer (some ⟨w3.heap.size, 0, none⟩)), (5, .pointer (some ⟨w4.heap.size, 0, none⟩)), (6, .bool false), (7, .slice (some pd58) rn10 rc10), (8, .int .i64 (reachE f fs (min (1000000 : Int) ((bu : Int) + (max (0 : Int) ((min (dn : Int) (1000 : Int)) : Int)) : Int)))), (9, .int .i64 (min (1000000 : Int) ((bu : Int) + (max (0 : Int) ((min (dn : Int) (1000 : Int)) : Int)) : Int))), (10, .slice ra14 rn14 rc14), (11, .int .i64 k), (12, .bool (decide (((reachR f fs bu)[j]?.getD []) = ys))), (13, .int .i64 i), (14, .int .i64 j), (19, .bool false), (31, .bool false), (50, .bool false), (54, .bool false), (77, .bool true)] := X.fr hs hd hl _ (by kernel_rfl)
            clear hs hd hl ho hR
            replace G := G.trans g
            replace hC := hC.gr g
            replace GB_ := GB_.trans g
            replace GBB_ := GBB_.trans g
            replace hf := hf.gr g
            replace hx := hx.gr g
            replace hy := hy.gr g
            replace hR10 := hR10.gr g
            replace hR14 := hR14.gr g
            replace pi58 := pi58.gr g
            clear g
            refine X.blockN ?_
            refine X.thenN ?_
            refine Y.lit (by kernel_rfl) ?_
            refine Y.pval F (X.w0 rfl) rfl (X.move rfl (F.ev 14 (.int .i64 j) (by kernel_rfl))) ?_
            clear F ac
            intro ac F
            refine Y.pval F (X.w0 rfl) rfl (X.binop rfl (F.ev 78 (.int .i64 j) (by kernel_rfl)) (X.kc (.int .i64 1) rfl) (X.addI Try.underlying3 rfl (by omega) (by omega))) ?_
            clear F ac
            intro ac F
            refine Y.pval F (X.w0 rfl) rfl (X.assign rfl (F.ev 79 (.int .i64 ((j : Int) + 1)) (by kernel_rfl))) ?_
            clear F ac
            intro ac F
            refine Y.nil ?_
            replace F : Fr ac 146 [(0, .agg #[.slice ta tn tc, .slice ca cn cc]), (1, .agg #[.slice a n c, .slice b_ m d]), (2, .agg #[.slice ja j1 j2, .slice jb j3 j4, .int .i64 bu, .int .i64 dn, .slice jc j5 j6]), (3, .pointer (some ⟨w.heap.size, 0, none⟩)), (4, .pointer (some ⟨w3.heap.size, 0, none⟩)), (5, .pointer (some ⟨w4.heap.size, 0, none⟩)), (6, .bool false), (7, .slice (some pd58) rn10 rc10), (8, .int .i64 (reachE f fs (min (1000000 : Int) ((bu : Int) + (max (0 : Int) ((min (dn : Int) (1000 : Int)) : Int)) : Int)))), (9, .int .i64 (min (1000000 : Int) ((bu : Int) + (max (0 : Int) ((min (dn : Int) (1000 : Int)) : Int)) : Int))), (10, .slice ra14 rn14 rc14), (11, .int .i64 k), (12, .bool (decide (((reachR f fs bu)[j]?.getD []) = ys))), (13, .int .i64 i), (14, .int .i64 ((j : Int) + 1)), (19, .bool false), (31, .bool false), (50, .bool false), (54, .bool false), (77, .bool true)] := F.sub _ (by kernel_rfl)
            refine X.thenN ?_
            refine ⟨_, ?_, j + 1, (decide (((reachR f fs bu)[j]?.getD []) = ys)), rfl, GBB_, by omega, by rw [seen_succ (by omega), ← hb, h57]; simp, F.sub _ (by kernel_rfl)⟩
            omega
          | true =>
            try rw [h57] at F
            refine Y.region F [some (.bool true), some (.bool true), none, none, none, none, none, none, none, some (.bool true), some (.bool true)] [] rfl ⟨by kernel_rfl, of_decide_eq_true (by kernel_rfl), by kernel_rfl, by kernel_rfl, by kernel_rfl⟩ ⟨?_, ?_, ?_, ?_, ?_, ?_, ?_, ?_, ?_, ?_, ?_, trivial⟩ ?_
            · intro ac done u W Sx hR
              have g : Gr w20 W := hR.1
              exact X.val (X.w0 rfl) rfl (X.move rfl (Sx.ev 12 (.bool true) (by kernel_rfl))) (hR.step (Gr.refl _) rfl)
            · intro ac done u W Sx hR
              have g : Gr w20 W := hR.1
              exact X.val (X.w0 rfl) rfl (X.move rfl (Sx.ev 80 (.bool true) (by kernel_rfl))) (hR.step (Gr.refl _) rfl)
            · intro ac done u W Sx hR
              have g : Gr w20 W := hR.1
              exact X.skip (X.w2 rfl (Sx.yl 1 81 true (by kernel_rfl) rfl rfl) rfl) rfl (hR.skip rfl)
            · intro ac done u W Sx hR
              have g : Gr w20 W := hR.1
              exact X.skip (X.w2 rfl (Sx.yl 1 81 true (by kernel_rfl) rfl rfl) rfl) rfl (hR.skip rfl)
            · intro ac done u W Sx hR
              have g : Gr w20 W := hR.1
              exact X.skip (X.w2 rfl (Sx.yl 1 81 true (by kernel_rfl) rfl rfl) rfl) rfl (hR.skip rfl)
            · intro ac done u W Sx hR
              have g : Gr w20 W := hR.1
              exact X.skip (X.w2 rfl (Sx.yl 1 81 true (by kernel_rfl) rfl rfl) rfl) rfl (hR.skip rfl)
            · intro ac done u W Sx hR
              have g : Gr w20 W := hR.1
              exact X.skip (X.w2 rfl (Sx.yl 1 81 true (by kernel_rfl) rfl rfl) rfl) rfl (hR.skip rfl)
            · intro ac done u W Sx hR
              have g : Gr w20 W := hR.1
              exact X.skip (X.w2 rfl (Sx.yl 1 81 true (by kernel_rfl) rfl rfl) rfl) rfl (hR.skip rfl)
            · intro ac done u W Sx hR
              have g : Gr w20 W := hR.1
              exact X.skip (X.w2 rfl (Sx.yl 1 81 true (by kernel_rfl) rfl rfl) rfl) rfl (hR.skip rfl)
            · intro ac done u W Sx hR
              have g : Gr w20 W := hR.1
              exact X.val (X.w0 rfl) rfl (X.pickT rfl (Sx.ev 81 (.bool true) (by kernel_rfl)) (X.kc (.bool true) rfl)) (hR.step (Gr.refl _) rfl)
            · intro ac done u W Sx hR
              have g : Gr w20 W := hR.1
              exact X.val (X.w0 rfl) rfl (X.assign rfl (Sx.ev 89 (.bool true) (by kernel_rfl))) (hR.step (Gr.refl _) rfl)
            intro ac u w61 hs hd hl ho hR
            have g : Gr w20 w61 := hR.1
            replace F : Fr ac 146 [(0, .agg #[.slice ta tn tc, .slice ca cn cc]), (1, .agg #[.slice a n c, .slice b_ m d]), (2, .agg #[.slice ja j1 j2, .slice jb j3 j4, .int .i64 bu, .int .i64 dn, .slice jc j5 j6]), (3, .pointer (some ⟨w.heap.size, 0, none⟩)), (4, .pointer (some ⟨w3.heap.size, 0, none⟩)), (5, .pointer (some ⟨w4.heap.size, 0, none⟩)), (6, .bool false), (7, .slice ra10 rn10 rc10), (8, .int .i64 (reachE f fs (min (1000000 : Int) ((bu : Int) + (max (0 : Int) ((min (dn : Int) (1000 : Int)) : Int)) : Int)))), (9, .int .i64 (min (1000000 : Int) ((bu : Int) + (max (0 : Int) ((min (dn : Int) (1000 : Int)) : Int)) : Int))), (10, .slice ra14 rn14 rc14), (11, .int .i64 k), (12, .bool true), (13, .int .i64 i), (14, .int .i64 j), (19, .bool false), (31, .bool false), (50, .bool false), (54, .bool false), (77, .bool true)] := X.fr hs hd hl _ (by kernel_rfl)
            clear hs hd hl ho hR
            replace G := G.trans g
            replace hC := hC.gr g
            replace GB_ := GB_.trans g
            replace GBB_ := GBB_.trans g
            replace hf := hf.gr g
            replace hx := hx.gr g
            replace hy := hy.gr g
            replace hR10 := hR10.gr g
            replace hR14 := hR14.gr g
            clear g
            refine X.blockN ?_
            refine X.thenN ?_
            refine Y.lit (by kernel_rfl) ?_
            refine Y.pval F (X.w0 rfl) rfl (X.move rfl (F.ev 14 (.int .i64 j) (by kernel_rfl))) ?_
            clear F ac
            intro ac F
            refine Y.pval F (X.w0 rfl) rfl (X.binop rfl (F.ev 78 (.int .i64 j) (by kernel_rfl)) (X.kc (.int .i64 1) rfl) (X.addI Try.underlying3 rfl (by omega) (by omega))) ?_
            clear F ac
            intro ac F
            refine Y.pval F (X.w0 rfl) rfl (X.assign rfl (F.ev 79 (.int .i64 ((j : Int) + 1)) (by kernel_rfl))) ?_
            clear F ac
            intro ac F
            refine Y.nil ?_
            replace F : Fr ac 146 [(0, .agg #[.slice ta tn tc, .slice ca cn cc]), (1, .agg #[.slice a n c, .slice b_ m d]), (2, .agg #[.slice ja j1 j2, .slice jb j3 j4, .int .i64 bu, .int .i64 dn, .slice jc j5 j6]), (3, .pointer (some ⟨w.heap.size, 0, none⟩)), (4, .pointer (some ⟨w3.heap.size, 0, none⟩)), (5, .pointer (some ⟨w4.heap.size, 0, none⟩)), (6, .bool false), (7, .slice ra10 rn10 rc10), (8, .int .i64 (reachE f fs (min (1000000 : Int) ((bu : Int) + (max (0 : Int) ((min (dn : Int) (1000 : Int)) : Int)) : Int)))), (9, .int .i64 (min (1000000 : Int) ((bu : Int) + (max (0 : Int) ((min (dn : Int) (1000 : Int)) : Int)) : Int))), (10, .slice ra14 rn14 rc14), (11, .int .i64 k), (12, .bool true), (13, .int .i64 i), (14, .int .i64 ((j : Int) + 1)), (19, .bool false), (31, .bool false), (50, .bool false), (54, .bool false), (77, .bool true)] := F.sub _ (by kernel_rfl)
            refine X.thenN ?_
            refine ⟨_, ?_, j + 1, true, rfl, GBB_, by omega, by rw [seen_succ (by omega), ← hb, h57]; rfl, F.sub _ (by kernel_rfl)⟩
            omega
      | true =>
        try rw [h19] at F
        have h19p : ((i : Int) < rn14) := of_decide_eq_true h19
        refine Y.condT (F.ev 54 (.bool true) (by kernel_rfl)) ?_
        refine Y.skip ?_
        refine X.thenN ?_
        refine Y.seq ?_
        refine Y.block ?_
        refine Y.seq ?_
        cases h62 : decide ((k : Int) < rn10) with
        | false =>
          try rw [h62] at F
          have h62p : ¬ ((k : Int) < rn10) := of_decide_eq_false h62
          have hsc := scan_out (few := (reachR f fs bu)) (many := (reachR f fs (min (1000000 : Int) ((bu : Int) + (max (0 : Int) ((min (dn : Int) (1000 : Int)) : Int)) : Int)))) (k := k) (i := i + 1) (by omega)
          refine Y.region F [some (.int .i64 k), some (.slice ra10 rn10 rc10), some (.int .i64 rn10), some (.bool false), some (.bool false), none, none, none, none, none, none, none, none, none, some (.bool false)] [] rfl ⟨by kernel_rfl, of_decide_eq_true (by kernel_rfl), by kernel_rfl, by kernel_rfl, by kernel_rfl⟩ ⟨?_, ?_, ?_, ?_, ?_, ?_, ?_, ?_, ?_, ?_, ?_, ?_, ?_, ?_, ?_, trivial⟩ ?_
          · intro ac done u W Sx hR
            have g : Gr w18 W := hR.1
            exact X.val (X.w0 rfl) rfl (X.move rfl (Sx.ev 11 (.int .i64 k) (by kernel_rfl))) (hR.step (Gr.refl _) rfl)
          · intro ac done u W Sx hR
            have g : Gr w18 W := hR.1
            exact X.val (X.w0 rfl) rfl (X.move rfl (Sx.ev 7 (.slice ra10 rn10 rc10) (by kernel_rfl))) (hR.step (Gr.refl _) rfl)
          · intro ac done u W Sx hR
            have g : Gr w18 W := hR.1
            exact X.val (X.w0 rfl) rfl (X.len1 Try.underlying22 rfl (Sx.ev 58 (.slice ra10 rn10 rc10) (by kernel_rfl))) (hR.step (Gr.refl _) rfl)
          · intro ac done u W Sx hR
            have g : Gr w18 W := hR.1
            exact X.val (X.w0 rfl) rfl (X.binop rfl (Sx.ev 57 (.int .i64 k) (by kernel_rfl)) (Sx.ev 59 (.int .i64 rn10) (by kernel_rfl)) (X.lssI Try.underlying3 h62)) (hR.step (Gr.refl _) rfl)
          · intro ac done u W Sx hR
            have g : Gr w18 W := hR.1
            exact X.val (X.w0 rfl) rfl (X.move rfl (Sx.ev 60 (.bool false) (by kernel_rfl))) (hR.step (Gr.refl _) rfl)
          · intro ac done u W Sx hR
            have g : Gr w18 W := hR.1
            exact X.skip (X.w2 rfl (Sx.yl 4 61 false (by kernel_rfl) rfl rfl) rfl) rfl (hR.skip rfl)
          · intro ac done u W Sx hR
            have g : Gr w18 W := hR.1
            exact X.skip (X.w2 rfl (Sx.yl 4 61 false (by kernel_rfl) rfl rfl) rfl) rfl (hR.skip rfl)
          · intro ac done u W Sx hR
            have g : Gr w18 W := hR.1
            exact X.skip (X.w2 rfl (Sx.yl 4 61 false (by kernel_rfl) rfl rfl) rfl) rfl (hR.skip rfl)
          · intro ac done u W Sx hR
            have g : Gr w18 W := hR.1
            exact X.skip (X.w2 rfl (Sx.yl 4 61 false (by kernel_rfl) rfl rfl) rfl) rfl (hR.skip rfl)
          · intro ac done u W Sx hR
            have g : Gr w18 W := hR.1
            exact X.skip (X.w2 rfl (Sx.yl 4 61 false (by kernel_rfl) rfl rfl) rfl) rfl (hR.skip rfl)
          · intro ac done u W Sx hR
            have g : Gr w18 W := hR.1
            exact X.skip (X.w2 rfl (Sx.yl 4 61 false (by kernel_rfl) rfl rfl) rfl) rfl (hR.skip rfl)
          · intro ac done u W Sx hR
            have g : Gr w18 W := hR.1
            exact X.skip (X.w2 rfl (Sx.yl 4 61 false (by kernel_rfl) rfl rfl) rfl) rfl (hR.skip rfl)
          · intro ac done u W Sx hR
            have g : Gr w18 W := hR.1
            exact X.skip (X.w2 rfl (Sx.yl 4 61 false (by kernel_rfl) rfl rfl) rfl) rfl (hR.skip rfl)
          · intro ac done u W Sx hR
            have g : Gr w18 W := hR.1
            exact X.skip (X.w2 rfl (Sx.yl 4 61 false (by kernel_rfl) rfl rfl) rfl) rfl (hR.skip rfl)
          · intro ac done u W Sx hR
            have g : Gr w18 W := hR.1
            exact X.val (X.w0 rfl) rfl (X.pickF rfl (Sx.ev 61 (.bool false) (by kernel_rfl)) (X.kc (.bool false) rfl)) (hR.step (Gr.refl _) rfl)
          intro ac u w63 hs hd hl ho hR
          have g : Gr w18 w63 := hR.1
          replace F : Fr ac 146 [(0, .agg #[.slice ta tn tc, .slice ca cn cc]), (1, .agg #[.slice a n c, .slice b_ m d]), (2, .agg #[.slice ja j1 j2, .slice jb j3 j4, .int .i64 bu, .int .i64 dn, .slice jc j5 j6]), (3, .pointer (some ⟨w.heap.size, 0, none⟩)), (4, .pointer (some ⟨w3.heap.size, 0, none⟩)), (5, .pointer (some ⟨w4.heap.size, 0, none⟩)), (6, .bool false), (7, .slice ra10 rn10 rc10), (8, .int .i64 (reachE f fs (min (1000000 : Int) ((bu : Int) + (max (0 : Int) ((min (dn : Int) (1000 : Int)) : Int)) : Int)))), (9, .int .i64 (min (1000000 : Int) ((bu : Int) + (max (0 : Int) ((min (dn : Int) (1000 : Int)) : Int)) : Int))), (10, .slice ra14 rn14 rc14), (11, .int .i64 k), (12, .bool false), (13, .int .i64 i), (19, .bool false), (31, .bool false), (50, .bool false), (54, .bool true), (71, .bool false)] := X.fr hs hd hl _ (by kernel_rfl)
          clear hs hd hl ho hR
          replace G := G.trans g
          replace hC := hC.gr g
          replace GB_ := GB_.trans g
          replace hf := hf.gr g
          replace hx := hx.gr g
          replace hy := hy.gr g
          replace hR10 := hR10.gr g
          replace hR14 := hR14.gr g
          clear g
          refine X.thenN ?_
          refine Y.condF (F.ev 71 (.bool false) (by kernel_rfl)) ?_
          refine Y.skip ?_
          refine X.blockN ?_
          refine X.thenN ?_
          refine Y.lit (by kernel_rfl) ?_
          refine Y.pval F (X.w0 rfl) rfl (X.move rfl (F.ev 13 (.int .i64 i) (by kernel_rfl))) ?_
          clear F ac
          intro ac F
          refine Y.pval F (X.w0 rfl) rfl (X.binop rfl (F.ev 55 (.int .i64 i) (by kernel_rfl)) (X.kc (.int .i64 1) rfl) (X.addI Try.underlying3 rfl (by omega) (by omega))) ?_
          clear F ac
          intro ac F
          refine Y.pval F (X.w0 rfl) rfl (X.assign rfl (F.ev 56 (.int .i64 ((i : Int) + 1)) (by kernel_rfl))) ?_
          clear F ac
          intro ac F
          refine Y.nil ?_
          replace F : Fr ac 146 [(0, .agg #[.slice ta tn tc, .slice ca cn cc]), (1, .agg #[.slice a n c, .slice b_ m d]), (2, .agg #[.slice ja j1 j2, .slice jb j3 j4, .int .i64 bu, .int .i64 dn, .slice jc j5 j6]), (3, .pointer (some ⟨w.heap.size, 0, none⟩)), (4, .pointer (some ⟨w3.heap.size, 0, none⟩)), (5, .pointer (some ⟨w4.heap.size, 0, none⟩)), (6, .bool false), (7, .slice ra10 rn10 rc10), (8, .int .i64 (reachE f fs (min (1000000 : Int) ((bu : Int) + (max (0 : Int) ((min (dn : Int) (1000 : Int)) : Int)) : Int)))), (9, .int .i64 (min (1000000 : Int) ((bu : Int) + (max (0 : Int) ((min (dn : Int) (1000 : Int)) : Int)) : Int))), (10, .slice ra14 rn14 rc14), (11, .int .i64 k), (12, .bool false), (13, .int .i64 ((i : Int) + 1)), (19, .bool false), (31, .bool false), (50, .bool false), (54, .bool true), (71, .bool false)] := F.sub _ (by kernel_rfl)
          refine X.thenN ?_
          refine ⟨_, ?_, k, i + 1, rfl, GB_, by omega, by omega, hsc, F.sub _ (by kernel_rfl)⟩
          omega
        | true =>
          try rw [h62] at F
          have h62p : ((k : Int) < rn10) := of_decide_eq_true h62
          obtain ⟨pd64, pa64, rn64, pq64, pe64, -, pc64, pi64⟩ := hR14.at (j := i) (by omega)
          subst pe64
          replace hC : RCells w18 [(⟨w.heap.size, 0, none⟩, .slice ta tn tc), (⟨w.heap.size, 1, none⟩, .slice ca cn cc), (⟨w3.heap.size, 0, none⟩, .slice a n c), (⟨w3.heap.size, 1, none⟩, .slice b_ m d), (⟨w4.heap.size, 0, none⟩, .slice ja j1 j2), (⟨w4.heap.size, 1, none⟩, .slice jb j3 j4), (⟨w4.heap.size, 2, none⟩, .int .i64 bu), (⟨w4.heap.size, 3, none⟩, .int .i64 dn), (⟨w4.heap.size, 4, none⟩, .slice jc j5 j6), (pd64.add i, .slice pa64 rn64 pq64)] := hC.append ((RCells.cons pc64 (RCells.nil _)))
          clear pc64
          obtain ⟨pd65, pa65, rn65, pq65, pe65, -, pc65, pi65⟩ := hR10.at (j := k) (by omega)
          subst pe65
          replace hC : RCells w18 [(⟨w.heap.size, 0, none⟩, .slice ta tn tc), (⟨w.heap.size, 1, none⟩, .slice ca cn cc), (⟨w3.heap.size, 0, none⟩, .slice a n c), (⟨w3.heap.size, 1, none⟩, .slice b_ m d), (⟨w4.heap.size, 0, none⟩, .slice ja j1 j2), (⟨w4.heap.size, 1, none⟩, .slice jb j3 j4), (⟨w4.heap.size, 2, none⟩, .int .i64 bu), (⟨w4.heap.size, 3, none⟩, .int .i64 dn), (⟨w4.heap.size, 4, none⟩, .slice jc j5 j6), (pd64.add i, .slice pa64 rn64 pq64), (pd65.add k, .slice pa65 rn65 pq65)] := hC.append ((RCells.cons pc65 (RCells.nil _)))
          clear pc65
          refine Y.region F [some (.int .i64 k), some (.slice (some pd65) rn10 rc10), some (.int .i64 rn10), some (.bool true), some (.bool true), some (.slice (some pd64) rn14 rc14), some (.int .i64 i), some (.pointer (some (pd64.add i))), some (.slice pa64 rn64 pq64), some (.slice (some pd65) rn10 rc10), some (.int .i64 k), some (.pointer (some (pd65.add k))), some (.slice pa65 rn65 pq65), some (.bool (decide (((reachR f fs (min (1000000 : Int) ((bu : Int) + (max (0 : Int) ((min (dn : Int) (1000 : Int)) : Int)) : Int)))[i]?.getD []) = ((reachR f fs bu)[k]?.getD [])))), some (.bool (decide (((reachR f fs (min (1000000 : Int) ((bu : Int) + (max (0 : Int) ((min (dn : Int) (1000 : Int)) : Int)) : Int)))[i]?.getD []) = ((reachR f fs bu)[k]?.getD []))))] [] rfl ⟨by kernel_rfl, of_decide_eq_true (by kernel_rfl), by kernel_rfl, by kernel_rfl, by kernel_rfl⟩ ⟨?_, ?_, ?_, ?_, ?_, ?_, ?_, ?_, ?_, ?_, ?_, ?_, ?_, ?_, ?_, trivial⟩ ?_
          · intro ac done u W Sx hR
            have g : Gr w18 W := hR.1
            exact X.val (X.w0 rfl) rfl (X.move rfl (Sx.ev 11 (.int .i64 k) (by kernel_rfl))) (hR.step (Gr.refl _) rfl)
          · intro ac done u W Sx hR
            have g : Gr w18 W := hR.1
            exact X.val (X.w0 rfl) rfl (X.move rfl (Sx.ev 7 (.slice (some pd65) rn10 rc10) (by kernel_rfl))) (hR.step (Gr.refl _) rfl)
          · intro ac done u W Sx hR
            have g : Gr w18 W := hR.1
            exact X.val (X.w0 rfl) rfl (X.len1 Try.underlying22 rfl (Sx.ev 58 (.slice (some pd65) rn10 rc10) (by kernel_rfl))) (hR.step (Gr.refl _) rfl)
          · intro ac done u W Sx hR
            have g : Gr w18 W := hR.1
            exact X.val (X.w0 rfl) rfl (X.binop rfl (Sx.ev 57 (.int .i64 k) (by kernel_rfl)) (Sx.ev 59 (.int .i64 rn10) (by kernel_rfl)) (X.lssI Try.underlying3 h62)) (hR.step (Gr.refl _) rfl)
          · intro ac done u W Sx hR
            have g : Gr w18 W := hR.1
            exact X.val (X.w0 rfl) rfl (X.move rfl (Sx.ev 60 (.bool true) (by kernel_rfl))) (hR.step (Gr.refl _) rfl)
          · intro ac done u W Sx hR
            have g : Gr w18 W := hR.1
            exact X.val (X.w1 rfl (Sx.yl 4 61 true (by kernel_rfl) rfl rfl)) rfl (X.move rfl (Sx.ev 10 (.slice (some pd64) rn14 rc14) (by kernel_rfl))) (hR.step (Gr.refl _) rfl)
          · intro ac done u W Sx hR
            have g : Gr w18 W := hR.1
            exact X.val (X.w1 rfl (Sx.yl 4 61 true (by kernel_rfl) rfl rfl)) rfl (X.move rfl (Sx.ev 13 (.int .i64 i) (by kernel_rfl))) (hR.step (Gr.refl _) rfl)
          · intro ac done u W Sx hR
            have g : Gr w18 W := hR.1
            exact X.val (X.w1 rfl (Sx.yl 4 61 true (by kernel_rfl) rfl rfl)) rfl (X.index rfl (Sx.ev 62 (.slice (some pd64) rn14 rc14) (by kernel_rfl)) (Sx.ev 63 (.int .i64 i) (by kernel_rfl)) (X.idx (k := i) Try.underlying22 (Try.siz26 _) (by omega) (by omega) (by rw [Nat.mul_one]))) (hR.step (Gr.refl _) rfl)
          · intro ac done u W Sx hR
            have g : Gr w18 W := hR.1
            exact X.val (X.w1 rfl (Sx.yl 4 61 true (by kernel_rfl) rfl rfl)) rfl (X.load rfl (Sx.ev 64 (.pointer (some (pd64.add i))) (by kernel_rfl)) (X.ld1 (Try.agg26 _) ((hC.gr g).at 9 rfl))) (hR.step (Gr.refl _) rfl)
          · intro ac done u W Sx hR
            have g : Gr w18 W := hR.1
            exact X.val (X.w1 rfl (Sx.yl 4 61 true (by kernel_rfl) rfl rfl)) rfl (X.move rfl (Sx.ev 7 (.slice (some pd65) rn10 rc10) (by kernel_rfl))) (hR.step (Gr.refl _) rfl)
          · intro ac done u W Sx hR
            have g : Gr w18 W := hR.1
            exact X.val (X.w1 rfl (Sx.yl 4 61 true (by kernel_rfl) rfl rfl)) rfl (X.move rfl (Sx.ev 11 (.int .i64 k) (by kernel_rfl))) (hR.step (Gr.refl _) rfl)
          · intro ac done u W Sx hR
            have g : Gr w18 W := hR.1
            exact X.val (X.w1 rfl (Sx.yl 4 61 true (by kernel_rfl) rfl rfl)) rfl (X.index rfl (Sx.ev 66 (.slice (some pd65) rn10 rc10) (by kernel_rfl)) (Sx.ev 67 (.int .i64 k) (by kernel_rfl)) (X.idx (k := k) Try.underlying22 (Try.siz26 _) (by omega) (by omega) (by rw [Nat.mul_one]))) (hR.step (Gr.refl _) rfl)
          · intro ac done u W Sx hR
            have g : Gr w18 W := hR.1
            exact X.val (X.w1 rfl (Sx.yl 4 61 true (by kernel_rfl) rfl rfl)) rfl (X.load rfl (Sx.ev 68 (.pointer (some (pd65.add k))) (by kernel_rfl)) (X.ld1 (Try.agg26 _) ((hC.gr g).at 10 rfl))) (hR.step (Gr.refl _) rfl)
          · intro ac done u W Sx hR
            have g : Gr w18 W := hR.1
            refine X.call (X.w1 rfl (Sx.yl 4 61 true (by kernel_rfl) rfl rfl)) (X.enter (F := 22) rfl (X.kc (.func (.func 22) #[] #[]) rfl) (X.a2 (Sx.ev 65 (.slice pa64 rn64 pq64) (by kernel_rfl)) (Sx.ev 69 (.slice pa65 rn65 pq65) (by kernel_rfl))) (enters_of Try.func22 (by kernel_rfl) rfl _)) (sameInts_any pa64 pa65 rn64 pq64 rn65 pq65 ((reachR f fs (min (1000000 : Int) ((bu : Int) + (max (0 : Int) ((min (dn : Int) (1000 : Int)) : Int)) : Int)))[i]?.getD []) ((reachR f fs bu)[k]?.getD []) W (pi64.gr g) (pi65.gr g)) ?_
            rintro e W2 ⟨rfl, q, rfl⟩
            exact ⟨_, rfl, X.kn rfl, hR.step (Gr.drewN _ _) rfl⟩
          · intro ac done u W Sx hR
            have g : Gr w18 W := hR.1
            exact X.val (X.w0 rfl) rfl (X.pickT rfl (Sx.ev 61 (.bool true) (by kernel_rfl)) (Sx.ev 70 (.bool (decide (((reachR f fs (min (1000000 : Int) ((bu : Int) + (max (0 : Int) ((min (dn : Int) (1000 : Int)) : Int)) : Int)))[i]?.getD []) = ((reachR f fs bu)[k]?.getD [])))) (by kernel_rfl))) (hR.step (Gr.refl _) rfl)
          intro ac u w67 hs hd hl ho hR
          have g : Gr w18 w67 := hR.1
          replace F : Fr ac 146 [(0, .agg #[.slice ta tn tc, .slice ca cn cc]), (1, .agg #[.slice a n c, .slice b_ m d]), (2, .agg #[.slice ja j1 j2, .slice jb j3 j4, .int .i64 bu, .int .i64 dn, .slice jc j5 j6]), (3, .pointer (some ⟨w.heap.size, 0, none⟩)), (4, .pointer (some ⟨w3.heap.size, 0, none⟩)), (5, .pointer (some ⟨w4.heap.size, 0, none⟩)), (6, .bool false), (7, .slice (some pd65) rn10 rc10), (8, .int .i64 (reachE f fs (min (1000000 : Int) ((bu : Int) + (max (0 : Int) ((min (dn : Int) (1000 : Int)) : Int)) : Int)))), (9, .int .i64 (min (1000000 : Int) ((bu : Int) + (max (0 : Int) ((min (dn : Int) (1000 : Int)) : Int)) : Int))), (10, .slice (some pd64) rn14 rc14), (11, .int .i64 k), (12, .bool false), (13, .int .i64 i), (19, .bool false), (31, .bool false), (50, .bool false), (54, .bool true), (71, .bool (decide (((reachR f fs (min (1000000 : Int) ((bu : Int) + (max (0 : Int) ((min (dn : Int) (1000 : Int)) : Int)) : Int)))[i]?.getD []) = ((reachR f fs bu)[k]?.getD []))))] := X.fr hs hd hl _ (by kernel_rfl)
          clear hs hd hl ho hR
          replace G := G.trans g
          replace hC := hC.gr g
          replace GB_ := GB_.trans g
          replace hf := hf.gr g
          replace hx := hx.gr g
          replace hy := hy.gr g
          replace hR10 := hR10.gr g
          replace hR14 := hR14.gr g
          replace pi64 := pi64.gr g
          replace pi65 := pi65.gr g
          clear g
          refine X.thenN ?_
          cases h68 : decide (((reachR f fs (min (1000000 : Int) ((bu : Int) + (max (0 : Int) ((min (dn : Int) (1000 : Int)) : Int)) : Int)))[i]?.getD []) = ((reachR f fs bu)[k]?.getD [])) with
          | false =>
            try rw [h68] at F
            have hsc := scan_miss (few := (reachR f fs bu)) (many := (reachR f fs (min (1000000 : Int) ((bu : Int) + (max (0 : Int) ((min (dn : Int) (1000 : Int)) : Int)) : Int)))) (k := k) (i := i) (by omega) (by omega) hsub (of_decide_eq_false h68)
            refine Y.condF (F.ev 71 (.bool false) (by kernel_rfl)) ?_
            refine Y.skip ?_
            refine X.blockN ?_
            refine X.thenN ?_
            refine Y.lit (by kernel_rfl) ?_
            refine Y.pval F (X.w0 rfl) rfl (X.move rfl (F.ev 13 (.int .i64 i) (by kernel_rfl))) ?_
            clear F ac
            intro ac F
            refine Y.pval F (X.w0 rfl) rfl (X.binop rfl (F.ev 55 (.int .i64 i) (by kernel_rfl)) (X.kc (.int .i64 1) rfl) (X.addI Try.underlying3 rfl (by omega) (by omega))) ?_
            clear F ac
            intro ac F
            refine Y.pval F (X.w0 rfl) rfl (X.assign rfl (F.ev 56 (.int .i64 ((i : Int) + 1)) (by kernel_rfl))) ?_
            clear F ac
            intro ac F
            refine Y.nil ?_
            replace F : Fr ac 146 [(0, .agg #[.slice ta tn tc, .slice ca cn cc]), (1, .agg #[.slice a n c, .slice b_ m d]), (2, .agg #[.slice ja j1 j2, .slice jb j3 j4, .int .i64 bu, .int .i64 dn, .slice jc j5 j6]), (3, .pointer (some ⟨w.heap.size, 0, none⟩)), (4, .pointer (some ⟨w3.heap.size, 0, none⟩)), (5, .pointer (some ⟨w4.heap.size, 0, none⟩)), (6, .bool false), (7, .slice (some pd65) rn10 rc10), (8, .int .i64 (reachE f fs (min (1000000 : Int) ((bu : Int) + (max (0 : Int) ((min (dn : Int) (1000 : Int)) : Int)) : Int)))), (9, .int .i64 (min (1000000 : Int) ((bu : Int) + (max (0 : Int) ((min (dn : Int) (1000 : Int)) : Int)) : Int))), (10, .slice (some pd64) rn14 rc14), (11, .int .i64 k), (12, .bool false), (13, .int .i64 ((i : Int) + 1)), (19, .bool false), (31, .bool false), (50, .bool false), (54, .bool true), (71, .bool false)] := F.sub _ (by kernel_rfl)
            refine X.thenN ?_
            refine ⟨_, ?_, k, i + 1, rfl, GB_, by omega, by omega, hsc, F.sub _ (by kernel_rfl)⟩
            omega
          | true =>
            try rw [h68] at F
            have hsc := scan_hit (few := (reachR f fs bu)) (many := (reachR f fs (min (1000000 : Int) ((bu : Int) + (max (0 : Int) ((min (dn : Int) (1000 : Int)) : Int)) : Int)))) (k := k) (i := i) (by omega) (by omega) hsub (of_decide_eq_true h68)
            refine Y.condT (F.ev 71 (.bool true) (by kernel_rfl)) ?_
            refine Y.lit (by kernel_rfl) ?_
            refine Y.pval F (X.w0 rfl) rfl (X.move rfl (F.ev 11 (.int .i64 k) (by kernel_rfl))) ?_
            clear F ac
            intro ac F
            refine Y.pval F (X.w0 rfl) rfl (X.binop rfl (F.ev 72 (.int .i64 k) (by kernel_rfl)) (X.kc (.int .i64 1) rfl) (X.addI Try.underlying3 rfl (by omega) (by omega))) ?_
            clear F ac
            intro ac F
            refine Y.pval F (X.w0 rfl) rfl (X.assign rfl (F.ev 73 (.int .i64 ((k : Int) + 1)) (by kernel_rfl))) ?_
            clear F ac
            intro ac F
            refine Y.nil ?_
            replace F : Fr ac 146 [(0, .agg #[.slice ta tn tc, .slice ca cn cc]), (1, .agg #[.slice a n c, .slice b_ m d]), (2, .agg #[.slice ja j1 j2, .slice jb j3 j4, .int .i64 bu, .int .i64 dn, .slice jc j5 j6]), (3, .pointer (some ⟨w.heap.size, 0, none⟩)), (4, .pointer (some ⟨w3.heap.size, 0, none⟩)), (5, .pointer (some ⟨w4.heap.size, 0, none⟩)), (6, .bool false), (7, .slice (some pd65) rn10 rc10), (8, .int .i64 (reachE f fs (min (1000000 : Int) ((bu : Int) + (max (0 : Int) ((min (dn : Int) (1000 : Int)) : Int)) : Int)))), (9, .int .i64 (min (1000000 : Int) ((bu : Int) + (max (0 : Int) ((min (dn : Int) (1000 : Int)) : Int)) : Int))), (10, .slice (some pd64) rn14 rc14), (11, .int .i64 ((k : Int) + 1)), (12, .bool false), (13, .int .i64 i), (19, .bool false), (31, .bool false), (50, .bool false), (54, .bool true), (71, .bool true)] := F.sub _ (by kernel_rfl)
            refine X.blockN ?_
            refine X.thenN ?_
            refine Y.lit (by kernel_rfl) ?_
            refine Y.pval F (X.w0 rfl) rfl (X.move rfl (F.ev 13 (.int .i64 i) (by kernel_rfl))) ?_
            clear F ac
            intro ac F
            refine Y.pval F (X.w0 rfl) rfl (X.binop rfl (F.ev 55 (.int .i64 i) (by kernel_rfl)) (X.kc (.int .i64 1) rfl) (X.addI Try.underlying3 rfl (by omega) (by omega))) ?_
            clear F ac
            intro ac F
            refine Y.pval F (X.w0 rfl) rfl (X.assign rfl (F.ev 56 (.int .i64 ((i : Int) + 1)) (by kernel_rfl))) ?_
            clear F ac
            intro ac F
            refine Y.nil ?_
            replace F : Fr ac 146 [(0, .agg #[.slice ta tn tc, .slice ca cn cc]), (1, .agg #[.slice a n c, .slice b_ m d]), (2, .agg #[.slice ja j1 j2, .slice jb j3 j4, .int .i64 bu, .int .i64 dn, .slice jc j5 j6]), (3, .pointer (some ⟨w.heap.size, 0, none⟩)), (4, .pointer (some ⟨w3.heap.size, 0, none⟩)), (5, .pointer (some ⟨w4.heap.size, 0, none⟩)), (6, .bool false), (7, .slice (some pd65) rn10 rc10), (8, .int .i64 (reachE f fs (min (1000000 : Int) ((bu : Int) + (max (0 : Int) ((min (dn : Int) (1000 : Int)) : Int)) : Int)))), (9, .int .i64 (min (1000000 : Int) ((bu : Int) + (max (0 : Int) ((min (dn : Int) (1000 : Int)) : Int)) : Int))), (10, .slice (some pd64) rn14 rc14), (11, .int .i64 ((k : Int) + 1)), (12, .bool false), (13, .int .i64 ((i : Int) + 1)), (19, .bool false), (31, .bool false), (50, .bool false), (54, .bool true), (71, .bool true)] := F.sub _ (by kernel_rfl)
            refine X.thenN ?_
            refine ⟨_, ?_, k + 1, i + 1, rfl, GB_, by omega, by omega, hsc, F.sub _ (by kernel_rfl)⟩
            omega
    | true =>
      try rw [h12] at F
      have h12p : ¬ (reachE f fs bu : Int) = 0 := by simpa using h12
      refine Y.condT (F.ev 31 (.bool true) (by kernel_rfl)) ?_
      refine Y.seq ?_
      refine Y.lit (by kernel_rfl) ?_
      refine Y.pcall F (X.w0 rfl) rfl (X.enter (F := 16) rfl (X.kc (.func (.func 16) #[] #[]) rfl) rfl (enters_of Try.func16 (by kernel_rfl) rfl _)) (look_any w11) ?_
      clear F ac
      rintro e w70 ⟨rfl, g⟩
      refine ⟨_, rfl, ?_⟩
      intro ac F
      replace G := G.trans g
      replace hC := hC.gr g
      replace hf := hf.gr g
      replace hx := hx.gr g
      replace hy := hy.gr g
      replace hR10 := hR10.gr g
      clear g
      refine Y.pval F (X.w0 rfl) rfl (X.assign rfl (F.ev 32 (.bool true) (by kernel_rfl))) ?_
      clear F ac
      intro ac F
      refine Y.nil ?_
      replace F : Fr ac 146 [(0, .agg #[.slice ta tn tc, .slice ca cn cc]), (1, .agg #[.slice a n c, .slice b_ m d]), (2, .agg #[.slice ja j1 j2, .slice jb j3 j4, .int .i64 bu, .int .i64 dn, .slice jc j5 j6]), (3, .pointer (some ⟨w.heap.size, 0, none⟩)), (4, .pointer (some ⟨w3.heap.size, 0, none⟩)), (5, .pointer (some ⟨w4.heap.size, 0, none⟩)), (6, .bool true), (7, .slice ra10 rn10 rc10), (8, .int .i64 (reachE f fs bu)), (19, .bool false), (31, .bool true)] := F.sub _ (by kernel_rfl)
      refine X.thenN ?_
      refine Y.ret ?_
      refine X.thenR ?_
      exact Y.ret0 F (Y.rs1 F rfl (by kernel_rfl)) ⟨rfl, G⟩
  | true =>
    try rw [h8] at F
    refine Y.condT (F.ev 19 (.bool true) (by kernel_rfl)) ?_
    refine Y.seq ?_
    refine Y.lit (by kernel_rfl) ?_
    refine Y.pcall F (X.w0 rfl) rfl (X.enter (F := 16) rfl (X.kc (.func (.func 16) #[] #[]) rfl) rfl (enters_of Try.func16 (by kernel_rfl) rfl _)) (look_any w7) ?_
    clear F ac
    rintro e w72 ⟨rfl, g⟩
    refine ⟨_, rfl, ?_⟩
    intro ac F
    replace G := G.trans g
    replace hC := hC.gr g
    replace hf := hf.gr g
    replace hx := hx.gr g
    replace hy := hy.gr g
    clear g
    refine Y.pval F (X.w0 rfl) rfl (X.assign rfl (F.ev 20 (.bool true) (by kernel_rfl))) ?_
    clear F ac
    intro ac F
    refine Y.nil ?_
    replace F : Fr ac 146 [(0, .agg #[.slice ta tn tc, .slice ca cn cc]), (1, .agg #[.slice a n c, .slice b_ m d]), (2, .agg #[.slice ja j1 j2, .slice jb j3 j4, .int .i64 bu, .int .i64 dn, .slice jc j5 j6]), (3, .pointer (some ⟨w.heap.size, 0, none⟩)), (4, .pointer (some ⟨w3.heap.size, 0, none⟩)), (5, .pointer (some ⟨w4.heap.size, 0, none⟩)), (6, .bool true), (19, .bool true)] := F.sub _ (by kernel_rfl)
    refine X.thenN ?_
    refine Y.ret ?_
    refine X.thenR ?_
    exact Y.ret0 F (Y.rs1 F rfl (by kernel_rfl)) ⟨rfl, G⟩
end Go.Proofs.Ytlilojpnhmfnaaa
