/- Several texts of this claim in one file. (1) Contract: Reach. (2) Plain law: what UpdateSame and UpdateStricter ask: greater budgets, more clashes. No program in sight. (3) A fleet with one more clash, in memory. Nothing of the program is proved here. -/
import Derived.Test.YtlilojpnhmfnaaaBd11
import Derived.Test.YtlilojpnhmfnaaaBd9
import Derived.Test.YtlilojpnhmfnaaaBd6
import Derived.Test.YtlilojpnhmfnaaaBd7
import Derived.Test.YtlilojpnhmfnaaaBd8
namespace Go.Proofs.Ytlilojpnhmfnaaa
section
open Go.RowKit

theorem Fz_only {S : Nat → Prop} {W W' : World} {b : Nat} (h : Y.Fz W b) (g : Only S W W') (hs : ¬ S b) : Y.Fz W' b := by
  have hb := g.block b h.1 hs
  refine ⟨Nat.lt_of_lt_of_le h.1 g.size, ?_⟩
  have := h.2
  unfold World.frozen? at this ⊢
  simp only at this ⊢
  rw [hb]; exact this
theorem NK_lt {b3 b5 b6 b9 bm k b B : Nat} {ks : List Nat} (h : NK b3 b5 b6 b9 bm ks k b) (hks : ∀ j ∈ ks, j < k) (h9 : b9 < k) (hnu : B ≤ b3 ∧ b3 < b5 ∧ b5 < b6 ∧ b6 < bm ∧ bm < b9) (hb : k + 4 < b) : False := by
  rcases h with (h | h) | h
  · unfold N0 at h; omega
  · rcases List.mem_cons.1 h with h | h
    · omega
    · have := hks b h; omega
  · omega

set_option maxRecDepth 100000 in
set_option maxHeartbeats 1000000 in
theorem reach_any (ta ca : Option Addr) (tn tc cn cc : Nat) (f : Fl) (a : Option Addr) (n c : Nat) (xs : List Int) (bu : Int) (w : World) (hf : FlAt w ta tn ca cn f) (hx : Ints w a n xs) :
    Calls Try.prog 44 #[.agg #[.slice ta tn tc, .slice ca cn cc], .slice a n c, .int .i64 bu] w fun e w' => ∃ ra rn rc, e = .returned (.tuple #[.slice ra rn rc, .int .i64 (reachE f xs bu)]) ∧ RowsAt w' ra rn (reachR f xs bu) ∧ Gr w w' := by
  have G := Gr.refl w
  have hf0 := hf
  have hx0 := hx
  have hl : f.times.length = tn := hf.t.len
  have hxl := hx.len
  refine Y.calls 71 Try.func44 rfl rfl ?_
  intro ac F0
  have F : Fr ac 71 [(0, .agg #[.slice ta tn tc, .slice ca cn cc]), (1, .slice a n c), (2, .int .i64 bu)] := F0.sub _ (by kernel_rfl)
  clear F0
  refine Y.seq ?_
  refine Y.lit (by kernel_rfl) ?_
  refine Y.pval F (X.w0 rfl) rfl (X.box rfl (F.ev 0 (.agg #[.slice ta tn tc, .slice ca cn cc]) (by kernel_rfl)) X.bx) ?_
  clear F ac
  intro ac F
  have g := Gr.alloc w (.cells #[.slice ta tn tc, .slice ca cn cc] 25)
  have hb := heap_alloc_new w (.cells #[.slice ta tn tc, .slice ca cn cc] 25)
  have hbl : w.heap.size < (w.alloc (.cells #[.slice ta tn tc, .slice ca cn cc] 25)).heap.size := by simp
  have hC2 : RCells (w.alloc (.cells #[.slice ta tn tc, .slice ca cn cc] 25)) [(⟨w.heap.size, 0, none⟩, .slice ta tn tc), (⟨w.heap.size, 1, none⟩, .slice ca cn cc)] := (RCells.nil w).box (b := w.heap.size) #[.slice ta tn tc, .slice ca cn cc] 25 rfl
  generalize w.alloc (.cells #[.slice ta tn tc, .slice ca cn cc] 25) = w3 at *
  replace G := G.trans g
  have hC := hC2
  clear hC2
  replace hf := hf.gr g
  replace hx := hx.gr g
  clear g hb hbl
  refine Y.pval F (X.w0 rfl) rfl (X.box rfl (F.ev 2 (.int .i64 bu) (by kernel_rfl)) (Try.bx3 _ _)) ?_
  clear F ac
  intro ac F
  have hq4 : w.heap.size < w3.heap.size := lt_cell (hC.at 0 rfl)
  have g := Gr.alloc w3 (.cells #[.int .i64 bu] 3)
  have hb := heap_alloc_new w3 (.cells #[.int .i64 bu] 3)
  have hbl : w3.heap.size < (w3.alloc (.cells #[.int .i64 bu] 3)).heap.size := by simp
  have hC2 : RCells (w3.alloc (.cells #[.int .i64 bu] 3)) [(⟨w.heap.size, 0, none⟩, .slice ta tn tc), (⟨w.heap.size, 1, none⟩, .slice ca cn cc), (⟨w3.heap.size, 0, none⟩, .int .i64 bu)] := hC.box (b := w3.heap.size) #[.int .i64 bu] 3 rfl
  generalize w3.alloc (.cells #[.int .i64 bu] 3) = w5 at *
  replace G := G.trans g
  replace hC := hC2
  clear hC2
  replace hf := hf.gr g
  replace hx := hx.gr g
  clear g hb hbl
  refine Y.pval F (X.w0 rfl) rfl (Y.al rfl (Try.new22 _)) ?_
  clear F ac
  intro ac F
  have hq6 : w.heap.size < w5.heap.size := lt_cell (hC.at 0 rfl)
  have hq7 : w3.heap.size < w5.heap.size := lt_cell (hC.at 2 rfl)
  have g := Gr.alloc w5 (.cells #[.slice none 0 0] 22)
  have hb := heap_alloc_new w5 (.cells #[.slice none 0 0] 22)
  have hbl : w5.heap.size < (w5.alloc (.cells #[.slice none 0 0] 22)).heap.size := by simp
  have hC2 : RCells (w5.alloc (.cells #[.slice none 0 0] 22)) [(⟨w.heap.size, 0, none⟩, .slice ta tn tc), (⟨w.heap.size, 1, none⟩, .slice ca cn cc), (⟨w3.heap.size, 0, none⟩, .int .i64 bu), (⟨w5.heap.size, 0, none⟩, .slice none 0 0)] := hC.box (b := w5.heap.size) #[.slice none 0 0] 22 rfl
  generalize w5.alloc (.cells #[.slice none 0 0] 22) = w8 at *
  replace G := G.trans g
  replace hC := hC2
  clear hC2
  replace hf := hf.gr g
  replace hx := hx.gr g
  have hz := Y.Fz.new hb
  clear g hb hbl
  refine Y.pval F (X.w0 rfl) rfl (X.assign rfl (X.kc (.int .i64 0) rfl)) ?_
  clear F ac
  intro ac F
  refine Y.nil ?_
  replace F : Fr ac 71 [(0, .agg #[.slice ta tn tc, .slice ca cn cc]), (1, .slice a n c), (2, .int .i64 bu), (3, .pointer (some ⟨w.heap.size, 0, none⟩)), (5, .pointer (some ⟨w3.heap.size, 0, none⟩)), (6, .pointer (some ⟨w5.heap.size, 0, none⟩)), (7, .int .i64 0)] := F.sub _ (by kernel_rfl)
  refine X.thenN ?_
  refine Y.seq ?_
  refine Y.seq ?_
  refine Y.lit (by kernel_rfl) ?_
  refine Y.pval F (X.w0 rfl) rfl (X.load rfl (F.ev 3 (.pointer (some ⟨w.heap.size, 0, none⟩)) (by kernel_rfl)) (X.ldN (Try.agg25 _) (Try.siz25 _) (X.c2 (hC.at 0 rfl) (hC.at 1 rfl)))) ?_
  clear F ac
  intro ac F
  refine Y.pval F (X.w0 rfl) rfl (X.load rfl (F.ev 5 (.pointer (some ⟨w3.heap.size, 0, none⟩)) (by kernel_rfl)) (X.ld1 (Try.agg3 _) (hC.at 2 rfl))) ?_
  clear F ac
  intro ac F
  refine Y.pval F (X.w0 rfl) rfl (X.move rfl (F.ev 1 (.slice a n c) (by kernel_rfl))) ?_
  clear F ac
  intro ac F
  refine Y.pval F (X.w0 rfl) rfl (X.bs rfl (X.b1 (F.ev 16 (.slice a n c) (by kernel_rfl))) (Try.bs22a _ _ _ _)) ?_
  clear F ac
  intro ac F
  have hq9 : w.heap.size < w8.heap.size := lt_cell (hC.at 0 rfl)
  have hq10 : w3.heap.size < w8.heap.size := lt_cell (hC.at 2 rfl)
  have hq11 : w5.heap.size < w8.heap.size := lt_cell (hC.at 3 rfl)
  have g := Gr.alloc w8 (.cells #[.slice a n c] 26)
  have hb := heap_alloc_new w8 (.cells #[.slice a n c] 26)
  have hbl : w8.heap.size < (w8.alloc (.cells #[.slice a n c] 26)).heap.size := by simp
  generalize w8.alloc (.cells #[.slice a n c] 26) = w12 at *
  replace G := G.trans g
  replace hC := hC.gr g
  replace hf := hf.gr g
  replace hx := hx.gr g
  replace hz := hz.gr g
  have hbk := hb
  have hbkl := hbl
  have hR1 := (rows1 (c := c) hbl (cell_at hb rfl) hx : RowsAt _ (some ⟨_, 0, none⟩) 1 [xs])
  clear g hb hbl
  refine Y.pcall F (X.w0 rfl) rfl (X.enter (F := 47) rfl (X.kc (.func (.func 47) #[] #[]) rfl) (X.a3 (F.ev 14 (.agg #[.slice ta tn tc, .slice ca cn cc]) (by kernel_rfl)) (F.ev 15 (.int .i64 bu) (by kernel_rfl)) (F.ev 17 (.slice (some ⟨w8.heap.size, 0, none⟩) 1 1) (by kernel_rfl))) (enters_of Try.func47 (by kernel_rfl) rfl _)) (begin_any ta ca (some ⟨w8.heap.size, 0, none⟩) tn tc cn cc 1 1 f bu [xs] w12 hf hR1) ?_
  clear F ac
  rintro e w14 ⟨rfl, g⟩
  refine ⟨_, rfl, ?_⟩
  intro ac F
  replace G := G.trans g
  replace hC := hC.gr g
  replace hf := hf.gr g
  replace hx := hx.gr g
  replace hz := hz.gr g
  replace hR1 := hR1.gr g
  clear g
  refine Y.pval F (X.w0 rfl) rfl (X.assign rfl (F.ev 18 (.int .i64 (beginE f bu [xs])) (by kernel_rfl))) ?_
  clear F ac
  intro ac F
  refine Y.nil ?_
  replace F : Fr ac 71 [(0, .agg #[.slice ta tn tc, .slice ca cn cc]), (1, .slice a n c), (2, .int .i64 bu), (3, .pointer (some ⟨w.heap.size, 0, none⟩)), (5, .pointer (some ⟨w3.heap.size, 0, none⟩)), (6, .pointer (some ⟨w5.heap.size, 0, none⟩)), (7, .int .i64 0), (8, .int .i64 (beginE f bu [xs]))] := F.sub _ (by kernel_rfl)
  refine X.thenN ?_
  refine Y.seq ?_
  refine Y.lit (by kernel_rfl) ?_
  refine Y.pval F (X.w0 rfl) rfl (X.move rfl (F.ev 8 (.int .i64 (beginE f bu [xs])) (by kernel_rfl))) ?_
  clear F ac
  intro ac F
  refine Y.pval F (X.w0 rfl) rfl (X.binop rfl (F.ev 19 (.int .i64 (beginE f bu [xs])) (by kernel_rfl)) (X.kc (.int .i64 0) rfl) (X.neqI Try.underlying31 rfl)) ?_
  clear F ac
  intro ac F
  refine Y.nil ?_
  replace F : Fr ac 71 [(0, .agg #[.slice ta tn tc, .slice ca cn cc]), (1, .slice a n c), (2, .int .i64 bu), (3, .pointer (some ⟨w.heap.size, 0, none⟩)), (5, .pointer (some ⟨w3.heap.size, 0, none⟩)), (6, .pointer (some ⟨w5.heap.size, 0, none⟩)), (7, .int .i64 0), (8, .int .i64 (beginE f bu [xs])), (20, .bool ((beginE f bu [xs] : Int) != 0))] := F.sub _ (by kernel_rfl)
  refine X.thenN ?_
  cases h15 : ((beginE f bu [xs] : Int) != 0) with
  | false =>
    try rw [h15] at F
    have h15p : (beginE f bu [xs] : Int) = 0 := by simpa using h15
    have hb2 : beginE f bu [xs, xs] = 0 := by rw [beginE_two]; exact h15p
    obtain ⟨hok, hsx, _⟩ := beginE_ok hb2
    have hn0 : 0 < n := by rw [← hxl, hsx.len]; exact hok.n1
    have h6 : n ≤ 6 := by rw [← hxl, hsx.len]; exact hok.n6
    obtain rfl : tn = n := by rw [← hl, ← hxl, hsx.len]
    refine Y.condF (F.ev 20 (.bool false) (by kernel_rfl)) ?_
    refine Y.skip ?_
    refine X.thenN ?_
    refine Y.seq ?_
    refine Y.seq ?_
    refine Y.lit (by kernel_rfl) ?_
    refine Y.pval F (X.w0 rfl) rfl (X.load rfl (F.ev 3 (.pointer (some ⟨w.heap.size, 0, none⟩)) (by kernel_rfl)) (X.ldN (Try.agg25 _) (Try.siz25 _) (X.c2 (hC.at 0 rfl) (hC.at 1 rfl)))) ?_
    clear F ac
    intro ac F
    refine Y.pval F (X.w0 rfl) rfl (X.move rfl (F.ev 1 (.slice a tn c) (by kernel_rfl))) ?_
    clear F ac
    intro ac F
    refine Y.pcall F (X.w0 rfl) rfl (X.enter (F := 48) rfl (X.kc (.func (.func 48) #[] #[]) rfl) (X.a2 (F.ev 22 (.agg #[.slice ta tn tc, .slice ca cn cc]) (by kernel_rfl)) (F.ev 23 (.slice a tn c) (by kernel_rfl))) (enters_of Try.func48 (by kernel_rfl) rfl _)) (works_any ta ca a tn tc cn cc tn c f xs w14 hf hok hx hsx) ?_
    clear F ac
    rintro e w17 ⟨rfl, g⟩
    refine ⟨_, rfl, ?_⟩
    intro ac F
    replace G := G.trans g
    replace hC := hC.gr g
    replace hf := hf.gr g
    replace hx := hx.gr g
    replace hz := hz.gr g
    replace hR1 := hR1.gr g
    clear g
    refine Y.pval F (X.w0 rfl) rfl (X.notB rfl (F.ev 24 (.bool (worksB f xs)) (by kernel_rfl)) rfl) ?_
    clear F ac
    intro ac F
    refine Y.nil ?_
    replace F : Fr ac 71 [(0, .agg #[.slice ta tn tc, .slice ca cn cc]), (1, .slice a tn c), (2, .int .i64 bu), (3, .pointer (some ⟨w.heap.size, 0, none⟩)), (5, .pointer (some ⟨w3.heap.size, 0, none⟩)), (6, .pointer (some ⟨w5.heap.size, 0, none⟩)), (7, .int .i64 0), (8, .int .i64 (beginE f bu [xs])), (20, .bool false), (25, .bool (!(worksB f xs)))] := F.sub _ (by kernel_rfl)
    refine X.thenN ?_
    cases h18 : worksB f xs with
    | false =>
      try rw [h18] at F
      have HE : reachE f xs bu = 111 := by unfold reachE plannedE; rw [if_pos hb2, h18]; rfl
      have HV : reachR f xs bu = [] := if_neg (by rw [show plannedE f xs xs bu = 111 from HE]; decide)
      refine Y.condT (F.ev 25 (.bool true) (by kernel_rfl)) ?_
      refine Y.seq ?_
      refine Y.lit (by kernel_rfl) ?_
      refine Y.punit F (X.w0 rfl) rfl (X.store rfl (F.ev 6 (.pointer (some ⟨w5.heap.size, 0, none⟩)) (by kernel_rfl)) (X.kc (.slice none 0 0) rfl) (Y.st1 (Try.siz22 _) rfl rfl (hC.at 3 rfl) hz.2)) ?_
      clear F ac
      intro ac F
      rw [setCell_same (hC.at 3 rfl)]
      refine Y.pval F (X.w0 rfl) rfl (X.assign rfl (X.kc (.int .i64 111) rfl)) ?_
      clear F ac
      intro ac F
      refine Y.nil ?_
      replace F : Fr ac 71 [(0, .agg #[.slice ta tn tc, .slice ca cn cc]), (1, .slice a tn c), (2, .int .i64 bu), (3, .pointer (some ⟨w.heap.size, 0, none⟩)), (5, .pointer (some ⟨w3.heap.size, 0, none⟩)), (6, .pointer (some ⟨w5.heap.size, 0, none⟩)), (7, .int .i64 111), (8, .int .i64 (beginE f bu [xs])), (20, .bool false), (25, .bool true)] := F.sub _ (by kernel_rfl)
      refine X.thenN ?_
      refine Y.ret ?_
      refine X.thenR ?_
      exact Y.ret0 F (Y.rc2 F rfl (Try.agg22 _) (by kernel_rfl) (hC.at 3 rfl) (by kernel_rfl)) ⟨none, 0, 0, by rw [HE], by rw [HV]; exact RowsAt.nil _, G⟩
    | true =>
      try rw [h18] at F
      have hwx := h18
      have HE : reachE f xs bu = 0 := by unfold reachE plannedE; rw [if_pos hb2, h18]; rfl
      have HV : reachR f xs bu = reachV f xs bu := if_pos HE
      refine Y.condF (F.ev 25 (.bool false) (by kernel_rfl)) ?_
      refine Y.skip ?_
      refine X.thenN ?_
      refine Y.seq ?_
      refine Y.lit (by kernel_rfl) ?_
      have hq20 : w.heap.size < w17.heap.size := lt_cell (hC.at 0 rfl)
      have hq21 : w3.heap.size < w17.heap.size := lt_cell (hC.at 2 rfl)
      have hq22 : w5.heap.size < w17.heap.size := lt_cell (hC.at 3 rfl)
      refine Y.pval F (X.w0 rfl) rfl (X.mm rfl) ?_
      clear F ac
      intro ac F
      have g := Gr.alloc w17 (.map #[] 0)
      have hSn := seen_new (World.alloc_heap_new w17 (.map #[] 0))
      generalize w17.alloc (.map #[] 0) = w23 at *
      replace G := G.trans g
      replace hC := hC.gr g
      replace hf := hf.gr g
      replace hx := hx.gr g
      replace hz := hz.gr g
      replace hR1 := hR1.gr g
      clear g
      refine Y.pval F (X.w0 rfl) rfl (X.move rfl (F.ev 1 (.slice a tn c) (by kernel_rfl))) ?_
      clear F ac
      intro ac F
      refine Y.pcall F (X.w0 rfl) rfl (X.enter (F := 57) rfl (X.kc (.func (.func 57) #[] #[]) rfl) (X.a1 (F.ev 27 (.slice a tn c) (by kernel_rfl))) (enters_of Try.func57 (by kernel_rfl) rfl _)) (keyOf_any a tn c xs w23 hx (by omega) h6) ?_
      clear F ac
      rintro e w25 ⟨rfl, g⟩
      refine ⟨_, rfl, ?_⟩
      intro ac F
      replace G := G.trans g
      replace hC := hC.gr g
      replace hf := hf.gr g
      replace hx := hx.gr g
      replace hz := hz.gr g
      replace hR1 := hR1.gr g
      replace hSn := hSn.gr g
      clear g
      obtain ⟨om, hrun, hSn2⟩ := seen_store (t := 86) (e := 3) (by kernel_rfl) hSn (StOk.small hok hsx) (by simp) (by rw [hxl]; exact h6) (by simp)
      have hon := putObj_only w25 w17.heap.size om
      refine Y.punit F (X.w0 rfl) rfl (X.ins rfl (F.ev 26 ((.map (some w17.heap.size))) (by kernel_rfl)) (F.ev 28 ((keyV xs)) (by kernel_rfl)) (X.kc (.int .i64 1) rfl) hrun) ?_
      clear F ac hrun
      intro ac F
      generalize w25.putObj w17.heap.size om = w26 at *
      replace G := Y.Only.up G hon (by have := G.size; omega)
      replace hf := hf0.gr G
      replace hx := hx0.gr G
      replace hC : RCells w26 [(⟨w.heap.size, 0, none⟩, .slice ta tn tc), (⟨w.heap.size, 1, none⟩, .slice ca cn cc), (⟨w3.heap.size, 0, none⟩, .int .i64 bu), (⟨w5.heap.size, 0, none⟩, .slice none 0 0)] := (RCells.cons (hon.cell (hC.at 0 rfl) (by show ¬ w.heap.size = w17.heap.size; omega)) (RCells.cons (hon.cell (hC.at 1 rfl) (by show ¬ w.heap.size = w17.heap.size; omega)) (RCells.cons (hon.cell (hC.at 2 rfl) (by show ¬ w3.heap.size = w17.heap.size; omega)) (RCells.cons (hon.cell (hC.at 3 rfl) (by show ¬ w5.heap.size = w17.heap.size; omega)) (RCells.nil _)))))
      replace hz := Fz_only hz hon (by show ¬ _ = _; omega)
      replace hSn : Seen w26 w17.heap.size [xs] := hSn2
      clear hSn2 hon
      refine Y.pval F (X.w0 rfl) rfl (X.move rfl (F.ev 26 ((.map (some w17.heap.size))) (by kernel_rfl))) ?_
      clear F ac
      intro ac F
      refine Y.pval F (X.w0 rfl) rfl (Y.al rfl (Try.new86 _)) ?_
      clear F ac
      intro ac F
      have hq27 : w.heap.size < w26.heap.size := lt_cell (hC.at 0 rfl)
      have hq28 : w3.heap.size < w26.heap.size := lt_cell (hC.at 2 rfl)
      have hq29 : w5.heap.size < w26.heap.size := lt_cell (hC.at 3 rfl)
      have hqm : w17.heap.size < w26.heap.size := hSn.lt
      have g := Gr.alloc w26 (.cells #[(.map none)] 86)
      have hb := heap_alloc_new w26 (.cells #[(.map none)] 86)
      have hbl : w26.heap.size < (w26.alloc (.cells #[(.map none)] 86)).heap.size := by simp
      have hC2 : RCells (w26.alloc (.cells #[(.map none)] 86)) [(⟨w.heap.size, 0, none⟩, .slice ta tn tc), (⟨w.heap.size, 1, none⟩, .slice ca cn cc), (⟨w3.heap.size, 0, none⟩, .int .i64 bu), (⟨w5.heap.size, 0, none⟩, .slice none 0 0), (⟨w26.heap.size, 0, none⟩, (.map none))] := hC.box (b := w26.heap.size) #[(.map none)] 86 rfl
      generalize w26.alloc (.cells #[(.map none)] 86) = w30 at *
      replace G := G.trans g
      replace hC := hC2
      clear hC2
      replace hf := hf.gr g
      replace hx := hx.gr g
      replace hz := hz.gr g
      replace hSn := hSn.gr g
      have hz9 := Y.Fz.new hb
      clear g hb hbl
      have hcc := hC.at 4 rfl
      have hon := Y.set_only w30 w26.heap.size 0 ((.map (some w17.heap.size)))
      refine Y.punit F (X.w0 rfl) rfl (X.store rfl (F.ev 9 (.pointer (some ⟨w26.heap.size, 0, none⟩)) (by kernel_rfl)) (F.ev 29 ((.map (some w17.heap.size))) (by kernel_rfl)) (Y.st1 (Try.siz86 _) rfl rfl hcc hz9.2)) ?_
      clear F ac
      intro ac F
      have hcv : (w30.setCell ⟨w26.heap.size, 0, none⟩ ((.map (some w17.heap.size)))).cell? ⟨w26.heap.size, 0, none⟩ = some ((.map (some w17.heap.size))) := by simp [go_sem, hcc]
      have hfv : (w30.setCell ⟨w26.heap.size, 0, none⟩ ((.map (some w17.heap.size)))).frozen? ⟨w26.heap.size, 0, none⟩ = false := by simpa using hz9.2
      clear hcc
      generalize w30.setCell ⟨w26.heap.size, 0, none⟩ ((.map (some w17.heap.size))) = w31 at *
      replace G := Y.Only.up G hon (by have := G.size; omega)
      replace hf := hf0.gr G
      replace hx := hx0.gr G
      replace hC : RCells w31 [(⟨w.heap.size, 0, none⟩, .slice ta tn tc), (⟨w.heap.size, 1, none⟩, .slice ca cn cc), (⟨w3.heap.size, 0, none⟩, .int .i64 bu), (⟨w5.heap.size, 0, none⟩, .slice none 0 0)] := (RCells.cons (hon.cell (hC.at 0 rfl) (by show ¬ w.heap.size = w26.heap.size; omega)) (RCells.cons (hon.cell (hC.at 1 rfl) (by show ¬ w.heap.size = w26.heap.size; omega)) (RCells.cons (hon.cell (hC.at 2 rfl) (by show ¬ w3.heap.size = w26.heap.size; omega)) (RCells.cons (hon.cell (hC.at 3 rfl) (by show ¬ w5.heap.size = w26.heap.size; omega)) (RCells.nil _)))))
      replace hz := Fz_only hz hon (by show ¬ _ = _; omega)
      replace hSn := hSn.only hon (by show ¬ _ = _; omega)
      clear hon
      replace hC : RCells w31 [(⟨w.heap.size, 0, none⟩, .slice ta tn tc), (⟨w.heap.size, 1, none⟩, .slice ca cn cc), (⟨w3.heap.size, 0, none⟩, .int .i64 bu), (⟨w5.heap.size, 0, none⟩, .slice none 0 0), (⟨w26.heap.size, 0, none⟩, (.map (some w17.heap.size)))] := hC.append ((RCells.cons hcv (RCells.nil _)))
      clear hcv
      refine Y.nil ?_
      replace F : Fr ac 71 [(0, .agg #[.slice ta tn tc, .slice ca cn cc]), (1, .slice a tn c), (2, .int .i64 bu), (3, .pointer (some ⟨w.heap.size, 0, none⟩)), (5, .pointer (some ⟨w3.heap.size, 0, none⟩)), (6, .pointer (some ⟨w5.heap.size, 0, none⟩)), (7, .int .i64 0), (8, .int .i64 (beginE f bu [xs])), (9, .pointer (some ⟨w26.heap.size, 0, none⟩)), (20, .bool false), (25, .bool false)] := F.sub _ (by kernel_rfl)
      refine X.thenN ?_
      refine Y.seq ?_
      refine Y.lit (by kernel_rfl) ?_
      refine Y.pval F (X.w0 rfl) rfl (X.move rfl (F.ev 1 (.slice a tn c) (by kernel_rfl))) ?_
      clear F ac
      intro ac F
      have hq33 : w.heap.size < w31.heap.size := lt_cell (hC.at 0 rfl)
      have hq34 : w3.heap.size < w31.heap.size := lt_cell (hC.at 2 rfl)
      have hq35 : w5.heap.size < w31.heap.size := lt_cell (hC.at 3 rfl)
      have hq36 : w26.heap.size < w31.heap.size := lt_cell (hC.at 4 rfl)
      have hqm : w17.heap.size < w31.heap.size := hSn.lt
      refine Y.pcall F (X.w0 rfl) rfl (X.enter (F := 51) rfl (X.kc (.func (.func 51) #[] #[]) rfl) (X.a1 (F.ev 30 (.slice a tn c) (by kernel_rfl))) (enters_of Try.func51 (by kernel_rfl) rfl _)) (clone_any a tn c xs w31 hx (by omega) (by omega)) ?_
      clear F ac
      rintro e w37 ⟨cg, ck, rfl, hcge, hcI, g, hc3⟩
      refine ⟨_, rfl, ?_⟩
      intro ac F
      replace G := G.trans g
      replace hC := hC.gr g
      replace hf := hf.gr g
      replace hx := hx.gr g
      replace hz := hz.gr g
      replace hSn := hSn.gr g
      clear g
      refine Y.pval F (X.w0 rfl) rfl (X.bs rfl (X.b1 (F.ev 31 (.slice (some ⟨cg, 0, none⟩) xs.length ck) (by kernel_rfl))) (Try.bs22a _ _ _ _)) ?_
      clear F ac
      intro ac F
      have hq38 : w.heap.size < w37.heap.size := lt_cell (hC.at 0 rfl)
      have hq39 : w3.heap.size < w37.heap.size := lt_cell (hC.at 2 rfl)
      have hq40 : w5.heap.size < w37.heap.size := lt_cell (hC.at 3 rfl)
      have hq41 : w26.heap.size < w37.heap.size := lt_cell (hC.at 4 rfl)
      have hqm : w17.heap.size < w37.heap.size := hSn.lt
      have g := Gr.alloc w37 (.cells #[.slice (some ⟨cg, 0, none⟩) xs.length ck] 26)
      have hb := heap_alloc_new w37 (.cells #[.slice (some ⟨cg, 0, none⟩) xs.length ck] 26)
      have hbl : w37.heap.size < (w37.alloc (.cells #[.slice (some ⟨cg, 0, none⟩) xs.length ck] 26)).heap.size := by simp
      generalize w37.alloc (.cells #[.slice (some ⟨cg, 0, none⟩) xs.length ck] 26) = w42 at *
      replace G := G.trans g
      replace hC := hC.gr g
      replace hf := hf.gr g
      replace hx := hx.gr g
      replace hz := hz.gr g
      replace hSn := hSn.gr g
      replace hcI := hcI.gr g
      replace hc3 := hc3.gr g
      have hbk := hb
      have hbkl := hbl
      clear g hb hbl
      have hcc := hC.at 3 rfl
      have hon := Y.set_only w42 w5.heap.size 0 (.slice (some ⟨w37.heap.size, 0, none⟩) 1 1)
      refine Y.punit F (X.w0 rfl) rfl (X.store rfl (F.ev 6 (.pointer (some ⟨w5.heap.size, 0, none⟩)) (by kernel_rfl)) (F.ev 32 (.slice (some ⟨w37.heap.size, 0, none⟩) 1 1) (by kernel_rfl)) (Y.st1 (Try.siz22 _) rfl rfl hcc hz.2)) ?_
      clear F ac
      intro ac F
      have hcv : (w42.setCell ⟨w5.heap.size, 0, none⟩ (.slice (some ⟨w37.heap.size, 0, none⟩) 1 1)).cell? ⟨w5.heap.size, 0, none⟩ = some (.slice (some ⟨w37.heap.size, 0, none⟩) 1 1) := by simp [go_sem, hcc]
      have hfv : (w42.setCell ⟨w5.heap.size, 0, none⟩ (.slice (some ⟨w37.heap.size, 0, none⟩) 1 1)).frozen? ⟨w5.heap.size, 0, none⟩ = false := by simpa using hz.2
      clear hcc
      generalize w42.setCell ⟨w5.heap.size, 0, none⟩ (.slice (some ⟨w37.heap.size, 0, none⟩) 1 1) = w43 at *
      replace G := Y.Only.up G hon (by have := G.size; omega)
      replace hf := hf0.gr G
      replace hx := hx0.gr G
      replace hC : RCells w43 [(⟨w.heap.size, 0, none⟩, .slice ta tn tc), (⟨w.heap.size, 1, none⟩, .slice ca cn cc), (⟨w3.heap.size, 0, none⟩, .int .i64 bu), (⟨w26.heap.size, 0, none⟩, (.map (some w17.heap.size)))] := (RCells.cons (hon.cell (hC.at 0 rfl) (by show ¬ w.heap.size = w5.heap.size; omega)) (RCells.cons (hon.cell (hC.at 1 rfl) (by show ¬ w.heap.size = w5.heap.size; omega)) (RCells.cons (hon.cell (hC.at 2 rfl) (by show ¬ w3.heap.size = w5.heap.size; omega)) (RCells.cons (hon.cell (hC.at 4 rfl) (by show ¬ w26.heap.size = w5.heap.size; omega)) (RCells.nil _)))))
      replace hSn := hSn.only hon (by show ¬ _ = _; omega)
      replace hc3 := hc3.only hon (by show ¬ cg = w5.heap.size; omega)
      replace hcI := hcI.onlyAt hon (fun ad e => by cases e; show ¬ cg = w5.heap.size; omega)
      replace hbk := (hon.block _ hbkl (by show ¬ _ = _; omega)).trans hbk
      have hf6 := hfv
      clear hfv
      clear hon
      replace hC : RCells w43 [(⟨w.heap.size, 0, none⟩, .slice ta tn tc), (⟨w.heap.size, 1, none⟩, .slice ca cn cc), (⟨w3.heap.size, 0, none⟩, .int .i64 bu), (⟨w26.heap.size, 0, none⟩, (.map (some w17.heap.size))), (⟨w5.heap.size, 0, none⟩, .slice (some ⟨w37.heap.size, 0, none⟩) 1 1)] := hC.append ((RCells.cons hcv (RCells.nil _)))
      clear hcv
      refine Y.nil ?_
      replace F : Fr ac 71 [(0, .agg #[.slice ta tn tc, .slice ca cn cc]), (1, .slice a tn c), (2, .int .i64 bu), (3, .pointer (some ⟨w.heap.size, 0, none⟩)), (5, .pointer (some ⟨w3.heap.size, 0, none⟩)), (6, .pointer (some ⟨w5.heap.size, 0, none⟩)), (7, .int .i64 0), (8, .int .i64 (beginE f bu [xs])), (9, .pointer (some ⟨w26.heap.size, 0, none⟩)), (20, .bool false), (25, .bool false)] := F.sub _ (by kernel_rfl)
      refine X.thenN ?_
      refine Y.seq ?_
      refine Y.seq ?_
      refine Y.lit (by kernel_rfl) ?_
      refine Y.pval F (X.w0 rfl) rfl (X.assign rfl (X.kc (.int .i64 0) rfl)) ?_
      clear F ac
      intro ac F
      refine Y.nil ?_
      replace F : Fr ac 71 [(0, .agg #[.slice ta tn tc, .slice ca cn cc]), (1, .slice a tn c), (2, .int .i64 bu), (3, .pointer (some ⟨w.heap.size, 0, none⟩)), (5, .pointer (some ⟨w3.heap.size, 0, none⟩)), (6, .pointer (some ⟨w5.heap.size, 0, none⟩)), (7, .int .i64 0), (8, .int .i64 (beginE f bu [xs])), (9, .pointer (some ⟨w26.heap.size, 0, none⟩)), (10, .int .i64 0), (20, .bool false), (25, .bool false)] := F.sub _ (by kernel_rfl)
      refine X.thenN ?_
      refine Y.block ?_
      have hnu : w.heap.size ≤ w.heap.size ∧ w.heap.size < w3.heap.size ∧ w3.heap.size < w5.heap.size ∧ w5.heap.size < w17.heap.size ∧ w17.heap.size < w26.heap.size := by have := G.size; omega
      have hOut : OutN w43 w.heap.size (NM w.heap.size w3.heap.size w5.heap.size w26.heap.size w17.heap.size []) (.slice (some ⟨w37.heap.size, 0, none⟩) 1 1) [xs] := OutN.one (g := 0) hbk (by omega) (fun e => by simp [NM, N0] at e; omega) hcI hc3 (fun e => by simp [NM, N0] at e; omega)
      have hS : RS w ta tn tc ca cn cc bu w.heap.size w3.heap.size w5.heap.size w26.heap.size w17.heap.size (NM w.heap.size w3.heap.size w5.heap.size w26.heap.size w17.heap.size []) w43 (.slice (some ⟨w37.heap.size, 0, none⟩) 1 1) (.slice (some ⟨w37.heap.size, 0, none⟩) 1 1) ([xs]) ([xs]) := ⟨G, hC.at 0 rfl, hC.at 1 rfl, hC.at 2 rfl, hC.at 3 rfl, hC.at 4 rfl, hf6, hSn, hOut, hnu, fun b e => .inl e⟩
      refine Y.loop (fun me_ ac wr => ∃ (i : Nat) (v : Value) (O : List (List Int)) (ks : List Nat), me_ = (allV f).length - i ∧ RS w ta tn tc ca cn cc bu w.heap.size w3.heap.size w5.heap.size w26.heap.size w17.heap.size (NM w.heap.size w3.heap.size w5.heap.size w26.heap.size w17.heap.size ks) wr v v O O ∧ i ≤ O.length ∧ BInv f bu xs O i ∧ Mk w26.heap.size wr.heap.size ks wr ∧ ks.Nodup ∧ Fr ac 71 [(0, .agg #[.slice ta tn tc, .slice ca cn cc]), (1, .slice a tn c), (2, .int .i64 bu), (3, .pointer (some ⟨w.heap.size, 0, none⟩)), (5, .pointer (some ⟨w3.heap.size, 0, none⟩)), (6, .pointer (some ⟨w5.heap.size, 0, none⟩)), (7, .int .i64 0), (8, .int .i64 (beginE f bu [xs])), (9, .pointer (some ⟨w26.heap.size, 0, none⟩)), (10, .int .i64 i), (20, .bool false), (25, .bool false)] (Y.marks ks)) _ ⟨0, (.slice (some ⟨w37.heap.size, 0, none⟩) 1 1), [xs], [], rfl, hS, by simp, BInv.start hsx hwx, ⟨by simp, by simp⟩, by simp, F.sub _ (by kernel_rfl)⟩ ?_
      clear F hS hOut G hf hx hC hSn hbk hcI hc3 hf6 ac
      intro me_ ac w44 hI
      obtain ⟨i, v, O, ks, rfl, hS, hiO, hB, hMk, hnd, F⟩ := hI
      have hBl := hB.b.len
      have hall := allV_len hok
      have hOp := List.length_pos_of_mem hB.b.h0
      obtain ⟨og, oc, oxs, rfl, -, -, -, hcell, -, hrow⟩ := hS.out.shape hOp
      have G := hS.g0
      have hf := hf0.gr G
      have hC : RCells w44 [(⟨w.heap.size, 0, none⟩, .slice ta tn tc), (⟨w.heap.size, 1, none⟩, .slice ca cn cc), (⟨w3.heap.size, 0, none⟩, .int .i64 bu), (⟨w5.heap.size, 0, none⟩, .slice (some ⟨og, 0, none⟩) O.length oc), (⟨w26.heap.size, 0, none⟩, (.map (some w17.heap.size)))] := (RCells.cons hS.c0 (RCells.cons hS.c1 (RCells.cons hS.c5 (RCells.cons hS.c6 (RCells.cons hS.c9 (RCells.nil _))))))
      refine Y.seq ?_
      refine Y.seq ?_
      refine Y.lit (by kernel_rfl) ?_
      refine Y.pval F (X.w0 rfl) rfl (X.move rfl (F.ev 10 (.int .i64 i) (by kernel_rfl))) ?_
      clear F ac
      intro ac F
      refine Y.pval F (X.w0 rfl) rfl (X.load rfl (F.ev 6 (.pointer (some ⟨w5.heap.size, 0, none⟩)) (by kernel_rfl)) (X.ld1 (Try.agg22 _) (hC.at 3 rfl))) ?_
      clear F ac
      intro ac F
      refine Y.pval F (X.w0 rfl) rfl (X.len1 Try.underlying22 rfl (F.ev 34 (.slice (some ⟨og, 0, none⟩) O.length oc) (by kernel_rfl))) ?_
      clear F ac
      intro ac F
      refine Y.pval F (X.w0 rfl) rfl (X.binop rfl (F.ev 33 (.int .i64 i) (by kernel_rfl)) (F.ev 35 (.int .i64 O.length) (by kernel_rfl)) (X.lssI Try.underlying3 rfl)) ?_
      clear F ac
      intro ac F
      refine Y.nil ?_
      replace F : Fr ac 71 [(0, .agg #[.slice ta tn tc, .slice ca cn cc]), (1, .slice a tn c), (2, .int .i64 bu), (3, .pointer (some ⟨w.heap.size, 0, none⟩)), (5, .pointer (some ⟨w3.heap.size, 0, none⟩)), (6, .pointer (some ⟨w5.heap.size, 0, none⟩)), (7, .int .i64 0), (8, .int .i64 (beginE f bu [xs])), (9, .pointer (some ⟨w26.heap.size, 0, none⟩)), (10, .int .i64 i), (20, .bool false), (25, .bool false), (36, .bool (decide ((i : Int) < O.length)))] (Y.marks ks) := F.sub _ (by kernel_rfl)
      refine X.thenN ?_
      cases h45 : decide ((i : Int) < O.length) with
      | false =>
        try rw [h45] at F
        have h45p : ¬ ((i : Int) < O.length) := of_decide_eq_false h45
        refine Y.condF (F.ev 36 (.bool false) (by kernel_rfl)) ?_
        refine Y.exit ?_
        refine X.thenX ?_
        refine X.thenX ?_
        refine X.blockX ?_
        refine X.thenN ?_
        refine Y.seq ?_
        refine Y.lit (by kernel_rfl) ?_
        refine Y.pval F (X.w0 rfl) rfl (X.load rfl (F.ev 6 (.pointer (some ⟨w5.heap.size, 0, none⟩)) (by kernel_rfl)) (X.ld1 (Try.agg22 _) (hC.at 3 rfl))) ?_
        clear F ac
        intro ac F
        refine Y.pcall F (X.w0 rfl) rfl (X.enter (F := 87) rfl (X.kc (.func (.func 87) #[] #[]) rfl) (X.a2 (F.ev 68 (.slice (some ⟨og, 0, none⟩) O.length oc) (by kernel_rfl)) (X.kc (.func (.func 85) #[] #[]) rfl)) (enters_of Try.func87 (by kernel_rfl) rfl _)) (sort_any hS.out (by omega) (by omega)) ?_
        clear F ac
        rintro e w47 ⟨rfl, g1, c1, O2, hv1, hg1, hgN, hper, hsrt, hRow, hon⟩
        refine ⟨_, rfl, ?_⟩
        intro ac F
        injection hv1 with hv1 _ hv2
        injection hv1 with hv1
        injection hv1 with hv1
        subst hv1
        subst hv2
        have hiE : i = O.length := by omega
        rw [hiE] at hB
        have hOV := hB.sorted hok hsx hper hsrt
        have hnu := hS.nu
        have hb6g : ¬ w5.heap.size = og := fun e => hgN (.inl (.inr (.inr (.inl e.symm))))
        have hS6 : w47.frozen? ⟨w5.heap.size, 0, none⟩ = false := by have := hS.f6; unfold World.frozen? at this ⊢; simp only at this ⊢; rw [hon.block w5.heap.size (lt_cell hS.c6) hb6g]; exact this
        replace G : Gr w w47 := ((hS.g0.only (fun b => w.heap.size ≤ b)).trans (hon.mono' (fun i e => by omega))).gr (fun i hi e => by omega)
        replace hMk := hMk.only hon (fun b e hb => hgN (.inr (by subst e; exact hb)))
        replace hC : RCells w47 [(⟨w5.heap.size, 0, none⟩, .slice (some ⟨og, 0, none⟩) O.length oc)] := RCells.cons (hon.cell hS.c6 hb6g) (RCells.nil _)
        refine Y.nil ?_
        replace F : Fr ac 71 [(0, .agg #[.slice ta tn tc, .slice ca cn cc]), (1, .slice a tn c), (2, .int .i64 bu), (3, .pointer (some ⟨w.heap.size, 0, none⟩)), (5, .pointer (some ⟨w3.heap.size, 0, none⟩)), (6, .pointer (some ⟨w5.heap.size, 0, none⟩)), (7, .int .i64 0), (8, .int .i64 (beginE f bu [xs])), (9, .pointer (some ⟨w26.heap.size, 0, none⟩)), (10, .int .i64 i), (20, .bool false), (25, .bool false), (36, .bool false)] (Y.marks ks) := F.sub _ (by kernel_rfl)
        refine X.thenN ?_
        refine Y.seq ?_
        refine Y.lit (by kernel_rfl) ?_
        refine Y.pval F (X.w0 rfl) rfl (X.load rfl (F.ev 6 (.pointer (some ⟨w5.heap.size, 0, none⟩)) (by kernel_rfl)) (X.ld1 (Try.agg22 _) (hC.at 0 rfl))) ?_
        clear F ac
        intro ac F
        refine Y.punit F (X.w0 rfl) rfl (X.store rfl (F.ev 6 (.pointer (some ⟨w5.heap.size, 0, none⟩)) (by kernel_rfl)) (F.ev 70 (.slice (some ⟨og, 0, none⟩) O.length oc) (by kernel_rfl)) (Y.st1 (Try.siz22 _) rfl rfl (hC.at 0 rfl) hS6)) ?_
        clear F ac
        intro ac F
        rw [setCell_same (hC.at 0 rfl)]
        refine Y.pval F (X.w0 rfl) rfl (X.assign rfl (X.kc (.int .i64 0) rfl)) ?_
        clear F ac
        intro ac F
        refine Y.nil ?_
        replace F : Fr ac 71 [(0, .agg #[.slice ta tn tc, .slice ca cn cc]), (1, .slice a tn c), (2, .int .i64 bu), (3, .pointer (some ⟨w.heap.size, 0, none⟩)), (5, .pointer (some ⟨w3.heap.size, 0, none⟩)), (6, .pointer (some ⟨w5.heap.size, 0, none⟩)), (7, .int .i64 0), (8, .int .i64 (beginE f bu [xs])), (9, .pointer (some ⟨w26.heap.size, 0, none⟩)), (10, .int .i64 i), (20, .bool false), (25, .bool false), (36, .bool false)] (Y.marks ks) := F.sub _ (by kernel_rfl)
        refine X.thenN ?_
        refine Y.ret ?_
        have hsh := Y.shut_only ks w47
        have hb6k : ¬ w5.heap.size ∈ ks := fun e => by have := hMk.b _ e; omega
        have GS : Gr w (Y.shut w47 ks) := ((G.only (fun b => w.heap.size ≤ b)).trans (hsh.mono' (fun i e => by have := hMk.b i e; omega))).gr (fun i hi e => by omega)
        exact Y.retM (v := .tuple #[.slice (some ⟨og, 0, none⟩) O.length oc, .int .i64 0]) F hnd hMk.h (Y.rc2 F rfl (Try.agg22 _) (by kernel_rfl) (hsh.cell (hC.at 0 rfl) hb6k) (by kernel_rfl)) ⟨some ⟨og, 0, none⟩, O.length, oc, by rw [HE], by rw [HV, ← hOV]; exact hRow _ _ hsh (fun b e => .inr e), GS⟩
      | true =>
        try rw [h45] at F
        have h45p : ((i : Int) < O.length) := of_decide_eq_true h45
        have hi : i < O.length := by omega
        have hRs := hB.b.at hi
        refine Y.condT (F.ev 36 (.bool true) (by kernel_rfl)) ?_
        refine Y.skip ?_
        refine X.thenN ?_
        refine Y.seq ?_
        refine Y.block ?_
        refine Y.seq ?_
        refine Y.lit (by kernel_rfl) ?_
        refine Y.pval F (X.w0 rfl) rfl (X.load rfl (F.ev 6 (.pointer (some ⟨w5.heap.size, 0, none⟩)) (by kernel_rfl)) (X.ld1 (Try.agg22 _) (hC.at 3 rfl))) ?_
        clear F ac
        intro ac F
        refine Y.pval F (X.w0 rfl) rfl (X.move rfl (F.ev 10 (.int .i64 i) (by kernel_rfl))) ?_
        clear F ac
        intro ac F
        refine Y.pval F (X.w0 rfl) rfl (X.index rfl (F.ev 39 (.slice (some ⟨og, 0, none⟩) O.length oc) (by kernel_rfl)) (F.ev 40 (.int .i64 i) (by kernel_rfl)) (X.idx (k := i) Try.underlying22 (Try.siz26 _) (by omega) (by omega) (addr_add1 _ _))) ?_
        clear F ac
        intro ac F
        obtain ⟨sd, sn, sc, hse, hsi, hs3, hsN⟩ := hrow i (by omega)
        obtain rfl : tn = sn := by rw [← hxl, hsx.len, ← hRs.1.len]; exact hsi.len
        replace hC : RCells w44 [(⟨w.heap.size, 0, none⟩, .slice ta tn tc), (⟨w.heap.size, 1, none⟩, .slice ca cn cc), (⟨w3.heap.size, 0, none⟩, .int .i64 bu), (⟨w5.heap.size, 0, none⟩, .slice (some ⟨og, 0, none⟩) O.length oc), (⟨w26.heap.size, 0, none⟩, (.map (some w17.heap.size))), (⟨og, i, none⟩, .slice (some sd) tn sc)] := hC.append ((RCells.cons (hcell i _ hse) (RCells.nil _)))
        refine Y.pval F (X.w0 rfl) rfl (X.load rfl (F.ev 41 (.pointer (some ⟨og, i, none⟩)) (by kernel_rfl)) (X.ld1 (Try.agg26 _) (hC.at 5 rfl))) ?_
        clear F ac
        intro ac F
        have hq119 : w26.heap.size < w44.heap.size := hS.n9
        have hqo11 : og < w44.heap.size := (hS.out.own rfl).2.1
        have hfA := hf
        have hSA := hS
        have hMkA := hMk
        have hsiA := hsi
        have hs3A := hs3
        have hCA := hC
        have G0A := G
        have GA := Gr.refl w44
        refine Y.pval F (X.w0 rfl) rfl (Y.al rfl (Try.new26 _)) ?_
        clear F ac
        intro ac F
        have g := Gr.alloc w44 (.cells #[.slice none 0 0] 26)
        have hb := heap_alloc_new w44 (.cells #[.slice none 0 0] 26)
        have hbl : w44.heap.size < (w44.alloc (.cells #[.slice none 0 0] 26)).heap.size := by simp
        have hC2 : RCells (w44.alloc (.cells #[.slice none 0 0] 26)) [(⟨w.heap.size, 0, none⟩, .slice ta tn tc), (⟨w.heap.size, 1, none⟩, .slice ca cn cc), (⟨w3.heap.size, 0, none⟩, .int .i64 bu), (⟨w5.heap.size, 0, none⟩, .slice (some ⟨og, 0, none⟩) O.length oc), (⟨w26.heap.size, 0, none⟩, (.map (some w17.heap.size))), (⟨og, i, none⟩, .slice (some sd) tn sc), (⟨w44.heap.size, 0, none⟩, .slice none 0 0)] := hC.box (b := w44.heap.size) #[.slice none 0 0] 26 rfl
        generalize w44.alloc (.cells #[.slice none 0 0] 26) = w49 at *
        replace G := G.trans g
        replace hC := hC2
        clear hC2
        replace GA := GA.trans g
        replace hf := hf.gr g
        replace hS := hS.gr g
        replace hMk := hMk.gr g
        replace hsi := hsi.gr g
        replace hs3 := hs3.gr g
        have hz11 := Y.Fz.new hb
        clear g hb hbl
        have hc11 := hC.at 6 rfl
        have hon := Y.set_only w49 w44.heap.size 0 (.slice (some sd) tn sc)
        refine Y.punit F (X.w0 rfl) rfl (X.store rfl (F.ev 11 (.pointer (some ⟨w44.heap.size, 0, none⟩)) (by kernel_rfl)) (F.ev 42 (.slice (some sd) tn sc) (by kernel_rfl)) (Y.st1 (Try.siz26 _) rfl rfl hc11 hz11.2)) ?_
        clear F ac
        intro ac F
        have hcv : (w49.setCell ⟨w44.heap.size, 0, none⟩ (.slice (some sd) tn sc)).cell? ⟨w44.heap.size, 0, none⟩ = some (.slice (some sd) tn sc) := by simp [go_sem, hc11]
        clear hc11 hz11
        generalize w49.setCell ⟨w44.heap.size, 0, none⟩ (.slice (some sd) tn sc) = w50 at *
        replace GA := Y.Only.up GA hon (Nat.le_refl _)
        replace G := G0A.trans GA
        replace hf := hfA.gr GA
        replace hS := hSA.gr GA
        replace hMk := hMkA.gr GA
        replace hsi := hsiA.gr GA
        replace hs3 := hs3A.gr GA
        replace hC := hCA.gr GA
        clear hon
        replace hC : RCells w50 [(⟨w.heap.size, 0, none⟩, .slice ta tn tc), (⟨w.heap.size, 1, none⟩, .slice ca cn cc), (⟨w3.heap.size, 0, none⟩, .int .i64 bu), (⟨w5.heap.size, 0, none⟩, .slice (some ⟨og, 0, none⟩) O.length oc), (⟨w26.heap.size, 0, none⟩, (.map (some w17.heap.size))), (⟨og, i, none⟩, .slice (some sd) tn sc), (⟨w44.heap.size, 0, none⟩, .slice (some sd) tn sc)] := hC.append ((RCells.cons hcv (RCells.nil _)))
        clear hcv
        refine Y.nil ?_
        replace F : Fr ac 71 [(0, .agg #[.slice ta tn tc, .slice ca cn cc]), (1, .slice a tn c), (2, .int .i64 bu), (3, .pointer (some ⟨w.heap.size, 0, none⟩)), (5, .pointer (some ⟨w3.heap.size, 0, none⟩)), (6, .pointer (some ⟨w5.heap.size, 0, none⟩)), (7, .int .i64 0), (8, .int .i64 (beginE f bu [xs])), (9, .pointer (some ⟨w26.heap.size, 0, none⟩)), (10, .int .i64 i), (11, .pointer (some ⟨w44.heap.size, 0, none⟩)), (20, .bool false), (25, .bool false), (36, .bool true)] (Y.marks ks) := F.sub _ (by kernel_rfl)
        refine X.thenN ?_
        refine Y.seq ?_
        have hq9 : w26.heap.size < w50.heap.size := hS.n9
        have hqo : og < w50.heap.size := (hS.out.own rfl).2.1
        have hq11 : w44.heap.size < w50.heap.size := lt_cell (hC.at 6 rfl)
        refine Y.region F [some (.agg #[.slice ta tn tc, .slice ca cn cc]), some (.slice (some sd) tn sc), some (.agg #[.slice ta tn tc, .slice ca cn cc]), none, none] [(3, Y.MP.intsF w50.heap.size tn (newestV f)), (4, Y.MP.iter w50.heap.size ta tn tc ca cn cc tn (O[i]?.getD []) (newestV f) (fun z => z = some sd) (Y.New w50.heap.size))] rfl ⟨by kernel_rfl, of_decide_eq_true (by kernel_rfl), by kernel_rfl, by kernel_rfl, by kernel_rfl⟩ ⟨?_, ?_, ?_, ?_, ?_, trivial⟩ ?_
        · intro ac done u W Sx hR
          have g : Gr w50 W := hR.1
          exact X.val (X.w0 rfl) rfl (X.load rfl (Sx.ev 3 (.pointer (some ⟨w.heap.size, 0, none⟩)) (by kernel_rfl)) (X.ldN (Try.agg25 _) (Try.siz25 _) (X.c2 ((hC.gr g).at 0 rfl) ((hC.gr g).at 1 rfl)))) (hR.step (Gr.refl _) rfl)
        · intro ac done u W Sx hR
          have g : Gr w50 W := hR.1
          exact X.val (X.w0 rfl) rfl (X.load rfl (Sx.ev 11 (.pointer (some ⟨w44.heap.size, 0, none⟩)) (by kernel_rfl)) (X.ld1 (Try.agg26 _) ((hC.gr g).at 6 rfl))) (hR.step (Gr.refl _) rfl)
        · intro ac done u W Sx hR
          have g : Gr w50 W := hR.1
          exact X.val (X.w0 rfl) rfl (X.load rfl (Sx.ev 3 (.pointer (some ⟨w.heap.size, 0, none⟩)) (by kernel_rfl)) (X.ldN (Try.agg25 _) (Try.siz25 _) (X.c2 ((hC.gr g).at 0 rfl) ((hC.gr g).at 1 rfl)))) (hR.step (Gr.refl _) rfl)
        · intro ac done u W Sx hR
          have g : Gr w50 W := hR.1
          refine X.call (X.w0 rfl) (X.enter (F := 80) rfl (X.kc (.func (.func 80) #[] #[]) rfl) (X.a1 (Sx.ev 45 (.agg #[.slice ta tn tc, .slice ca cn cc]) (by kernel_rfl))) (enters_of Try.func80 (by kernel_rfl) rfl _)) (newest_any w50.heap.size ta ca tn tc cn cc f W hok (hf.gr g) g.size) ?_
          rintro e W2 ⟨v, rfl, hp, g2⟩
          exact ⟨_, rfl, X.un rfl, hR.new (q := Y.MP.intsF w50.heap.size tn (newestV f)) g2 rfl hp⟩
        · intro ac done u W Sx hR
          have g : Gr w50 W := hR.1
          obtain ⟨ra52, rc52, e3, hI52, hN52⟩ := hR.get (i := 3) (Y.MP.intsF w50.heap.size tn (newestV f)) rfl (Sx.an 3 (by kernel_rfl))
          refine X.call (X.w0 rfl) (X.enter (F := 59) rfl (X.kc (.func (.func 59) #[] #[]) rfl) (X.a3 (Sx.ev 43 (.agg #[.slice ta tn tc, .slice ca cn cc]) (by kernel_rfl)) (Sx.ev 44 (.slice (some sd) tn sc) (by kernel_rfl)) ((Sx.own 3 46 rfl).trans e3)) (enters_of Try.func59 (by kernel_rfl) rfl _)) (Y.states_iter w50.heap.size (fun z => z = some sd) (Y.New w50.heap.size) ta ca (some sd) ra52 tn tc cn cc tn sc rc52 (O[i]?.getD []) (newestV f) W (hsi.gr g) hI52 rfl hN52 g.size) ?_
          rintro e W2 ⟨v, rfl, hp, g2⟩
          exact ⟨_, rfl, X.un rfl, hR.new (q := Y.MP.iter w50.heap.size ta tn tc ca cn cc tn (O[i]?.getD []) (newestV f) (fun z => z = some sd) (Y.New w50.heap.size)) g2 rfl hp⟩
        intro ac u w55 hs hd hl ho hR
        have g : Gr w50 w55 := hR.1
        obtain ⟨ra52, rc52, e3, hI52, hN52⟩ := hR.get (i := 3) (Y.MP.intsF w50.heap.size tn (newestV f)) rfl rfl
        obtain ⟨ir54, il54, it54, ia54, ic54, ja54, jc54, e4, i054, i154, i254, i354, il454, il554, iN54, jN54, ib154, ib254, ib354⟩ := hR.get (i := 4) (Y.MP.iter w50.heap.size ta tn tc ca cn cc tn (O[i]?.getD []) (newestV f) (fun z => z = some sd) (Y.New w50.heap.size)) rfl rfl
        replace F : Fr ac 71 [(0, .agg #[.slice ta tn tc, .slice ca cn cc]), (1, .slice a tn c), (2, .int .i64 bu), (3, .pointer (some ⟨w.heap.size, 0, none⟩)), (5, .pointer (some ⟨w3.heap.size, 0, none⟩)), (6, .pointer (some ⟨w5.heap.size, 0, none⟩)), (7, .int .i64 0), (8, .int .i64 (beginE f bu [xs])), (9, .pointer (some ⟨w26.heap.size, 0, none⟩)), (10, .int .i64 i), (11, .pointer (some ⟨w44.heap.size, 0, none⟩)), (20, .bool false), (25, .bool false), (36, .bool true)] (Y.marks ks) := X.fr hs hd hl _ (by kernel_rfl)
        replace F := F.add (ho 4 47 rfl) e4
        replace F : Fr ac 71 [(0, .agg #[.slice ta tn tc, .slice ca cn cc]), (1, .slice a tn c), (2, .int .i64 bu), (3, .pointer (some ⟨w.heap.size, 0, none⟩)), (5, .pointer (some ⟨w3.heap.size, 0, none⟩)), (6, .pointer (some ⟨w5.heap.size, 0, none⟩)), (7, .int .i64 0), (8, .int .i64 (beginE f bu [xs])), (9, .pointer (some ⟨w26.heap.size, 0, none⟩)), (10, .int .i64 i), (11, .pointer (some ⟨w44.heap.size, 0, none⟩)), (20, .bool false), (25, .bool false), (36, .bool true), (47, .func (.func 90) #[] #[.pointer (some ⟨ir54, 0, none⟩), .pointer (some ⟨il54, 0, none⟩), .pointer (some ⟨it54, 0, none⟩)])] (Y.marks ks) := F.sub _ (by kernel_rfl)
        clear e3 e4
        clear hs hd hl ho hR
        replace G := G.trans g
        replace hC := hC.gr g
        replace GA := GA.trans g
        replace hf := hf.gr g
        replace hS := hS.gr g
        replace hMk := hMk.gr g
        replace hsi := hsi.gr g
        replace hs3 := hs3.gr g
        clear g
        refine X.thenN ?_
        refine Y.block ?_
        obtain rfl := iN54
        have hw9 : w26.heap.size < w55.heap.size := hS.n9
        have hwo : og < w55.heap.size := (hS.out.own rfl).2.1
        have hgw := G.size
        have hw11 : w44.heap.size < w55.heap.size := lt_cell (hC.at 6 rfl)
        have hc11 := hC.at 6 rfl
        have hsN2 : ¬ NM w.heap.size w3.heap.size w5.heap.size w26.heap.size w17.heap.size ks sd.block := hsN
        have hr1 : ir54 < w55.heap.size := lt_cell i254
        have hr2 : il54 < w55.heap.size := lt_cell i054
        have hr3 : it54 < w55.heap.size := lt_cell i354
        have hSB := hS.sbase (n := tn) hok hf0 (by rw [← hxl, hsx.len]) hRs.1 rfl hsi hs3 hsN il554 jN54 hq9 (fun b e => by simp [Value.ownBlock] at e; omega)
        have hownI : ¬ (Value.slice (some ⟨og, 0, none⟩) O.length oc).ownBlock = some sd.block := fun h => (hS.out.own h).2.2.2 hs3
        have hownK : ¬ og ∈ ks := fun e => (hS.out.own rfl).2.2.1 (.inr e)
        have hen := enum_okN (n := tn) hRs.1 (by rw [← hxl, hsx.len])
        replace F : Fr ac 71 [(0, .agg #[.slice ta tn tc, .slice ca cn cc]), (1, .slice a tn c), (2, .int .i64 bu), (3, .pointer (some ⟨w.heap.size, 0, none⟩)), (5, .pointer (some ⟨w3.heap.size, 0, none⟩)), (6, .pointer (some ⟨w5.heap.size, 0, none⟩)), (7, .int .i64 0), (8, .int .i64 (beginE f bu [xs])), (9, .pointer (some ⟨w26.heap.size, 0, none⟩)), (10, .int .i64 i), (11, .pointer (some ⟨w44.heap.size, 0, none⟩)), (20, .bool false), (25, .bool false), (36, .bool true), (47, .func (.func 90) #[] #[.pointer (some ⟨ir54, 0, none⟩), .pointer (some ⟨il54, 0, none⟩), .pointer (some ⟨it54, 0, none⟩)])] (Y.marks ks) := F.sub _ (by kernel_rfl)
        refine Y.range1G (D := Y.marks ks) (wB := w55) (S := fun b => b = w5.heap.size ∨ b = w17.heap.size ∨ (Value.slice (some ⟨og, 0, none⟩) O.length oc).ownBlock = some b ∨ w55.heap.size ≤ b) (Y := fun b => b = w5.heap.size ∨ b = w17.heap.size ∨ (Value.slice (some ⟨og, 0, none⟩) O.length oc).ownBlock = some b ∨ w55.heap.size + 4 < b) (f := f) (lo := (O[i]?.getD [])) (hi := newestV f) (d := 12) F (by decide) (by decide) rfl rfl rfl (F.ev 47 _ (by kernel_rfl)) hSB (Only.refl _ _) (fun b h => by rcases h with h | h | h | h; exact .inl h; exact .inr (.inl h); exact .inr (.inr (.inl h)); exact .inr (.inr (.inr (by omega)))) (fun b h => by rcases h with h | h | h | h; omega; omega; (simp [Value.ownBlock] at h; omega); omega) i254 i054 i154 i354 (fun h => by rcases h with h | h | h | h; omega; omega; (simp [Value.ownBlock] at h; omega); omega) (fun h => by rcases h with h | h | h | h; omega; omega; (simp [Value.ownBlock] at h; omega); omega) (fun h => by rcases h with h | h | h | h; omega; omega; (simp [Value.ownBlock] at h; omega); omega) (RI w ta tn tc ca cn cc bu w.heap.size w3.heap.size w5.heap.size w26.heap.size w17.heap.size f ks w55.heap.size (Value.slice (some ⟨og, 0, none⟩) O.length oc) (O[i]?.getD []) O) (RI.start hS ⟨hMk.h, fun j hj => ⟨(hMk.b j hj).1, hMk.lt hj⟩⟩) (fun xs W W2 h g => h.keep hw9 g) ?_ ?_
        · clear F ac G hC hS
          intro pre x ad xc w56 ac hI hOB hx hax h3x hmm hsx2 hwx2 F
          obtain ⟨v1, hS, hown, hMk⟩ := hI
          obtain ⟨rest, hall2⟩ := hmm
          have hBk : BOk f bu xs (foldO f bu (O[i]?.getD []) O pre) := hB.b.fold pre O hRs.2.2 (fun t ht => hen t (by rw [hall2]; simp [ht]))
          have hlens : ∀ z ∈ foldO f bu (O[i]?.getD []) O pre, z.length = x.length := fun z hz => by rw [(hBk.ok z hz).1.len, hsx2.len]
          have h6x : x.length ≤ 6 := by rw [hsx2.len]; exact hok.n6
          have hlO := hBk.len
          have hc11 := hOB.cell hc11 (fun h => by rcases h with h | h | h | h; (have h : w44.heap.size = w5.heap.size := h; omega); (have h : w44.heap.size = w17.heap.size := h; omega); (simp [Value.ownBlock] at h; omega); (have h : w55.heap.size ≤ w44.heap.size := h; omega))
          have hsi := hsi.onlyAt hOB (fun ad e h => by cases e; rcases h with h | h | h | h; exact hsN2 (.inl (.inr (.inr (.inl h)))); exact hsN2 (.inl (.inr (.inr (.inr (.inr h))))); (exact hownI h); (have := hs3.lt; omega))
          have G := hS.g0
          have hf := hf0.gr G
          have hP : PX (NK w.heap.size w3.heap.size w5.heap.size w26.heap.size w17.heap.size ks w55.heap.size) w56 ad tn x := ⟨hx, h3x, fun e => NK_lt e (fun k hk => by have := hMk.b k hk; omega) hw9 hS.nu hax⟩
          have hOn : On (fun b => b = w5.heap.size ∨ b = w17.heap.size ∨ (Value.slice (some ⟨og, 0, none⟩) O.length oc).ownBlock = some b ∨ w55.heap.size + 4 < b) w56 w56 := ⟨Only.refl _ _⟩
          have hMk0 := hMk
          have hC : RCells w56 [(⟨w.heap.size, 0, none⟩, .slice ta tn tc), (⟨w.heap.size, 1, none⟩, .slice ca cn cc), (⟨w3.heap.size, 0, none⟩, .int .i64 bu), (⟨w5.heap.size, 0, none⟩, v1), (⟨w26.heap.size, 0, none⟩, (.map (some w17.heap.size))), (⟨w44.heap.size, 0, none⟩, .slice (some sd) tn sc)] := (RCells.cons hS.c0 (RCells.cons hS.c1 (RCells.cons hS.c5 (RCells.cons hS.c6 (RCells.cons hS.c9 (RCells.cons hc11 (RCells.nil _)))))))
          replace F : Fr ac 71 [(0, .agg #[.slice ta tn tc, .slice ca cn cc]), (1, .slice a tn c), (2, .int .i64 bu), (3, .pointer (some ⟨w.heap.size, 0, none⟩)), (5, .pointer (some ⟨w3.heap.size, 0, none⟩)), (6, .pointer (some ⟨w5.heap.size, 0, none⟩)), (7, .int .i64 0), (8, .int .i64 (beginE f bu [xs])), (9, .pointer (some ⟨w26.heap.size, 0, none⟩)), (10, .int .i64 i), (11, .pointer (some ⟨w44.heap.size, 0, none⟩)), (12, .slice (some ad) tn xc), (20, .bool false), (25, .bool false), (36, .bool true), (47, .func (.func 90) #[] #[.pointer (some ⟨ir54, 0, none⟩), .pointer (some ⟨il54, 0, none⟩), .pointer (some ⟨it54, 0, none⟩)]), (48, .slice (some ad) tn xc)] := F.sub _ (by kernel_rfl)
          refine Y.block ?_
          refine Y.seq ?_
          refine Y.lit (by kernel_rfl) ?_
          refine Y.pval F (X.w0 rfl) rfl (X.move rfl (F.ev 12 (.slice (some ad) tn xc) (by kernel_rfl))) ?_
          clear F ac
          intro ac F
          refine Y.pcall F (X.w0 rfl) rfl (X.enter (F := 57) rfl (X.kc (.func (.func 57) #[] #[]) rfl) (X.a1 (F.ev 49 (.slice (some ad) tn xc) (by kernel_rfl))) (enters_of Try.func57 (by kernel_rfl) rfl _)) (keyOf_any (some ad) tn xc x w56 hx (by omega) h6) ?_
          clear F ac
          rintro e w58 ⟨rfl, g⟩
          refine ⟨_, rfl, ?_⟩
          intro ac F
          replace G := G.trans g
          replace hC := hC.gr g
          replace hf := hf.gr g
          replace hS := hS.gr g
          replace hMk := hMk.gr g
          replace hP := hP.gr g
          replace hOn := hOn.gr g
          replace hx := hx.gr g
          replace hsi := hsi.gr g
          clear g
          have hfA := hf
          have hSA := hS
          have hMkA := hMk
          have hPA := hP
          have hOnA := hOn
          have hxA := hx
          have hsiA := hsi
          have hCA := hC
          have G0A := G
          have GA := Gr.refl w58
          refine Y.pval F (X.w0 rfl) rfl (Y.al rfl (Try.new89 _)) ?_
          clear F ac
          intro ac F
          have g := Gr.alloc w58 (.cells #[.int .i64 0, .int .i64 0, .int .i64 0, .int .i64 0, .int .i64 0, .int .i64 0] 89)
          have hb := heap_alloc_new w58 (.cells #[.int .i64 0, .int .i64 0, .int .i64 0, .int .i64 0, .int .i64 0, .int .i64 0] 89)
          have hbl : w58.heap.size < (w58.alloc (.cells #[.int .i64 0, .int .i64 0, .int .i64 0, .int .i64 0, .int .i64 0, .int .i64 0] 89)).heap.size := by simp
          generalize w58.alloc (.cells #[.int .i64 0, .int .i64 0, .int .i64 0, .int .i64 0, .int .i64 0, .int .i64 0] 89) = w59 at *
          replace G := G.trans g
          replace hC := hC.gr g
          replace GA := GA.trans g
          replace hf := hf.gr g
          replace hS := hS.gr g
          replace hMk := hMk.gr g
          replace hP := hP.gr g
          replace hOn := hOn.gr g
          replace hx := hx.gr g
          replace hsi := hsi.gr g
          have hb13 := hb
          clear g hb hbl
          obtain ⟨w60, hrun, hK, hon⟩ := key_store x hb13
          refine Y.punit F (X.w0 rfl) rfl (X.store rfl (F.ev 13 (.pointer (some ⟨w58.heap.size, 0, none⟩)) (by kernel_rfl)) (F.ev 50 ((keyV x)) (by kernel_rfl)) hrun) ?_
          clear F ac hrun
          intro ac F
          replace GA := Y.Only.up GA hon (Nat.le_refl _)
          replace G := G0A.trans GA
          replace hf := hfA.gr GA
          replace hS := hSA.gr GA
          replace hMk := hMkA.gr GA
          replace hP := hPA.gr GA
          replace hOn := hOnA.gr GA
          replace hx := hxA.gr GA
          replace hsi := hsiA.gr GA
          replace hC := hCA.gr GA
          clear hon hb13
          refine Y.nil ?_
          replace F : Fr ac 71 [(0, .agg #[.slice ta tn tc, .slice ca cn cc]), (1, .slice a tn c), (2, .int .i64 bu), (3, .pointer (some ⟨w.heap.size, 0, none⟩)), (5, .pointer (some ⟨w3.heap.size, 0, none⟩)), (6, .pointer (some ⟨w5.heap.size, 0, none⟩)), (7, .int .i64 0), (8, .int .i64 (beginE f bu [xs])), (9, .pointer (some ⟨w26.heap.size, 0, none⟩)), (10, .int .i64 i), (11, .pointer (some ⟨w44.heap.size, 0, none⟩)), (12, .slice (some ad) tn xc), (13, .pointer (some ⟨w58.heap.size, 0, none⟩)), (20, .bool false), (25, .bool false), (36, .bool true), (47, .func (.func 90) #[] #[.pointer (some ⟨ir54, 0, none⟩), .pointer (some ⟨il54, 0, none⟩), .pointer (some ⟨it54, 0, none⟩)]), (48, .slice (some ad) tn xc)] := F.sub _ (by kernel_rfl)
          refine X.thenN ?_
          refine Y.seq ?_
          refine Y.lit (by kernel_rfl) ?_
          refine Y.pval F (X.w0 rfl) rfl (X.load rfl (F.ev 9 (.pointer (some ⟨w26.heap.size, 0, none⟩)) (by kernel_rfl)) (X.ld1 (Try.agg86 _) (hC.at 4 rfl))) ?_
          clear F ac
          intro ac F
          refine Y.pval F (X.w0 rfl) rfl (X.load rfl (F.ev 13 (.pointer (some ⟨w58.heap.size, 0, none⟩)) (by kernel_rfl)) hK.ld) ?_
          clear F ac
          intro ac F
          by_cases hmem : x ∈ foldO f bu (O[i]?.getD []) O pre
          · have hmem := hmem
            have hlk := seen_lookup (t := 86) (e := 3) (by kernel_rfl) (Try.zero3 _) hS.sn (StOk.small hok hsx2) hlens h6x
            rw [if_pos hmem] at hlk
            refine Y.pval F (X.w0 rfl) rfl (X.lk rfl (F.ev 51 ((.map (some w17.heap.size))) (by kernel_rfl)) (F.ev 52 ((keyV x)) (by kernel_rfl)) hlk) ?_
            clear F ac hlk
            intro ac F
            refine Y.pval F (X.w0 rfl) rfl (X.binop rfl (F.ev 53 (.int .i64 1) (by kernel_rfl)) (X.kc (.int .i64 0) rfl) (X.eqlI Try.underlying3 (show ((1 : Int) == 0) = false by simp))) ?_
            clear F ac
            intro ac F
            refine Y.pval F (X.w0 rfl) rfl (X.move rfl (F.ev 54 (.bool false) (by kernel_rfl))) ?_
            clear F ac
            intro ac F
            refine Y.pskip F (X.w2 rfl (F.yl (j := 4) (d := 55) (b := false) rfl (by kernel_rfl)) rfl) rfl ?_
            clear F ac
            intro ac F
            refine Y.pskip F (X.w2 rfl (F.yl (j := 4) (d := 55) (b := false) rfl (by kernel_rfl)) rfl) rfl ?_
            clear F ac
            intro ac F
            refine Y.pskip F (X.w2 rfl (F.yl (j := 4) (d := 55) (b := false) rfl (by kernel_rfl)) rfl) rfl ?_
            clear F ac
            intro ac F
            refine Y.pskip F (X.w2 rfl (F.yl (j := 4) (d := 55) (b := false) rfl (by kernel_rfl)) rfl) rfl ?_
            clear F ac
            intro ac F
            refine Y.pskip F (X.w2 rfl (F.yl (j := 4) (d := 55) (b := false) rfl (by kernel_rfl)) rfl) rfl ?_
            clear F ac
            intro ac F
            refine Y.pval F (X.w0 rfl) rfl (X.pickF rfl (F.ev 55 (.bool false) (by kernel_rfl)) (X.kc (.bool false) rfl)) ?_
            clear F ac
            intro ac F
            refine Y.nil ?_
            replace F : Fr ac 71 [(0, .agg #[.slice ta tn tc, .slice ca cn cc]), (1, .slice a tn c), (2, .int .i64 bu), (3, .pointer (some ⟨w.heap.size, 0, none⟩)), (5, .pointer (some ⟨w3.heap.size, 0, none⟩)), (6, .pointer (some ⟨w5.heap.size, 0, none⟩)), (7, .int .i64 0), (8, .int .i64 (beginE f bu [xs])), (9, .pointer (some ⟨w26.heap.size, 0, none⟩)), (10, .int .i64 i), (11, .pointer (some ⟨w44.heap.size, 0, none⟩)), (12, .slice (some ad) tn xc), (13, .pointer (some ⟨w58.heap.size, 0, none⟩)), (20, .bool false), (25, .bool false), (36, .bool true), (47, .func (.func 90) #[] #[.pointer (some ⟨ir54, 0, none⟩), .pointer (some ⟨il54, 0, none⟩), .pointer (some ⟨it54, 0, none⟩)]), (48, .slice (some ad) tn xc), (61, .bool false)] := F.sub _ (by kernel_rfl)
            refine X.thenN ?_
            refine Y.condF (F.ev 61 (.bool false) (by kernel_rfl)) ?_
            refine Y.skip ?_
            refine X.blockN ?_
            have hst : stepO f bu (O[i]?.getD []) (foldO f bu (O[i]?.getD []) O pre) x = foldO f bu (O[i]?.getD []) O pre := by unfold stepO; rw [if_pos hmem]
            exact ⟨hOn.o, _, by rw [foldO_snoc, hst]; exact hS, hown, hMk⟩
          · have hmem := hmem
            have hlk := seen_lookup (t := 86) (e := 3) (by kernel_rfl) (Try.zero3 _) hS.sn (StOk.small hok hsx2) hlens h6x
            rw [if_neg hmem] at hlk
            refine Y.pval F (X.w0 rfl) rfl (X.lk rfl (F.ev 51 ((.map (some w17.heap.size))) (by kernel_rfl)) (F.ev 52 ((keyV x)) (by kernel_rfl)) hlk) ?_
            clear F ac hlk
            intro ac F
            refine Y.pval F (X.w0 rfl) rfl (X.binop rfl (F.ev 53 (.int .i64 0) (by kernel_rfl)) (X.kc (.int .i64 0) rfl) (X.eqlI Try.underlying3 (show ((0 : Int) == 0) = true by simp))) ?_
            clear F ac
            intro ac F
            refine Y.pval F (X.w0 rfl) rfl (X.move rfl (F.ev 54 (.bool true) (by kernel_rfl))) ?_
            clear F ac
            intro ac F
            refine Y.pval F (X.w1 rfl (F.yl (j := 4) (d := 55) (b := true) rfl (by kernel_rfl))) rfl (X.load rfl (F.ev 3 (.pointer (some ⟨w.heap.size, 0, none⟩)) (by kernel_rfl)) (X.ldN (Try.agg25 _) (Try.siz25 _) (X.c2 (hC.at 0 rfl) (hC.at 1 rfl)))) ?_
            clear F ac
            intro ac F
            refine Y.pval F (X.w1 rfl (F.yl (j := 4) (d := 55) (b := true) rfl (by kernel_rfl))) rfl (X.load rfl (F.ev 11 (.pointer (some ⟨w44.heap.size, 0, none⟩)) (by kernel_rfl)) (X.ld1 (Try.agg26 _) (hC.at 5 rfl))) ?_
            clear F ac
            intro ac F
            refine Y.pval F (X.w1 rfl (F.yl (j := 4) (d := 55) (b := true) rfl (by kernel_rfl))) rfl (X.move rfl (F.ev 12 (.slice (some ad) tn xc) (by kernel_rfl))) ?_
            clear F ac
            intro ac F
            refine Y.pval F (X.w1 rfl (F.yl (j := 4) (d := 55) (b := true) rfl (by kernel_rfl))) rfl (X.load rfl (F.ev 5 (.pointer (some ⟨w3.heap.size, 0, none⟩)) (by kernel_rfl)) (X.ld1 (Try.agg3 _) (hC.at 2 rfl))) ?_
            clear F ac
            intro ac F
            refine Y.pcall F (X.w1 rfl (F.yl (j := 4) (d := 55) (b := true) rfl (by kernel_rfl))) rfl (X.enter (F := 60) rfl (X.kc (.func (.func 60) #[] #[]) rfl) (X.a4 (F.ev 56 (.agg #[.slice ta tn tc, .slice ca cn cc]) (by kernel_rfl)) (F.ev 57 (.slice (some sd) tn sc) (by kernel_rfl)) (F.ev 58 (.slice (some ad) tn xc) (by kernel_rfl)) (F.ev 59 (.int .i64 bu) (by kernel_rfl))) (enters_of Try.func60 (by kernel_rfl) rfl _)) (steps_any ta ca (some sd) (some ad) tn tc cn cc tn sc xc f (O[i]?.getD []) x bu w60 hf hok hsi hx hRs.1 hsx2) ?_
            clear F ac
            rintro e w63 ⟨rfl, g⟩
            refine ⟨_, rfl, ?_⟩
            intro ac F
            replace G := G.trans g
            replace hC := hC.gr g
            replace GA := GA.trans g
            replace hf := hf.gr g
            replace hS := hS.gr g
            replace hMk := hMk.gr g
            replace hP := hP.gr g
            replace hOn := hOn.gr g
            replace hx := hx.gr g
            replace hsi := hsi.gr g
            replace hK := hK.gr g
            clear g
            refine Y.pval F (X.w0 rfl) rfl (X.pickT rfl (F.ev 55 (.bool true) (by kernel_rfl)) (F.ev 60 (.bool (stepsB f.times (O[i]?.getD []) x bu)) (by kernel_rfl))) ?_
            clear F ac
            intro ac F
            refine Y.nil ?_
            replace F : Fr ac 71 [(0, .agg #[.slice ta tn tc, .slice ca cn cc]), (1, .slice a tn c), (2, .int .i64 bu), (3, .pointer (some ⟨w.heap.size, 0, none⟩)), (5, .pointer (some ⟨w3.heap.size, 0, none⟩)), (6, .pointer (some ⟨w5.heap.size, 0, none⟩)), (7, .int .i64 0), (8, .int .i64 (beginE f bu [xs])), (9, .pointer (some ⟨w26.heap.size, 0, none⟩)), (10, .int .i64 i), (11, .pointer (some ⟨w44.heap.size, 0, none⟩)), (12, .slice (some ad) tn xc), (13, .pointer (some ⟨w58.heap.size, 0, none⟩)), (20, .bool false), (25, .bool false), (36, .bool true), (47, .func (.func 90) #[] #[.pointer (some ⟨ir54, 0, none⟩), .pointer (some ⟨il54, 0, none⟩), .pointer (some ⟨it54, 0, none⟩)]), (48, .slice (some ad) tn xc), (61, .bool (stepsB f.times (O[i]?.getD []) x bu))] := F.sub _ (by kernel_rfl)
            refine X.thenN ?_
            cases h64 : stepsB f.times (O[i]?.getD []) x bu with
            | false =>
              try rw [h64] at F
              have hst : stepO f bu (O[i]?.getD []) (foldO f bu (O[i]?.getD []) O pre) x = foldO f bu (O[i]?.getD []) O pre := by unfold stepO; rw [if_neg hmem, if_neg (by rw [h64]; decide)]
              refine Y.condF (F.ev 61 (.bool false) (by kernel_rfl)) ?_
              refine Y.skip ?_
              refine X.blockN ?_
              exact ⟨hOn.o, _, by rw [foldO_snoc, hst]; exact hS, hown, hMk⟩
            | true =>
              try rw [h64] at F
              have hst : stepO f bu (O[i]?.getD []) (foldO f bu (O[i]?.getD []) O pre) x = foldO f bu (O[i]?.getD []) O pre ++ [x] := by unfold stepO; rw [if_neg hmem, if_pos h64]
              refine Y.condT (F.ev 61 (.bool true) (by kernel_rfl)) ?_
              refine Y.seq ?_
              refine Y.lit (by kernel_rfl) ?_
              refine Y.pval F (X.w0 rfl) rfl (X.load rfl (F.ev 9 (.pointer (some ⟨w26.heap.size, 0, none⟩)) (by kernel_rfl)) (X.ld1 (Try.agg86 _) (hC.at 4 rfl))) ?_
              clear F ac
              intro ac F
              refine Y.pval F (X.w0 rfl) rfl (X.load rfl (F.ev 13 (.pointer (some ⟨w58.heap.size, 0, none⟩)) (by kernel_rfl)) hK.ld) ?_
              clear F ac
              intro ac F
              obtain ⟨w65, hrun, hS2, hon⟩ := hS.mapU (StOk.small hok hsx2) hlens h6x hmem
              refine Y.punit F (X.w0 rfl) rfl (X.mu rfl (F.ev 62 ((.map (some w17.heap.size))) (by kernel_rfl)) (F.ev 63 ((keyV x)) (by kernel_rfl)) (X.kc (.int .i64 1) rfl) hrun) ?_
              clear F ac hrun
              intro ac F
              replace hP := hP.only hon (fun b e => hS.nN b (by subst e; exact .inr (.inr (.inr (.inr rfl)))))
              replace hOn := hOn.then hon (fun i e => .inr (.inl e))
              replace hS := hS2
              clear hS2 hon
              replace G := hS.g0
              replace hC : RCells w65 [(⟨w5.heap.size, 0, none⟩, v1)] := RCells.cons hS.c6 (RCells.nil _)
              refine Y.nil ?_
              replace F : Fr ac 71 [(0, .agg #[.slice ta tn tc, .slice ca cn cc]), (1, .slice a tn c), (2, .int .i64 bu), (3, .pointer (some ⟨w.heap.size, 0, none⟩)), (5, .pointer (some ⟨w3.heap.size, 0, none⟩)), (6, .pointer (some ⟨w5.heap.size, 0, none⟩)), (7, .int .i64 0), (8, .int .i64 (beginE f bu [xs])), (9, .pointer (some ⟨w26.heap.size, 0, none⟩)), (10, .int .i64 i), (11, .pointer (some ⟨w44.heap.size, 0, none⟩)), (12, .slice (some ad) tn xc), (13, .pointer (some ⟨w58.heap.size, 0, none⟩)), (20, .bool false), (25, .bool false), (36, .bool true), (47, .func (.func 90) #[] #[.pointer (some ⟨ir54, 0, none⟩), .pointer (some ⟨il54, 0, none⟩), .pointer (some ⟨it54, 0, none⟩)]), (48, .slice (some ad) tn xc), (61, .bool true)] := F.sub _ (by kernel_rfl)
              refine X.thenN ?_
              refine Y.lit (by kernel_rfl) ?_
              refine Y.pval F (X.w0 rfl) rfl (X.load rfl (F.ev 6 (.pointer (some ⟨w5.heap.size, 0, none⟩)) (by kernel_rfl)) (X.ld1 (Try.agg22 _) (hC.at 0 rfl))) ?_
              clear F ac
              intro ac F
              refine Y.pval F (X.w0 rfl) rfl (X.move rfl (F.ev 12 (.slice (some ad) tn xc) (by kernel_rfl))) ?_
              clear F ac
              intro ac F
              refine Y.pval F (X.w0 rfl) rfl (X.bs rfl (X.b1 (F.ev 65 (.slice (some ad) tn xc) (by kernel_rfl))) (Try.bs22a _ _ _ _)) ?_
              clear F ac
              intro ac F
              have g := Gr.alloc w65 (.cells #[.slice (some ad) tn xc] 26)
              have hb := heap_alloc_new w65 (.cells #[.slice (some ad) tn xc] 26)
              have hbl : w65.heap.size < (w65.alloc (.cells #[.slice (some ad) tn xc] 26)).heap.size := by simp
              generalize w65.alloc (.cells #[.slice (some ad) tn xc] 26) = w66 at *
              replace G := G.trans g
              replace hC := hC.gr g
              replace hS := hS.gr g
              replace hP := hP.gr g
              replace hOn := hOn.gr g
              have hbk := hb
              have hbkl := hbl
              clear g hb hbl
              have hNs : ¬ NK w.heap.size w3.heap.size w5.heap.size w26.heap.size w17.heap.size ks w55.heap.size w66.heap.size := fun e => NK_lt e (fun k hk => by have := hMk.b k hk; omega) hw9 hS.nu (by have := hP.h3.lt; omega)
              refine Y.wpL_plain rfl fun _ hK => wp_pushN rfl (F.ev 64 (v1) (by kernel_rfl)) (F.ev 66 (.slice (some ⟨w65.heap.size, 0, none⟩) 1 1) (by kernel_rfl)) hbk hS.out hS.g0.size hP.i hP.h3 hP.nn hNs (by omega) (fun v2 w67 hO2 hon hat => hK _ _ ?_)
              refine Y.pput F rfl ?_
              clear F ac
              intro ac F
              have hS2 := hS.app hO2 hon
              replace hOn := hOn.then hon (fun i e => by rcases hown i e with h | h; exact .inr (.inr (.inl h)); exact .inr (.inr (.inr h)))
              have hown2 : ∀ b, v2.ownBlock = some b → (Value.slice (some ⟨og, 0, none⟩) O.length oc).ownBlock = some b ∨ w55.heap.size + 4 < b := fun b e => by
                rcases hat with h | h
                · rw [h] at e; exact hown b e
                · rw [h] at e; injection e with e; have := hP.h3.lt; right; omega
              obtain ⟨g2, c2, _, rfl, _⟩ := hO2.shape (by simp)
              replace hS := hS2
              clear hS2 hon hat hbk hbkl hP hNs
              replace G := hS.g0
              replace hC : RCells w67 [(⟨w5.heap.size, 0, none⟩, v1)] := RCells.cons hS.c6 (RCells.nil _)
              refine Y.punit F (X.w0 rfl) rfl (X.store rfl (F.ev 6 (.pointer (some ⟨w5.heap.size, 0, none⟩)) (by kernel_rfl)) (F.ev 67 (.slice (some ⟨g2, 0, none⟩) ((foldO f bu (O[i]?.getD []) O pre ++ [x]).length) c2) (by kernel_rfl)) (Y.st1 (Try.siz22 _) rfl rfl hS.c6 hS.f6)) ?_
              clear F ac
              intro ac F
              replace hOn := hOn.then (Y.set_only w67 w5.heap.size 0 (.slice (some ⟨g2, 0, none⟩) ((foldO f bu (O[i]?.getD []) O pre ++ [x]).length) c2)) (fun i e => .inl e)
              replace hS := hS.set (.slice (some ⟨g2, 0, none⟩) ((foldO f bu (O[i]?.getD []) O pre ++ [x]).length) c2)
              generalize w67.setCell ⟨w5.heap.size, 0, none⟩ (.slice (some ⟨g2, 0, none⟩) ((foldO f bu (O[i]?.getD []) O pre ++ [x]).length) c2) = w68 at *
              clear hC
              refine Y.nil ?_
              replace F : Fr ac 71 [(0, .agg #[.slice ta tn tc, .slice ca cn cc]), (1, .slice a tn c), (2, .int .i64 bu), (3, .pointer (some ⟨w.heap.size, 0, none⟩)), (5, .pointer (some ⟨w3.heap.size, 0, none⟩)), (6, .pointer (some ⟨w5.heap.size, 0, none⟩)), (7, .int .i64 0), (8, .int .i64 (beginE f bu [xs])), (9, .pointer (some ⟨w26.heap.size, 0, none⟩)), (10, .int .i64 i), (11, .pointer (some ⟨w44.heap.size, 0, none⟩)), (12, .slice (some ad) tn xc), (13, .pointer (some ⟨w58.heap.size, 0, none⟩)), (20, .bool false), (25, .bool false), (36, .bool true), (47, .func (.func 90) #[] #[.pointer (some ⟨ir54, 0, none⟩), .pointer (some ⟨il54, 0, none⟩), .pointer (some ⟨it54, 0, none⟩)]), (48, .slice (some ad) tn xc), (61, .bool true)] := F.sub _ (by kernel_rfl)
              refine X.blockN ?_
              exact ⟨hOn.o, _, by rw [foldO_snoc, hst]; exact hS, hown2, hMk0.only hOn.o (fun b h hb => by have := hMk0.b b hb; rcases h with h | h | h | h; omega; omega; (simp [Value.ownBlock] at h; exact hownK (by rw [h]; exact hb)); omega)⟩
        clear F ac G hC hS hf
        intro w69 ac hI hk F
        have hMo := hMk
        clear hMk
        obtain ⟨v1, hS, hMk⟩ := hI.done hk hw9
        clear hI
        have hBn := hB.next (n := tn) (by omega) (by rw [← hxl, hsx.len]) hen
        obtain ⟨E_, hE_⟩ := foldO_pre (f := f) (bu := bu) (s := (O[i]?.getD [])) (enum f (O[i]?.getD []) (newestV f) tn []) O
        have hlE : O.length ≤ (foldO f bu (O[i]?.getD []) O (enum f (O[i]?.getD []) (newestV f) tn [])).length := by rw [hE_, List.length_append]; omega
        have G := hS.g0
        refine X.blockN ?_
        refine X.blockN ?_
        refine X.thenN ?_
        refine Y.lit (by kernel_rfl) ?_
        refine Y.pval F (X.w0 rfl) rfl (X.move rfl (F.ev 10 (.int .i64 i) (by kernel_rfl))) ?_
        clear F ac
        intro ac F
        refine Y.pval F (X.w0 rfl) rfl (X.binop rfl (F.ev 37 (.int .i64 i) (by kernel_rfl)) (X.kc (.int .i64 1) rfl) (X.addI Try.underlying3 rfl (by omega) (by omega))) ?_
        clear F ac
        intro ac F
        refine Y.pval F (X.w0 rfl) rfl (X.assign rfl (F.ev 38 (.int .i64 ((i : Int) + 1)) (by kernel_rfl))) ?_
        clear F ac
        intro ac F
        refine Y.nil ?_
        replace F : Fr ac 71 [(0, .agg #[.slice ta tn tc, .slice ca cn cc]), (1, .slice a tn c), (2, .int .i64 bu), (3, .pointer (some ⟨w.heap.size, 0, none⟩)), (5, .pointer (some ⟨w3.heap.size, 0, none⟩)), (6, .pointer (some ⟨w5.heap.size, 0, none⟩)), (7, .int .i64 0), (8, .int .i64 (beginE f bu [xs])), (9, .pointer (some ⟨w26.heap.size, 0, none⟩)), (10, .int .i64 ((i : Int) + 1)), (11, .pointer (some ⟨w44.heap.size, 0, none⟩)), (20, .bool false), (25, .bool false), (36, .bool true), (47, .func (.func 90) #[] #[.pointer (some ⟨ir54, 0, none⟩), .pointer (some ⟨il54, 0, none⟩), .pointer (some ⟨it54, 0, none⟩)])] (Y.marks (w55.heap.size :: ks)) := F.sub _ (by kernel_rfl)
        refine X.thenN ?_
        refine ⟨_, ?_, i + 1, v1, _, w55.heap.size :: ks, rfl, hS, by omega, hBn, hMk, List.nodup_cons.2 ⟨fun e => by have := hMo.b _ e; omega, hnd⟩, F.sub _ (by kernel_rfl)⟩
        omega
  | true =>
    try rw [h15] at F
    have h15p : ¬ (beginE f bu [xs] : Int) = 0 := by simpa using h15
    have HE : reachE f xs bu = beginE f bu [xs] := by unfold reachE plannedE; rw [beginE_two, if_neg h15p]
    have HV : reachR f xs bu = [] := if_neg (by rw [show plannedE f xs xs bu = beginE f bu [xs] from HE]; exact h15p)
    refine Y.condT (F.ev 20 (.bool true) (by kernel_rfl)) ?_
    refine Y.seq ?_
    refine Y.lit (by kernel_rfl) ?_
    refine Y.pval F (X.w0 rfl) rfl (X.move rfl (F.ev 8 (.int .i64 (beginE f bu [xs])) (by kernel_rfl))) ?_
    clear F ac
    intro ac F
    refine Y.punit F (X.w0 rfl) rfl (X.store rfl (F.ev 6 (.pointer (some ⟨w5.heap.size, 0, none⟩)) (by kernel_rfl)) (X.kc (.slice none 0 0) rfl) (Y.st1 (Try.siz22 _) rfl rfl (hC.at 3 rfl) hz.2)) ?_
    clear F ac
    intro ac F
    rw [setCell_same (hC.at 3 rfl)]
    refine Y.pval F (X.w0 rfl) rfl (X.assign rfl (F.ev 21 (.int .i64 (beginE f bu [xs])) (by kernel_rfl))) ?_
    clear F ac
    intro ac F
    refine Y.nil ?_
    replace F : Fr ac 71 [(0, .agg #[.slice ta tn tc, .slice ca cn cc]), (1, .slice a n c), (2, .int .i64 bu), (3, .pointer (some ⟨w.heap.size, 0, none⟩)), (5, .pointer (some ⟨w3.heap.size, 0, none⟩)), (6, .pointer (some ⟨w5.heap.size, 0, none⟩)), (7, .int .i64 (beginE f bu [xs])), (8, .int .i64 (beginE f bu [xs])), (20, .bool true)] := F.sub _ (by kernel_rfl)
    refine X.thenN ?_
    refine Y.ret ?_
    refine X.thenR ?_
    exact Y.ret0 F (Y.rc2 F rfl (Try.agg22 _) (by kernel_rfl) (hC.at 3 rfl) (by kernel_rfl)) ⟨none, 0, 0, by rw [HE], by rw [HV]; exact RowsAt.nil _, G⟩
end
section
theorem stepsB_mono {T : List (List Int)} {s t : List Int} {b b' : Int} (h : b ≤ b') (hs : stepsB T s t b = true) : stepsB T s t b' = true := by
  unfold stepsB at *
  rw [Bool.and_eq_true] at *
  refine ⟨hs.1, decide_eq_true ?_⟩
  have := of_decide_eq_true hs.2
  omega
theorem StOk.of {f f' : Fl} (ht : f.times = f'.times) {s : List Int} (h : StOk f s) : StOk f' s := ⟨by rw [h.len, ht], fun c hc => by rw [← ht]; exact h.ver c (by rw [ht]; exact hc)⟩
theorem okPlan_mono {f f' : Fl} {b b' : Int} (ht : f.times = f'.times) (hw : ∀ s, worksB f s = true → worksB f' s = true) (hb : b ≤ b') : ∀ (L : List (List Int)) (p : List Int), okPlan f b p L → okPlan f' b' p L := by
  intro L
  induction L with
  | nil => exact fun _ _ => trivial
  | cons s L ih => exact fun p ⟨h1, h2, h3⟩ => ⟨hw s h1, by rw [← ht]; exact stepsB_mono hb h2, ih s h3⟩
theorem Rp_mono {f f' : Fl} {b b' : Int} {xs t : List Int} (ht : f.times = f'.times) (hw : ∀ s, worksB f s = true → worksB f' s = true) (hb : b ≤ b') (h : Rp f b xs t) : Rp f' b' xs t := by
  obtain ⟨L, h1, h2, h3⟩ := h
  exact ⟨L, okPlan_mono ht hw hb L xs h1, fun x hx => (h2 x hx).of ht, h3⟩
theorem Asc.sub {A B : List (List Int)} (ha : Asc A) (hb : Asc B) (h : ∀ x ∈ A, x ∈ B) : A.Sublist B := by
  have : A = B.filter (fun x => decide (x ∈ A)) := asc_ext ha (hb.filter _) (fun x => by
    rw [List.mem_filter, decide_eq_true_eq]
    exact ⟨fun hx => ⟨h x hx, hx⟩, fun hx => hx.2⟩)
  rw [this]
  exact List.filter_sublist
theorem Asc.nodup {A : List (List Int)} (ha : Asc A) : A.Nodup := by
  unfold Asc at ha
  exact ha.imp (fun {a b} h e => by subst e; rw [cmpL_self] at h; cases h)
theorem reach_sub {f f' : Fl} {b b' : Int} {xs : List Int} (hok : FlOk f) (hok' : FlOk f') (hs : StOk f xs) (ht : f.times = f'.times) (hw : ∀ s, worksB f s = true → worksB f' s = true) (hb : b ≤ b') : (reachV f xs b).Sublist (reachV f' xs b') :=
  (reachV_asc f xs b).sub (reachV_asc f' xs b') (fun t h => by
    obtain ⟨h1, h2, h3⟩ := (reachV_mem hok hs).1 h
    exact (reachV_mem hok' (hs.of ht)).2 ⟨h1.of ht, hw t h2, Rp_mono ht hw hb h3⟩)

/-- going through a list, looking for another -/
theorem scan_hit {few many : List (List Int)} {k i : Nat} (hi : i < many.length) (hk : k < few.length) (h : (few.drop k).Sublist (many.drop i)) (he : many[i]?.getD [] = few[k]?.getD []) : (few.drop (k + 1)).Sublist (many.drop (i + 1)) := by
  rw [List.drop_eq_getElem_cons hi, List.drop_eq_getElem_cons hk] at h
  rw [List.getElem?_eq_getElem hi, List.getElem?_eq_getElem hk] at he
  simp only [Option.getD_some] at he
  rw [he] at h
  exact List.cons_sublist_cons.1 h
theorem scan_miss {few many : List (List Int)} {k i : Nat} (hi : i < many.length) (hk : k < few.length) (h : (few.drop k).Sublist (many.drop i)) (he : ¬ many[i]?.getD [] = few[k]?.getD []) : (few.drop k).Sublist (many.drop (i + 1)) := by
  rw [List.drop_eq_getElem_cons hi] at h
  rw [List.drop_eq_getElem_cons hk] at h ⊢
  rw [List.getElem?_eq_getElem hi, List.getElem?_eq_getElem hk] at he
  simp only [Option.getD_some] at he
  generalize many[i] = a at *
  generalize few[k] = b at *
  cases h with
  | cons _ h => exact h
  | cons_cons _ h => exact absurd rfl he
theorem scan_out {few many : List (List Int)} {k i : Nat} (hk : few.length ≤ k) : (few.drop k).Sublist (many.drop i) := by
  rw [List.drop_eq_nil_of_le hk]; exact List.nil_sublist _
theorem scan_end {few many : List (List Int)} {k i : Nat} (hi : many.length ≤ i) (hk : k ≤ few.length) (h : (few.drop k).Sublist (many.drop i)) : k = few.length := by
  rw [List.drop_eq_nil_of_le hi] at h
  have := List.length_drop (l := few) (i := k)
  rw [List.sublist_nil.1 h] at this
  simp at this; omega
theorem seen_succ {few : List (List Int)} {t : List Int} {i : Nat} (hi : i < few.length) : decide (t ∈ few.take (i + 1)) = (decide (t ∈ few.take i) || decide (few[i]?.getD [] = t)) := by
  rw [List.take_succ_eq_append_getElem hi, List.getElem?_eq_getElem hi]
  simp only [Option.getD_some, List.mem_append, List.mem_singleton, Bool.decide_or]
  congr 1
  exact decide_eq_decide.2 ⟨fun h => h.symm, fun h => h.symm⟩

theorem reachE_ok {f : Fl} {xs : List Int} {bu : Int} (h : reachE f xs bu = 0) : FlOk f ∧ StOk f xs ∧ worksB f xs = true ∧ 0 ≤ bu ∧ bu ≤ 1000000 ∧ reachR f xs bu = reachV f xs bu := by
  obtain ⟨h1, h2, _⟩ := plannedE_ok h
  obtain ⟨h3, h4, _⟩ := beginE_ok h1
  exact ⟨h3, h4, h2, (beginE_bu h1).1, (beginE_bu h1).2, if_pos h⟩
theorem reachE_more {f : Fl} {xs : List Int} {bu b' : Int} (h : reachE f xs bu = 0) (hb : bu ≤ b') (hb' : b' ≤ 1000000) : reachE f xs b' = 0 := by
  obtain ⟨_, _, _, h0, h1, _⟩ := reachE_ok h
  have := planned_bu (f := f) (xs := xs) (ys := xs) (a := b') (b := bu) (by omega) (by omega)
  unfold reachE at *
  rw [this]; exact h
theorem beginE_states {f : Fl} {bu : Int} {L M : List (List Int)} (h : beginE f bu L = 0) (hM : statesE f M = 0) : beginE f bu M = 0 := by
  unfold beginE at *
  by_cases hz : statesE f L = 0
  · rw [if_pos hz] at h; rw [if_pos hM]; exact h
  · rw [if_neg hz] at h; exact absurd h hz
/-- a state is reached exactly if there is a plan -/
theorem same_in {f : Fl} {xs t : List Int} {bu : Int} (h : reachE f xs bu = 0) : planE f xs t bu = 0 ↔ t ∈ reachR f xs bu := by
  obtain ⟨hok, hs, hw, _, _, hR⟩ := reachE_ok h
  rw [hR, reachV_mem hok hs]
  constructor
  · intro hp
    unfold planE at hp
    by_cases hz : plannedE f xs t bu = 0
    · rw [if_pos hz] at hp
      obtain ⟨h1, _, h2⟩ := plannedE_ok hz
      obtain ⟨_, _, h4⟩ := beginE_ok h1
      refine ⟨h4, h2, (Rp_iff hok hs h4).1 ?_⟩
      cases hi : (bestV f t bu xs).is with
      | true => rfl
      | false => rw [hi] at hp; simp at hp
    · rw [if_neg hz] at hp; exact absurd hp hz
  · rintro ⟨h1, h2, h3⟩
    obtain ⟨h4, _, _⟩ := plannedE_ok h
    have hchk : chkB f = true := by
      unfold beginE at h4
      by_cases hz : statesE f [xs, xs] = 0
      · exact (statesE_zero hz).1
      · rw [if_neg hz] at h4; exact absurd h4 hz
    have hz : statesE f [xs, t] = 0 := statesE_ok hchk (fun j hj => by
      match j with
      | 0 => simpa using hs.b
      | 1 => simpa using h1.b
      | j + 2 => exact absurd hj (by simp))
    have hb := beginE_states h4 hz
    unfold planE plannedE
    rw [if_pos hb, hw, h2, (Rp_iff hok hs h1).2 h3]
    rfl
theorem same_more {f : Fl} {xs t : List Int} {bu b' : Int} (h : reachE f xs bu = 0) (hb : bu ≤ b') (hb' : b' ≤ 1000000) (hp : planE f xs t bu = 0) : planE f xs t b' = 0 ∧ (planV f xs t b').length ≤ (planV f xs t bu).length := by
  have h2 := reachE_more h hb hb'
  obtain ⟨hok, hs, _, _, _, hR⟩ := reachE_ok h
  obtain ⟨_, _, _, _, _, hR2⟩ := reachE_ok h2
  have hp2 : planE f xs t b' = 0 := (same_in h2).2 (by
    rw [hR2]
    refine (reach_sub hok hok hs rfl (fun _ h => h) hb).subset ?_
    rw [← hR]
    exact (same_in h).1 hp)
  refine ⟨hp2, ?_⟩
  obtain ⟨k1, k2, _⟩ := planV_holds hp
  have := no_shorter (bu := b') (Q := planV f xs t bu) hp2 ⟨k1.ok, k1.a, k1.l, okPlan_mono rfl (fun _ h => h) hb _ _ k1.pl, k1.n64⟩ k2
  omega

/-- one more clash -/
def moreF (f : Fl) (x : Cl) : Fl := ⟨f.times, f.cl ++ [x]⟩
theorem clashFrom_neg (C : List Cl) (s : List Int) : ∀ m k, clashFrom C s m k < 0 ↔ ∀ j, k ≤ j → j < k + m → applies (C[j]?.getD default) s = false := by
  intro m
  induction m with
  | zero => exact fun k => ⟨fun _ j h1 h2 => by omega, fun _ => by simp [clashFrom]⟩
  | succ m ih =>
    intro k
    simp only [clashFrom]
    cases h : applies (C[k]?.getD default) s with
    | true => simp only [if_true]; exact ⟨fun h => by omega, fun h2 => by have := h2 k (Nat.le_refl _) (by omega); rw [h] at this; cases this⟩
    | false =>
      simp only [Bool.false_eq_true, if_false, ih (k + 1)]
      refine ⟨fun h2 j h3 h4 => ?_, fun h2 j h3 h4 => h2 j (by omega) (by omega)⟩
      by_cases e : j = k
      · subst e; exact h
      · exact h2 j (by omega) (by omega)
theorem works_more {f : Fl} {x : Cl} {s : List Int} (h : worksB (moreF f x) s = true) : worksB f s = true := by
  have h1 := of_decide_eq_true h
  refine decide_eq_true ?_
  unfold clashI at *
  rw [clashFrom_neg] at *
  intro j h2 h3
  have := h1 j h2 (by simp [moreF]; omega)
  rw [show ((moreF f x).cl[j]?.getD default) = f.cl[j]?.getD default by simp [moreF, List.getElem?_append_left (show j < f.cl.length by omega)]] at this
  exact this
theorem count_more {f : Fl} {x : Cl} (_h1 : chkE f = 0) (_h2 : chkE (moreF f x) = 0) : (allV (moreF f x)).length ≤ (allV f).length :=
  nodup_len _ _ (allV_asc _).nodup (fun t ht => allV_has (StOk.of (f := moreF f x) (f' := f) rfl (allV_ok ht).1) (works_more (allV_ok ht).2))
theorem statesE_more {f : Fl} {x : Cl} {L : List (List Int)} (h1 : chkE f = 0) (h2 : chkE (moreF f x) = 0) : statesE (moreF f x) L = statesE f L := by
  unfold statesE
  rw [chkE_zero h1, chkE_zero h2]
  rfl
theorem reachE_clash {f : Fl} {x : Cl} {xs : List Int} {bu : Int} (h1 : chkE f = 0) (h2 : chkE (moreF f x) = 0) (hw : worksB (moreF f x) xs = true) : reachE (moreF f x) xs bu = reachE f xs bu := by
  unfold reachE plannedE beginE
  rw [statesE_more h1 h2, hw, works_more hw]
theorem reach_clash {f : Fl} {x : Cl} {xs : List Int} {bu : Int} (h : reachE (moreF f x) xs bu = reachE f xs bu) : (reachR (moreF f x) xs bu).Sublist (reachR f xs bu) := by
  by_cases hz : reachE f xs bu = 0
  · obtain ⟨hok, hs, _, _, _, hR⟩ := reachE_ok hz
    obtain ⟨hok2, hs2, _, _, _, hR2⟩ := reachE_ok (h.trans hz)
    rw [hR, hR2]
    exact reach_sub hok2 hok hs2 rfl (fun _ h => works_more h) (Int.le_refl _)
  · have : reachR (moreF f x) xs bu = [] := if_neg (by show ¬ reachE (moreF f x) xs bu = 0; rw [h]; exact hz)
    rw [this]; exact List.nil_sublist _
end
section
open Go.RowKit

def cl4 (c : Cl) : List Value := [.int .i64 c.a, .int .i64 c.va, .int .i64 c.b, .int .i64 c.vb]
def flatC (C : List Cl) : List Value := C.flatMap cl4
theorem flatC_len (C : List Cl) : (flatC C).length = C.length * 4 := by
  induction C with
  | nil => rfl
  | cons c C ih => simp only [flatC, List.flatMap_cons, List.length_append, List.length_cons] at ih ⊢; rw [ih]; simp [cl4]; omega
theorem flatC_at : ∀ (C : List Cl) (i r : Nat), i < C.length → r < 4 → (flatC C)[i * 4 + r]? = (cl4 (C[i]?.getD default))[r]? := by
  intro C
  induction C with
  | nil => intro i r h; simp at h
  | cons c C ih =>
    intro i r hi hr
    cases i with
    | zero => simp only [flatC, List.flatMap_cons, Nat.zero_mul, Nat.zero_add]; rw [List.getElem?_append_left (by simpa [cl4] using hr)]; simp
    | succ i =>
      simp only [flatC, List.flatMap_cons]
      rw [List.getElem?_append_right (by simp [cl4]; omega)]
      have := ih i r (by simpa using hi) hr
      simp only [flatC] at this
      rw [show (i + 1) * 4 + r - (cl4 c).length = i * 4 + r by simp [cl4]; omega, this]
      simp
theorem addr_more (ad : Addr) (i r : Nat) (hr : 0 < r) : ad.add (i * 4 + r) = ⟨(ad.add (i * 4)).block, (ad.add (i * 4)).off + r, none⟩ := by
  unfold Addr.add
  rw [if_neg (by omega)]
  split
  · rename_i h; rw [h]; simp
  · simp; omega
theorem ClAt.cells {w : World} {ad : Addr} {n : Nat} {C : List Cl} (h : ClAt w (some ad) n C) : ∀ j u, (flatC C)[j]? = some u → w.cell? (ad.add j) = some u := by
  intro j u hj
  have hl := flatC_len C
  have hjl := (List.getElem?_eq_some_iff.1 hj).1
  have hn := h.len
  obtain ⟨i, r, rfl, hr⟩ : ∃ i r, j = i * 4 + r ∧ r < 4 := ⟨j / 4, j % 4, by omega, by omega⟩
  have hi : i < C.length := by omega
  have h1 := flatC_at C i r hi hr
  rw [hj] at h1
  obtain ⟨ad', e, _, c0, c1, c2, c3⟩ := h.at (j := i) (by omega)
  injection e with e
  subst e
  have hm : r = 0 ∨ r = 1 ∨ r = 2 ∨ r = 3 := by omega
  rcases hm with rfl | rfl | rfl | rfl
  · simp [cl4] at h1; subst h1; exact c0
  · simp [cl4] at h1; subst h1
    rw [addr_more _ _ _ (by omega)]; exact c1
  · simp [cl4] at h1; subst h1
    rw [addr_more _ _ _ (by omega)]; exact c2
  · simp [cl4] at h1; subst h1
    rw [addr_more _ _ _ (by omega)]; exact c3
theorem flatC_one (C : List Cl) : ∀ u ∈ flatC C, u.oneCell' = true := by
  intro u hu
  simp only [flatC, List.mem_flatMap] at hu
  obtain ⟨c, _, h⟩ := hu
  simp [cl4] at h
  rcases h with rfl | rfl | rfl | rfl <;> rfl
theorem Try.info70 : (Try.prog.info? 70).map (fun i => (i.zero, i.size, i.bytes)) = some (some (.agg #[.int .i64 0, .int .i64 0, .int .i64 0, .int .i64 0]), 4, 32) := by kernel_rfl
/-- the slice v, of the call's own, holds these clashes -/
def OwnC (w : World) (B : Nat) (v : Value) (C : List Cl) : Prop := w.ownsRow B 70 4 v C.length (flatC C)
section
variable {w w' : World} {B : Nat} {v : Value} {C : List Cl}
theorem OwnC.gr (h : OwnC w B v C) (g : Gr w w') : OwnC w' B v C := ownsRow_only h (g.only (fun _ => False)) (noc_none w)
theorem OwnC.own (h : OwnC w B v C) {b : Nat} (hb : v.ownBlock = some b) : B ≤ b ∧ ∃ cur, w.heap[b]? = some (.cells cur 70) := by
  rcases h.2 with ⟨rfl, _⟩ | ⟨g, cap, cur, rfl, h2, h3, _⟩
  · simp [Value.ownBlock] at hb
  · simp [Value.ownBlock] at hb; subst hb; exact ⟨h2, cur, h3⟩
theorem OwnC.cl (h : OwnC w B v C) (h0 : 0 < C.length) (hl : C.length < 1152921504606846976) : ∃ g c, v = .slice (some ⟨g, 0, none⟩) C.length c ∧ ClAt w (some ⟨g, 0, none⟩) C.length C := by
  rcases h.2 with ⟨_, h0'⟩ | ⟨g, cap, cur, rfl, h2, h3, _⟩
  · omega
  · refine ⟨g, cap, rfl, rfl, hl, fun j hj => ?_⟩
    have hh : ∀ j u, (flatC C)[j]? = some u → w.cell? ((⟨g, 0, none⟩ : Addr).add j) = some u := fun j u hj => World.ownsRow.cells h (g := g) rfl j u hj
    have ha : ∀ r, r < 4 → 0 < r → (⟨((⟨g, 0, none⟩ : Addr).add (j * 4)).block, ((⟨g, 0, none⟩ : Addr).add (j * 4)).off + r, none⟩ : Addr) = (⟨g, 0, none⟩ : Addr).add (j * 4 + r) := fun r _ h => (addr_more _ _ _ h).symm
    refine ⟨⟨g, 0, none⟩, rfl, (Array.getElem?_eq_some_iff.1 h3).1, ?_, ?_, ?_, ?_⟩
    · have := flatC_at C j 0 hj (by omega)
      rw [Nat.add_zero] at this
      exact hh _ _ (this.trans rfl)
    · rw [ha 1 (by omega) (by omega)]; exact hh _ _ ((flatC_at C j 1 hj (by omega)).trans rfl)
    · rw [ha 2 (by omega) (by omega)]; exact hh _ _ ((flatC_at C j 2 hj (by omega)).trans rfl)
    · rw [ha 3 (by omega) (by omega)]; exact hh _ _ ((flatC_at C j 3 hj (by omega)).trans rfl)
end
theorem wp_copyC {o : Oper} {a : Act} {W : World} {K : Act → World → Prop} {Q : Exit → Act → World → Prop} {s x : Operand} {sa : Option Addr} {n c : Nat} {C : List Cl} {B : Nat}
    (ho : o.op = .call { callee := .builtin .append, args := #[s, x], argTypes := #[23, 23] }) (hs : a.eval s = .slice none 0 0) (hx : a.eval x = .slice sa n c) (hy : ClAt W sa n C) (hn : n * 32 ≤ 140737488355328) (hB : B ≤ W.heap.size)
    (h : ∀ v w', OwnC w' B v C → Gr W w' → K (a.put o.dst v) w') : o.wp Try.prog a W K Q := by
  obtain ⟨i0, hi, hz0, hz1, hz2⟩ := info_parts Try.info70
  by_cases h0 : n = 0
  · subst h0
    have hy0 : C = [] := List.eq_nil_of_length_eq_zero hy.len
    subst hy0
    have hsrc : Src Try.prog 4 23 (.slice sa 0 c) 0 [] W := by
      refine ⟨.inl ⟨70, Try.underlying23⟩, fun w' => ?_, ?_, ?_, rfl, fun u hu => by simp at hu⟩
      · simp [Builtin.lenOf]
      · cases sa <;> simp [Builtin.firstCells, loadCells, loadCellsFrom]
      · cases sa <;> simp [Builtin.firstCells, loadCells, loadCellsFrom]
    rw [← hz1] at hsrc
    have hrun := run_append_nothing (P := Try.prog) W 23 23 o.type 70 i0 Try.underlying23 hi none 0 0 (Nat.le_refl _) _ hsrc
    unfold Oper.wp execOp
    simp only [ho, resolve, invoke, builtin, Sem.run_bind, Sem.run_pure, Result.andThen_ok, List.map_toArray, List.map_cons, List.map_nil, hs, hx, hrun]
    exact h _ _ (World.ownsRow_nil _ _ 70 4) (Gr.refl _)
  · obtain ⟨ad, rfl, hab, _⟩ := hy.at (j := 0) (by omega)
    refine wp_append_own W s x 23 ho B 70 i0 _ 4 32 Try.underlying23 hi hz0 hz1 hz2 rfl (by decide) _ 0 [] hs (World.ownsRow_nil W _ 70 4) ad n c (flatC C) hx (by rw [flatC_len, hy.len]) hy.cells (flatC_one C) (by unfold maxLen; omega) (by omega) hB (fun v' w' hown' hgrow _ => ?_)
    refine h v' w' ?_ ((only_grown hgrow).gr (fun i hi e => by simp [Value.ownBlock] at e))
    unfold OwnC
    rw [hy.len]; simpa using hown'
theorem wp_pushCl {o : Oper} {a : Act} {W : World} {K : Act → World → Prop} {Q : Exit → Act → World → Prop} {s x : Operand} {v : Value} {y : Cl} {g : Nat} {C : List Cl} {B : Nat}
    (ho : o.op = .call { callee := .builtin .append, args := #[s, x], argTypes := #[23, 23] }) (hs : a.eval s = v) (hx : a.eval x = .slice (some ⟨g, 0, none⟩) 1 1) (hg : W.heap[g]? = some (.cells (cl4 y).toArray 70)) (hO : OwnC W B v C) (hn : (C.length + 1) * 32 ≤ 140737488355328) (hB : B ≤ W.heap.size)
    (h : ∀ v' w', OwnC w' B v' (C ++ [y]) → Only (fun b => v.ownBlock = some b) W w' → K (a.put o.dst v') w') : o.wp Try.prog a W K Q := by
  obtain ⟨i0, hi, hz0, hz1, hz2⟩ := info_parts Try.info70
  refine wp_append_own W s x 23 ho B 70 i0 _ 4 32 Try.underlying23 hi hz0 hz1 hz2 rfl (by decide) v C.length (flatC C) hs hO ⟨g, 0, none⟩ 1 1 (cl4 y) hx rfl (fun j u hj => ?_) (fun u hu => flatC_one [y] u (by simpa [flatC] using hu)) (by unfold maxLen; omega) hn hB (fun v' w' hown' hgrow _ => h v' w' ?_ (only_grown hgrow))
  · have e : (⟨g, 0, none⟩ : Addr).add j = ⟨g, j, none⟩ := by cases j <;> simp [Addr.add]
    rw [e]
    exact cell_at hg (by simpa using hj)
  · unfold OwnC
    simpa [flatC] using hown'
theorem Try.bs23 (a b c d : Value) (W : World) : (Instr.buildSlice 23 1 #[(0, .agg #[a, b, c, d])]).run Try.prog W = .ok (.slice (some ⟨W.heap.size, 0, none⟩) 1 1) (W.alloc (.cells #[a, b, c, d] 70)) := by kernel_rfl
theorem Try.new25 (W : World) : (Instr.alloc 25 true (.tuple #[])).run Try.prog W = .ok (.pointer (some ⟨W.heap.size, 0, none⟩)) (W.alloc (.cells #[.slice none 0 0, .slice none 0 0] 25)) := by kernel_rfl
theorem Try.bd25 (a b : Option Addr) (n m c d : Nat) (W : World) : (Instr.build 25 #[(0, .slice a n c), (1, .slice b m d)]).run Try.prog W = .ok (.agg #[.slice a n c, .slice b m d]) W := by kernel_rfl
/-- what is held while the fleet is made -/
structure RMo (w : World) (f : Fl) (y : Cl) (sv : Value) (done : Nat → Bool) (u : Nat → Value) (W : World) : Prop where
  a : done 10 = false → Gr w W
  b4 : done 4 = true → done 7 = false → OwnC W w.heap.size (u 4) f.cl
  b6 : done 6 = true → done 7 = false → ∃ g, u 6 = .slice (some ⟨g, 0, none⟩) 1 1 ∧ W.heap[g]? = some (.cells (cl4 y).toArray 70)
  b7 : done 7 = true → done 10 = false → OwnC W w.heap.size (u 7) (f.cl ++ [y])
  b8 : done 8 = true → u 8 = .agg #[sv, u 7]
  b9 : done 9 = true → done 10 = false → ∃ b, u 9 = .pointer (some ⟨b, 0, none⟩) ∧ w.heap.size ≤ b ∧ W.heap[b]? = some (.cells #[.slice none 0 0, .slice none 0 0] 25)
  fin : done 10 = true → ∃ b g c, u 9 = .pointer (some ⟨b, 0, none⟩) ∧ Gr w W ∧ ClAt W (some ⟨g, 0, none⟩) (f.cl.length + 1) (f.cl ++ [y]) ∧ W.cell? ⟨b, 0, none⟩ = some sv ∧ W.cell? ⟨b, 1, none⟩ = some (.slice (some ⟨g, 0, none⟩) (f.cl.length + 1) c)
section
variable {w : World} {f : Fl} {y : Cl} {sv : Value} {done : Nat → Bool} {u : Nat → Value} {W W' : World}
theorem RMo.start {W : World} (g : Gr w W) : RMo w f y sv (fun _ => false) u W := ⟨fun _ => g, (fun h => by cases h), (fun h => by cases h), (fun h => by cases h), (fun h => by cases h), (fun h => by cases h), (fun h => by cases h)⟩
theorem RMo.quiet (h : RMo w f y sv done u W) {i : Nat} {v : Value} (hi : i ≠ 4 ∧ i ≠ 6 ∧ i ≠ 7 ∧ i ≠ 8 ∧ i ≠ 9 ∧ i ≠ 10) : RMo w f y sv (upd done i) (fun j => if j = i then v else u j) W := by
  obtain ⟨h4, h6, h7, h8, h9, h10⟩ := hi
  refine ⟨?_, ?_, ?_, ?_, ?_, ?_, ?_⟩ <;> simp only [upd_ne (Ne.symm h4), upd_ne (Ne.symm h6), upd_ne (Ne.symm h7), upd_ne (Ne.symm h8), upd_ne (Ne.symm h9), upd_ne (Ne.symm h10), if_neg (Ne.symm h4), if_neg (Ne.symm h6), if_neg (Ne.symm h7), if_neg (Ne.symm h8), if_neg (Ne.symm h9)]
  · exact h.a
  · exact h.b4
  · exact h.b6
  · exact h.b7
  · exact h.b8
  · exact h.b9
  · exact h.fin
theorem RMo.s4 (h : RMo w f y sv done u W) {v : Value} (d7 : done 7 = false) (d8 : done 8 = false) (d10 : done 10 = false) (g : Gr W W') (hO : OwnC W' w.heap.size v f.cl) : RMo w f y sv (upd done 4) (fun j => if j = 4 then v else u j) W' := by
  have e6 : upd done 4 6 = done 6 := upd_ne (by decide)
  have e7 : upd done 4 7 = false := (upd_ne (by decide)).trans d7
  have e8 : upd done 4 8 = false := (upd_ne (by decide)).trans d8
  have e9 : upd done 4 9 = done 9 := upd_ne (by decide)
  have e10 : upd done 4 10 = false := (upd_ne (by decide)).trans d10
  refine ⟨fun _ => (h.a d10).trans g, fun _ _ => by simpa using hO, fun k _ => ?_, (fun k => by rw [e7] at k; cases k), (fun k => by rw [e8] at k; cases k), fun k _ => ?_, (fun k => by rw [e10] at k; cases k)⟩
  · rw [e6] at k
    obtain ⟨b, h1, h2⟩ := h.b6 k d7
    exact ⟨b, by simpa using h1, (g.below.block _ (Array.getElem?_eq_some_iff.1 h2).1).trans h2⟩
  · rw [e9] at k
    obtain ⟨b, h1, h2, h3⟩ := h.b9 k d10
    exact ⟨b, by simpa using h1, h2, (g.below.block _ (Array.getElem?_eq_some_iff.1 h3).1).trans h3⟩
theorem RMo.s6 (h : RMo w f y sv done u W) {b : Nat} (d7 : done 7 = false) (d8 : done 8 = false) (d10 : done 10 = false) (g : Gr W W') (hb : W'.heap[b]? = some (.cells (cl4 y).toArray 70)) : RMo w f y sv (upd done 6) (fun j => if j = 6 then .slice (some ⟨b, 0, none⟩) 1 1 else u j) W' := by
  have e4 : upd done 6 4 = done 4 := upd_ne (by decide)
  have e7 : upd done 6 7 = false := (upd_ne (by decide)).trans d7
  have e8 : upd done 6 8 = false := (upd_ne (by decide)).trans d8
  have e9 : upd done 6 9 = done 9 := upd_ne (by decide)
  have e10 : upd done 6 10 = false := (upd_ne (by decide)).trans d10
  refine ⟨fun _ => (h.a d10).trans g, fun k _ => ?_, fun _ _ => ⟨b, by simp, hb⟩, (fun k => by rw [e7] at k; cases k), (fun k => by rw [e8] at k; cases k), fun k _ => ?_, (fun k => by rw [e10] at k; cases k)⟩
  · rw [e4] at k
    simpa using (h.b4 k d7).gr g
  · rw [e9] at k
    obtain ⟨b, h1, h2, h3⟩ := h.b9 k d10
    exact ⟨b, by simpa using h1, h2, (g.below.block _ (Array.getElem?_eq_some_iff.1 h3).1).trans h3⟩
theorem RMo.s7 (h : RMo w f y sv done u W) {v : Value} (d4 : done 4 = true) (d7 : done 7 = false) (d8 : done 8 = false) (d10 : done 10 = false) (g : Only (fun b => (u 4).ownBlock = some b) W W') (hO : OwnC W' w.heap.size v (f.cl ++ [y])) : RMo w f y sv (upd done 7) (fun j => if j = 7 then v else u j) W' := by
  have h4 := h.b4 d4 d7
  have e8 : upd done 7 8 = false := (upd_ne (by decide)).trans d8
  have e9 : upd done 7 9 = done 9 := upd_ne (by decide)
  have e10 : upd done 7 10 = false := (upd_ne (by decide)).trans d10
  refine ⟨fun _ => (((h.a d10).only (fun b => w.heap.size ≤ b)).trans (g.mono' (fun i e => (h4.own e).1))).gr (fun i hi e => by omega), (fun _ k => by rw [upd_self] at k; cases k), (fun _ k => by rw [upd_self] at k; cases k), fun _ _ => by simpa using hO, (fun k => by rw [e8] at k; cases k), fun k _ => ?_, (fun k => by rw [e10] at k; cases k)⟩
  rw [e9] at k
  obtain ⟨b, h1, h2, h3⟩ := h.b9 k d10
  refine ⟨b, by simpa using h1, h2, (g.block _ (Array.getElem?_eq_some_iff.1 h3).1 (fun e => ?_)).trans h3⟩
  obtain ⟨_, cur, h5⟩ := h4.own e
  rw [h3] at h5
  injection h5 with h5
  injection h5 with _ h6
  cases h6
theorem RMo.s8 (h : RMo w f y sv done u W) {v : Value} (hv : v = .agg #[sv, u 7]) : RMo w f y sv (upd done 8) (fun j => if j = 8 then v else u j) W := by
  refine ⟨?_, ?_, ?_, ?_, fun _ => by simpa using hv, ?_, ?_⟩ <;> simp only [upd_ne (show (4 : Nat) ≠ 8 by decide), upd_ne (show (6 : Nat) ≠ 8 by decide), upd_ne (show (7 : Nat) ≠ 8 by decide), upd_ne (show (9 : Nat) ≠ 8 by decide), upd_ne (show (10 : Nat) ≠ 8 by decide), if_neg (show ¬ (4 : Nat) = 8 by decide), if_neg (show ¬ (6 : Nat) = 8 by decide), if_neg (show ¬ (7 : Nat) = 8 by decide), if_neg (show ¬ (9 : Nat) = 8 by decide)]
  · exact h.a
  · exact h.b4
  · exact h.b6
  · exact h.b7
  · exact h.b9
  · exact h.fin
theorem RMo.s9 (h : RMo w f y sv done u W) {b : Nat} (d10 : done 10 = false) (g : Gr W W') (hbw : w.heap.size ≤ b) (hb : W'.heap[b]? = some (.cells #[.slice none 0 0, .slice none 0 0] 25)) : RMo w f y sv (upd done 9) (fun j => if j = 9 then .pointer (some ⟨b, 0, none⟩) else u j) W' := by
  have e4 : upd done 9 4 = done 4 := upd_ne (by decide)
  have e6 : upd done 9 6 = done 6 := upd_ne (by decide)
  have e7 : upd done 9 7 = done 7 := upd_ne (by decide)
  have e8 : upd done 9 8 = done 8 := upd_ne (by decide)
  have e10 : upd done 9 10 = false := (upd_ne (by decide)).trans d10
  refine ⟨fun _ => (h.a d10).trans g, fun k l => ?_, fun k l => ?_, fun k _ => ?_, fun k => ?_, fun _ _ => ⟨b, by simp, hbw, hb⟩, (fun k => by rw [e10] at k; cases k)⟩
  · rw [e4] at k; rw [e7] at l
    simpa using (h.b4 k l).gr g
  · rw [e6] at k; rw [e7] at l
    obtain ⟨b, h1, h2⟩ := h.b6 k l
    exact ⟨b, by simpa using h1, (g.below.block _ (Array.getElem?_eq_some_iff.1 h2).1).trans h2⟩
  · rw [e7] at k
    simpa using (h.b7 k d10).gr g
  · rw [e8] at k
    simpa using h.b8 k
/-- the store -/
theorem RMo.st (h : RMo w f y sv done u W) {sa : Option Addr} {sn sc : Nat} (hsv : sv = .slice sa sn sc) (hl : f.cl.length + 1 < 1152921504606846976) (d7 : done 7 = true) (d8 : done 8 = true) (d9 : done 9 = true) (d10 : done 10 = false) :
    ∃ W', (Instr.storeAt 25 (u 9) (u 8)).run Try.prog W = .ok () W' ∧ RMo w f y sv (upd done 10) (fun j => if j = 10 then undef else u j) W' := by
  subst hsv
  obtain ⟨b, e9, hbw, hb⟩ := h.b9 d9 d10
  have h7 := h.b7 d7 d10
  obtain ⟨g, c, e7, hcl⟩ := h7.cl (by simp) (by simpa using hl)
  simp only [List.length_append, List.length_cons, List.length_nil, Nat.zero_add] at e7 hcl
  have e8 := h.b8 d8
  rw [e7] at e8
  have hne : ¬ b = g := fun e => by
    obtain ⟨_, cur, h5⟩ := h7.own (b := g) (by rw [e7]; rfl)
    rw [← e, hb] at h5
    injection h5 with h5
    injection h5 with _ h6
    cases h6
  have h0 : Y.Own W b 2 (fun _ => .slice none 0 0) := Y.Own.new hb rfl (fun k hk => by
    have : k = 0 ∨ k = 1 := by omega
    rcases this with rfl | rfl <;> rfl)
  have a0 := h0.set (k := 0) (.slice sa sn sc)
  have a1 := a0.set (k := 1) (.slice (some ⟨g, 0, none⟩) (f.cl.length + 1) c)
  have c0 := h0.cell (k := 0) (by omega)
  have f0 := h0.fz 0
  have c1 := a0.cell (k := 1) (by omega)
  have f1 := a0.fz 1
  have x0 : (⟨b, 0, none⟩ : Addr).add 0 = ⟨b, 0, none⟩ := rfl
  have x1 : (⟨b, 0, none⟩ : Addr).add 1 = ⟨b, 1, none⟩ := rfl
  have hon : Only (fun x => x = b) W _ := (Y.set_only W b 0 (.slice sa sn sc)).trans (Y.set_only _ b 1 (.slice (some ⟨g, 0, none⟩) (f.cl.length + 1) c))
  have G : Gr w _ := Y.Only.up (h.a d10) hon hbw
  have hcl2 : ClAt ((W.setCell ⟨b, 0, none⟩ (.slice sa sn sc)).setCell ⟨b, 1, none⟩ (.slice (some ⟨g, 0, none⟩) (f.cl.length + 1) c)) (some ⟨g, 0, none⟩) (f.cl.length + 1) (f.cl ++ [y]) := by
    refine ⟨hcl.len, hcl.lt, fun j hj => ?_⟩
    obtain ⟨ad, e, k1, k2, k3, k4, k5⟩ := hcl.at hj
    injection e with e
    subst e
    have hbl : ∀ i, ((⟨g, 0, none⟩ : Addr).add i).block = g := fun i => by unfold Addr.add; split <;> rfl
    have hnb : ¬ ((⟨g, 0, none⟩ : Addr).add (j * 4)).block = b := by rw [hbl]; exact fun e => hne e.symm
    exact ⟨_, rfl, Nat.lt_of_lt_of_le k1 hon.size, hon.cell k2 hnb, hon.cell k3 hnb, hon.cell k4 hnb, hon.cell k5 hnb⟩
  refine ⟨_, ?_, ⟨(fun k => by rw [upd_self] at k; cases k), (fun _ k => by rw [upd_ne (by decide), d7] at k; cases k), (fun _ k => by rw [upd_ne (by decide), d7] at k; cases k), (fun _ k => by rw [upd_self] at k; cases k), fun _ => ?_, (fun _ k => by rw [upd_self] at k; cases k), fun _ => ⟨b, g, c, by simpa using e9, G, hcl2, ?_, ?_⟩⟩⟩
  · rw [e9, e8]
    have hS : (sizeOf 25).run Try.prog W = .ok 2 W := Try.siz25 W
    simp [Instr.storeAt, storeVar, Instr.sureAddr, hS, storeCells, Value.cells, go_sem, x0, x1, c0, f0, c1, f1]
  · simpa using (h.b8 d8)
  · exact a1.cell (k := 0) (by omega)
  · exact a1.cell (k := 1) (by omega)
end
end
end Go.Proofs.Ytlilojpnhmfnaaa
