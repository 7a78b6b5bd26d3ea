/- Several texts of this claim in one file. (1) Contract: UpdateStricter returns true. (2) An argument that came in: a journey, read off its data. (3) The data under a fleet: how many clashes there can be; a clash. Nothing of the program is proved here. -/
import Derived.Test.YtlilojpnhmfnaaaBd12
import Derived.Test.YtlilojpnhmfnaaaBd6
import Derived.Test.YtlilojpnhmfnaaaBd11
import Derived.Test.YtlilojpnhmfnaaaBd1
namespace Go.Proofs.Ytlilojpnhmfnaaa
section
open Go.RowKit

theorem wB_works {f : Fl} {s : List Int} (h : wB f s = true) : worksB f s = true := by
  unfold wB at h
  split at h
  · exact h
  · cases h
theorem wB_more {f : Fl} {x : Cl} {s : List Int} (h1 : chkE f = 0) (h2 : chkE (moreF f x) = 0) (h : wB (moreF f x) s = true) : wB f s = true := by
  have hw := works_more (wB_works h)
  unfold wB at *
  rw [statesE_more h1 h2] at h
  split at h
  · rename_i hz; rw [if_pos hz]; exact hw
  · cases h

set_option maxRecDepth 100000 in
set_option maxHeartbeats 4000000 in
theorem stricter_any (ta ca ja jb jc : Option Addr) (tn tc cn cc n c j3 j4 j5 j6 : Nat) (f : Fl) (y : Cl) (fs : List Int) (bu dn : Int) (w : World) (hf : FlAt w ta tn ca cn f) (hx : Ints w ja n fs) (hcn : cn * 32 ≤ 140737488351232) :
    Calls Try.prog 14 #[.agg #[.slice ta tn tc, .slice ca cn cc], .agg #[.int .i64 y.a, .int .i64 y.va, .int .i64 y.b, .int .i64 y.vb], .agg #[.slice ja n c, .slice jb j3 j4, .int .i64 bu, .int .i64 dn, .slice jc j5 j6]] w fun e w' => e = .returned (.bool true) ∧ Gr w w' := by
  have G := Gr.refl w
  refine Y.calls 147 Try.func14 rfl rfl ?_
  intro ac F0
  have F : Fr ac 147 [(0, .agg #[.slice ta tn tc, .slice ca cn cc]), (1, .agg #[.int .i64 y.a, .int .i64 y.va, .int .i64 y.b, .int .i64 y.vb]), (2, .agg #[.slice ja n c, .slice jb j3 j4, .int .i64 bu, .int .i64 dn, .slice jc j5 j6])] := F0.sub _ (by kernel_rfl)
  clear F0
  refine Y.seq ?_
  refine Y.lit (by kernel_rfl) ?_
  refine Y.pval F (X.w0 rfl) rfl (X.box rfl (F.ev 0 (.agg #[.slice ta tn tc, .slice ca cn cc]) (by kernel_rfl)) X.bx) ?_
  clear F ac
  intro ac F
  have g := Gr.alloc w (.cells #[.slice ta tn tc, .slice ca cn cc] 25)
  have hb := heap_alloc_new w (.cells #[.slice ta tn tc, .slice ca cn cc] 25)
  have hbl : w.heap.size < (w.alloc (.cells #[.slice ta tn tc, .slice ca cn cc] 25)).heap.size := by simp
  have hC2 : RCells (w.alloc (.cells #[.slice ta tn tc, .slice ca cn cc] 25)) [(⟨w.heap.size, 0, none⟩, .slice ta tn tc), (⟨w.heap.size, 1, none⟩, .slice ca cn cc)] := (RCells.nil w).box (b := w.heap.size) #[.slice ta tn tc, .slice ca cn cc] 25 rfl
  generalize w.alloc (.cells #[.slice ta tn tc, .slice ca cn cc] 25) = w3 at *
  replace G := G.trans g
  have hC := hC2
  clear hC2
  replace hf := hf.gr g
  replace hx := hx.gr g
  clear g hb hbl
  refine Y.pval F (X.w0 rfl) rfl (X.box rfl (F.ev 1 (.agg #[.int .i64 y.a, .int .i64 y.va, .int .i64 y.b, .int .i64 y.vb]) (by kernel_rfl)) X.bx) ?_
  clear F ac
  intro ac F
  have g := Gr.alloc w3 (.cells #[.int .i64 y.a, .int .i64 y.va, .int .i64 y.b, .int .i64 y.vb] 70)
  have hb := heap_alloc_new w3 (.cells #[.int .i64 y.a, .int .i64 y.va, .int .i64 y.b, .int .i64 y.vb] 70)
  have hbl : w3.heap.size < (w3.alloc (.cells #[.int .i64 y.a, .int .i64 y.va, .int .i64 y.b, .int .i64 y.vb] 70)).heap.size := by simp
  have hC2 : RCells (w3.alloc (.cells #[.int .i64 y.a, .int .i64 y.va, .int .i64 y.b, .int .i64 y.vb] 70)) [(⟨w.heap.size, 0, none⟩, .slice ta tn tc), (⟨w.heap.size, 1, none⟩, .slice ca cn cc), (⟨w3.heap.size, 0, none⟩, .int .i64 y.a), (⟨w3.heap.size, 1, none⟩, .int .i64 y.va), (⟨w3.heap.size, 2, none⟩, .int .i64 y.b), (⟨w3.heap.size, 3, none⟩, .int .i64 y.vb)] := hC.box (b := w3.heap.size) #[.int .i64 y.a, .int .i64 y.va, .int .i64 y.b, .int .i64 y.vb] 70 rfl
  generalize w3.alloc (.cells #[.int .i64 y.a, .int .i64 y.va, .int .i64 y.b, .int .i64 y.vb] 70) = w4 at *
  replace G := G.trans g
  replace hC := hC2
  clear hC2
  replace hf := hf.gr g
  replace hx := hx.gr g
  clear g hb hbl
  refine Y.pval F (X.w0 rfl) rfl (X.box rfl (F.ev 2 (.agg #[.slice ja n c, .slice jb j3 j4, .int .i64 bu, .int .i64 dn, .slice jc j5 j6]) (by kernel_rfl)) X.bx) ?_
  clear F ac
  intro ac F
  have g := Gr.alloc w4 (.cells #[.slice ja n c, .slice jb j3 j4, .int .i64 bu, .int .i64 dn, .slice jc j5 j6] 41)
  have hb := heap_alloc_new w4 (.cells #[.slice ja n c, .slice jb j3 j4, .int .i64 bu, .int .i64 dn, .slice jc j5 j6] 41)
  have hbl : w4.heap.size < (w4.alloc (.cells #[.slice ja n c, .slice jb j3 j4, .int .i64 bu, .int .i64 dn, .slice jc j5 j6] 41)).heap.size := by simp
  have hC2 : RCells (w4.alloc (.cells #[.slice ja n c, .slice jb j3 j4, .int .i64 bu, .int .i64 dn, .slice jc j5 j6] 41)) [(⟨w.heap.size, 0, none⟩, .slice ta tn tc), (⟨w.heap.size, 1, none⟩, .slice ca cn cc), (⟨w3.heap.size, 0, none⟩, .int .i64 y.a), (⟨w3.heap.size, 1, none⟩, .int .i64 y.va), (⟨w3.heap.size, 2, none⟩, .int .i64 y.b), (⟨w3.heap.size, 3, none⟩, .int .i64 y.vb), (⟨w4.heap.size, 0, none⟩, .slice ja n c), (⟨w4.heap.size, 1, none⟩, .slice jb j3 j4), (⟨w4.heap.size, 2, none⟩, .int .i64 bu), (⟨w4.heap.size, 3, none⟩, .int .i64 dn), (⟨w4.heap.size, 4, none⟩, .slice jc j5 j6)] := hC.box (b := w4.heap.size) #[.slice ja n c, .slice jb j3 j4, .int .i64 bu, .int .i64 dn, .slice jc j5 j6] 41 rfl
  generalize w4.alloc (.cells #[.slice ja n c, .slice jb j3 j4, .int .i64 bu, .int .i64 dn, .slice jc j5 j6] 41) = w5 at *
  replace G := G.trans g
  replace hC := hC2
  clear hC2
  replace hf := hf.gr g
  replace hx := hx.gr g
  clear g hb hbl
  refine Y.pval F (X.w0 rfl) rfl (X.assign rfl (X.kc (.bool false) rfl)) ?_
  clear F ac
  intro ac F
  refine Y.nil ?_
  replace F : Fr ac 147 [(0, .agg #[.slice ta tn tc, .slice ca cn cc]), (1, .agg #[.int .i64 y.a, .int .i64 y.va, .int .i64 y.b, .int .i64 y.vb]), (2, .agg #[.slice ja n c, .slice jb j3 j4, .int .i64 bu, .int .i64 dn, .slice jc j5 j6]), (3, .pointer (some ⟨w.heap.size, 0, none⟩)), (4, .pointer (some ⟨w3.heap.size, 0, none⟩)), (5, .pointer (some ⟨w4.heap.size, 0, none⟩)), (6, .bool false)] := F.sub _ (by kernel_rfl)
  refine X.thenN ?_
  refine Y.seq ?_
  have hcl := hf.c.len
  refine region_xi (ro := none) F [some (.pointer (some ⟨w.heap.size, 0, none⟩)), some (.slice ta tn tc), some (.pointer (some ⟨w.heap.size, 1, none⟩)), some (.slice ca cn cc), none, some (.agg #[.int .i64 y.a, .int .i64 y.va, .int .i64 y.b, .int .i64 y.vb]), none, none, none, none, none] (RMo w5 f y (.slice ta tn tc)) (by kernel_rfl) ⟨by kernel_rfl, of_decide_eq_true (by kernel_rfl), by kernel_rfl, by kernel_rfl, by kernel_rfl⟩ (fun _ => ⟨RMo.start (Gr.refl _), RMo.start (Gr.drew _)⟩) ⟨?_, ?_, ?_, ?_, ?_, ?_, ?_, ?_, ?_, ?_, ?_, trivial⟩ ?_
  · intro ac done u W Sx hR
    have d10 : done 10 = false := Sx.no 10 (by kernel_rfl)
    have g : Gr w5 W := hR.a d10
    exact X.val (X.w0 rfl) rfl (X.field rfl (Sx.ev 3 (.pointer (some ⟨w.heap.size, 0, none⟩)) (by kernel_rfl)) (X.fld Try.underlying25 rfl (Try.siz22 _) rfl rfl)) (hR.quiet (by decide))
  · intro ac done u W Sx hR
    have d10 : done 10 = false := Sx.no 10 (by kernel_rfl)
    have g : Gr w5 W := hR.a d10
    exact X.val (X.w0 rfl) rfl (X.load rfl (Sx.ev 20 (.pointer (some ⟨w.heap.size, 0, none⟩)) (by kernel_rfl)) (X.ld1 (Try.agg22 _) ((hC.gr g).at 0 rfl))) (hR.quiet (by decide))
  · intro ac done u W Sx hR
    have d10 : done 10 = false := Sx.no 10 (by kernel_rfl)
    have g : Gr w5 W := hR.a d10
    exact X.val (X.w0 rfl) rfl (X.field rfl (Sx.ev 3 (.pointer (some ⟨w.heap.size, 0, none⟩)) (by kernel_rfl)) (X.fld Try.underlying25 rfl (Try.siz23 _) rfl rfl)) (hR.quiet (by decide))
  · intro ac done u W Sx hR
    have d10 : done 10 = false := Sx.no 10 (by kernel_rfl)
    have g : Gr w5 W := hR.a d10
    exact X.val (X.w0 rfl) rfl (X.load rfl (Sx.ev 22 (.pointer (some ⟨w.heap.size, 1, none⟩)) (by kernel_rfl)) (X.ld1 (Try.agg23 _) ((hC.gr g).at 1 rfl))) (hR.quiet (by decide))
  · intro ac done u W Sx hR
    have d10 : done 10 = false := Sx.no 10 (by kernel_rfl)
    have g : Gr w5 W := hR.a d10
    exact X.law (X.w0 rfl) (fun K hK => wp_copyC rfl (X.kc (.slice none 0 0) rfl) (Sx.ev 23 (.slice ca cn cc) (by kernel_rfl)) (hf.gr g).c (by omega) g.size (fun v W2 hO g2 => hK v W2 (fun x hx => by cases hx) (hR.s4 (Sx.no 7 (by kernel_rfl)) (Sx.no 8 (by kernel_rfl)) d10 g2 hO)))
  · intro ac done u W Sx hR
    have d10 : done 10 = false := Sx.no 10 (by kernel_rfl)
    have g : Gr w5 W := hR.a d10
    exact X.val (X.w0 rfl) rfl (X.load rfl (Sx.ev 4 (.pointer (some ⟨w3.heap.size, 0, none⟩)) (by kernel_rfl)) (X.ldN (Try.agg70 _) (Try.siz70 _) (X.c4 ((hC.gr g).at 2 rfl) ((hC.gr g).at 3 rfl) ((hC.gr g).at 4 rfl) ((hC.gr g).at 5 rfl)))) (hR.quiet (by decide))
  · intro ac done u W Sx hR
    have d10 : done 10 = false := Sx.no 10 (by kernel_rfl)
    have g : Gr w5 W := hR.a d10
    exact X.valN (X.w0 rfl) rfl (X.bs rfl (X.b1 (Sx.ev 25 (.agg #[.int .i64 y.a, .int .i64 y.va, .int .i64 y.b, .int .i64 y.vb]) (by kernel_rfl))) (Try.bs23 _ _ _ _ _)) (hR.s6 (Sx.no 7 (by kernel_rfl)) (Sx.no 8 (by kernel_rfl)) d10 (Gr.alloc _ _) (World.alloc_heap_new _ _))
  · intro ac done u W Sx hR
    have d10 : done 10 = false := Sx.no 10 (by kernel_rfl)
    have g : Gr w5 W := hR.a d10
    obtain ⟨g6, e6, hg6⟩ := hR.b6 (Sx.an 6 (by kernel_rfl)) Sx.nd
    exact X.law (X.w0 rfl) (fun K hK => wp_pushCl rfl (Sx.own 4 24 rfl) ((Sx.own 6 26 rfl).trans e6) hg6 (hR.b4 (Sx.an 4 (by kernel_rfl)) Sx.nd) (by omega) g.size (fun v W2 hO hon => hK v W2 (fun x hx => by cases hx) (hR.s7 (Sx.an 4 (by kernel_rfl)) Sx.nd (Sx.no 8 (by kernel_rfl)) d10 hon hO)))
  · intro ac done u W Sx hR
    have d10 : done 10 = false := Sx.no 10 (by kernel_rfl)
    have g : Gr w5 W := hR.a d10
    obtain ⟨g7, c7, e7, _⟩ := (hR.b7 (Sx.an 7 (by kernel_rfl)) d10).cl (by simp) (by simp; omega)
    exact X.valN (X.w0 rfl) rfl (Y.bd rfl (X.b2 (Sx.ev 21 (.slice ta tn tc) (by kernel_rfl)) ((Sx.own 7 27 rfl).trans e7)) (Try.bd25 _ _ _ _ _ _ _)) (hR.s8 (by rw [e7]))
  · intro ac done u W Sx hR
    have d10 : done 10 = false := Sx.no 10 (by kernel_rfl)
    have g : Gr w5 W := hR.a d10
    exact X.valN (X.w0 rfl) rfl (Y.al rfl (Try.new25 _)) (hR.s9 d10 (Gr.alloc _ _) g.size (World.alloc_heap_new _ _))
  · intro ac done u W Sx hR
    obtain ⟨W2, hrun, hR2⟩ := hR.st rfl (by omega) (Sx.an 7 (by kernel_rfl)) (Sx.an 8 (by kernel_rfl)) (Sx.an 9 (by kernel_rfl)) Sx.nd
    exact X.unit (X.w0 rfl) rfl (X.store rfl (Sx.own 9 7 rfl) (Sx.own 8 28 rfl) hrun) hR2
  intro ac u w6 hs hd hl_ ho hR
  obtain ⟨mb, mg, mc, e9, g, hmcl, hm0, hm1⟩ := hR.fin rfl
  rw [hcl] at hmcl hm1
  replace F : Fr ac 147 [(0, .agg #[.slice ta tn tc, .slice ca cn cc]), (1, .agg #[.int .i64 y.a, .int .i64 y.va, .int .i64 y.b, .int .i64 y.vb]), (2, .agg #[.slice ja n c, .slice jb j3 j4, .int .i64 bu, .int .i64 dn, .slice jc j5 j6]), (3, .pointer (some ⟨w.heap.size, 0, none⟩)), (4, .pointer (some ⟨w3.heap.size, 0, none⟩)), (5, .pointer (some ⟨w4.heap.size, 0, none⟩)), (6, .bool false)] := X.fr hs hd hl_ _ (by kernel_rfl)
  replace F := F.add (ho 9 7 rfl) e9
  replace F : Fr ac 147 [(0, .agg #[.slice ta tn tc, .slice ca cn cc]), (1, .agg #[.int .i64 y.a, .int .i64 y.va, .int .i64 y.b, .int .i64 y.vb]), (2, .agg #[.slice ja n c, .slice jb j3 j4, .int .i64 bu, .int .i64 dn, .slice jc j5 j6]), (3, .pointer (some ⟨w.heap.size, 0, none⟩)), (4, .pointer (some ⟨w3.heap.size, 0, none⟩)), (5, .pointer (some ⟨w4.heap.size, 0, none⟩)), (6, .bool false), (7, .pointer (some ⟨mb, 0, none⟩))] := F.sub _ (by kernel_rfl)
  clear e9 hs hd hl_ ho hR
  replace G := G.trans g
  replace hC := hC.gr g
  replace hf := hf.gr g
  replace hx := hx.gr g
  clear g
  have hfm : FlAt w6 ta tn (some ⟨mg, 0, none⟩) (cn + 1) (moreF f y) := ⟨hf.t, hmcl⟩
  replace hC : RCells w6 [(⟨w.heap.size, 0, none⟩, .slice ta tn tc), (⟨w.heap.size, 1, none⟩, .slice ca cn cc), (⟨w3.heap.size, 0, none⟩, .int .i64 y.a), (⟨w3.heap.size, 1, none⟩, .int .i64 y.va), (⟨w3.heap.size, 2, none⟩, .int .i64 y.b), (⟨w3.heap.size, 3, none⟩, .int .i64 y.vb), (⟨w4.heap.size, 0, none⟩, .slice ja n c), (⟨w4.heap.size, 1, none⟩, .slice jb j3 j4), (⟨w4.heap.size, 2, none⟩, .int .i64 bu), (⟨w4.heap.size, 3, none⟩, .int .i64 dn), (⟨w4.heap.size, 4, none⟩, .slice jc j5 j6), (⟨mb, 0, none⟩, .slice ta tn tc), (⟨mb, 1, none⟩, .slice (some ⟨mg, 0, none⟩) (cn + 1) mc)] := hC.append ((RCells.cons hm0 (RCells.cons hm1 (RCells.nil _))))
  clear hm0 hm1 hmcl
  refine X.thenN ?_
  refine Y.seq ?_
  refine Y.seq ?_
  refine Y.lit (by kernel_rfl) ?_
  refine Y.pval F (X.w0 rfl) rfl (X.load rfl (F.ev 3 (.pointer (some ⟨w.heap.size, 0, none⟩)) (by kernel_rfl)) (X.ldN (Try.agg25 _) (Try.siz25 _) (X.c2 (hC.at 0 rfl) (hC.at 1 rfl)))) ?_
  clear F ac
  intro ac F
  refine Y.pcall F (X.w0 rfl) rfl (X.enter (F := 15) rfl (X.kc (.func (.func 15) #[] #[]) rfl) (X.a1 (F.ev 29 (.agg #[.slice ta tn tc, .slice ca cn cc]) (by kernel_rfl))) (enters_of Try.func15 (by kernel_rfl) rfl _)) (large_any ta ca tn tc cn cc f w6 hf) ?_
  clear F ac
  rintro e w8 ⟨rfl, g⟩
  refine ⟨_, rfl, ?_⟩
  intro ac F
  replace G := G.trans g
  replace hC := hC.gr g
  replace hf := hf.gr g
  replace hx := hx.gr g
  replace hfm := hfm.gr g
  clear g
  refine Y.pval F (X.w0 rfl) rfl (X.move rfl (F.ev 30 (.bool (largeB f.times)) (by kernel_rfl))) ?_
  clear F ac
  intro ac F
  cases h9 : largeB f.times with
  | false =>
    try rw [h9] at F
    refine Y.pval F (X.w1 rfl (F.yl (j := 2) (d := 31) (b := false) rfl (by kernel_rfl))) rfl (X.load rfl (F.ev 3 (.pointer (some ⟨w.heap.size, 0, none⟩)) (by kernel_rfl)) (X.ldN (Try.agg25 _) (Try.siz25 _) (X.c2 (hC.at 0 rfl) (hC.at 1 rfl)))) ?_
    clear F ac
    intro ac F
    refine Y.pcall F (X.w1 rfl (F.yl (j := 2) (d := 31) (b := false) rfl (by kernel_rfl))) rfl (X.enter (F := 37) rfl (X.kc (.func (.func 37) #[] #[]) rfl) (X.a1 (F.ev 32 (.agg #[.slice ta tn tc, .slice ca cn cc]) (by kernel_rfl))) (enters_of Try.func37 (by kernel_rfl) rfl _)) (check2_any ta ca tn tc cn cc f w8 hf) ?_
    clear F ac
    rintro e w11 ⟨rfl, g⟩
    refine ⟨_, rfl, ?_⟩
    intro ac F
    replace G := G.trans g
    replace hC := hC.gr g
    replace hf := hf.gr g
    replace hx := hx.gr g
    replace hfm := hfm.gr g
    clear g
    refine Y.pval F (X.w1 rfl (F.yl (j := 2) (d := 31) (b := false) rfl (by kernel_rfl))) rfl (X.binop rfl (F.ev 33 (.int .i64 (chkE f)) (by kernel_rfl)) (X.kc (.int .i64 0) rfl) (X.neqI Try.underlying31 rfl)) ?_
    clear F ac
    intro ac F
    refine Y.pval F (X.w0 rfl) rfl (X.pickF rfl (F.ev 31 (.bool false) (by kernel_rfl)) (F.ev 34 (.bool ((chkE f : Int) != 0)) (by kernel_rfl))) ?_
    clear F ac
    intro ac F
    refine Y.pval F (X.w0 rfl) rfl (X.move rfl (F.ev 35 (.bool ((chkE f : Int) != 0)) (by kernel_rfl))) ?_
    clear F ac
    intro ac F
    cases h12 : ((chkE f : Int) != 0) with
    | false =>
      try rw [h12] at F
      have h12p : (chkE f : Int) = 0 := by simpa using h12
      have hE0 : chkE f = 0 := h12p
      refine Y.pval F (X.w1 rfl (F.yl (j := 7) (d := 36) (b := false) rfl (by kernel_rfl))) rfl (X.load rfl (F.ev 7 (.pointer (some ⟨mb, 0, none⟩)) (by kernel_rfl)) (X.ldN (Try.agg25 _) (Try.siz25 _) (X.c2 (hC.at 11 rfl) (hC.at 12 rfl)))) ?_
      clear F ac
      intro ac F
      refine Y.pcall F (X.w1 rfl (F.yl (j := 7) (d := 36) (b := false) rfl (by kernel_rfl))) rfl (X.enter (F := 37) rfl (X.kc (.func (.func 37) #[] #[]) rfl) (X.a1 (F.ev 37 (.agg #[.slice ta tn tc, .slice (some ⟨mg, 0, none⟩) (cn + 1) mc]) (by kernel_rfl))) (enters_of Try.func37 (by kernel_rfl) rfl _)) (check2_any ta (some ⟨mg, 0, none⟩) tn tc (cn + 1) mc (moreF f y) w11 hfm) ?_
      clear F ac
      rintro e w14 ⟨rfl, g⟩
      refine ⟨_, rfl, ?_⟩
      intro ac F
      replace G := G.trans g
      replace hC := hC.gr g
      replace hf := hf.gr g
      replace hx := hx.gr g
      replace hfm := hfm.gr g
      clear g
      refine Y.pval F (X.w1 rfl (F.yl (j := 7) (d := 36) (b := false) rfl (by kernel_rfl))) rfl (X.binop rfl (F.ev 38 (.int .i64 (chkE (moreF f y))) (by kernel_rfl)) (X.kc (.int .i64 0) rfl) (X.neqI Try.underlying31 rfl)) ?_
      clear F ac
      intro ac F
      refine Y.pval F (X.w0 rfl) rfl (X.pickF rfl (F.ev 36 (.bool false) (by kernel_rfl)) (F.ev 39 (.bool ((chkE (moreF f y) : Int) != 0)) (by kernel_rfl))) ?_
      clear F ac
      intro ac F
      refine Y.nil ?_
      replace F : Fr ac 147 [(0, .agg #[.slice ta tn tc, .slice ca cn cc]), (1, .agg #[.int .i64 y.a, .int .i64 y.va, .int .i64 y.b, .int .i64 y.vb]), (2, .agg #[.slice ja n c, .slice jb j3 j4, .int .i64 bu, .int .i64 dn, .slice jc j5 j6]), (3, .pointer (some ⟨w.heap.size, 0, none⟩)), (4, .pointer (some ⟨w3.heap.size, 0, none⟩)), (5, .pointer (some ⟨w4.heap.size, 0, none⟩)), (6, .bool false), (7, .pointer (some ⟨mb, 0, none⟩)), (40, .bool ((chkE (moreF f y) : Int) != 0))] := F.sub _ (by kernel_rfl)
      refine X.thenN ?_
      cases h15 : ((chkE (moreF f y) : Int) != 0) with
      | false =>
        try rw [h15] at F
        have h15p : (chkE (moreF f y) : Int) = 0 := by simpa using h15
        have hE1 : chkE (moreF f y) = 0 := h15p
        refine Y.condF (F.ev 40 (.bool false) (by kernel_rfl)) ?_
        refine Y.skip ?_
        refine X.thenN ?_
        refine Y.seq ?_
        refine Y.lit (by kernel_rfl) ?_
        refine Y.pval F (X.w0 rfl) rfl (X.load rfl (F.ev 3 (.pointer (some ⟨w.heap.size, 0, none⟩)) (by kernel_rfl)) (X.ldN (Try.agg25 _) (Try.siz25 _) (X.c2 (hC.at 0 rfl) (hC.at 1 rfl)))) ?_
        clear F ac
        intro ac F
        refine Y.pcall F (X.w0 rfl) rfl (X.enter (F := 40) rfl (X.kc (.func (.func 40) #[] #[]) rfl) (X.a1 (F.ev 43 (.agg #[.slice ta tn tc, .slice ca cn cc]) (by kernel_rfl))) (enters_of Try.func40 (by kernel_rfl) rfl _)) (count_any ta ca tn tc cn cc f w14 hf) ?_
        clear F ac
        rintro e w17 ⟨rfl, g⟩
        refine ⟨_, rfl, ?_⟩
        intro ac F
        replace G := G.trans g
        replace hC := hC.gr g
        replace hf := hf.gr g
        replace hx := hx.gr g
        replace hfm := hfm.gr g
        clear g
        refine Y.pval F (X.w0 rfl) rfl (X.move rfl (F.ev 44 (.tuple #[.int .i64 (cntV f), .int .i64 (chkE f)]) (by kernel_rfl))) ?_
        clear F ac
        intro ac F
        refine Y.pval F (X.w0 rfl) rfl (X.extract rfl (F.ev 42 (.tuple #[.int .i64 (cntV f), .int .i64 (chkE f)]) (by kernel_rfl)) rfl) ?_
        clear F ac
        intro ac F
        refine Y.pval F (X.w0 rfl) rfl (X.extract rfl (F.ev 42 (.tuple #[.int .i64 (cntV f), .int .i64 (chkE f)]) (by kernel_rfl)) rfl) ?_
        clear F ac
        intro ac F
        refine Y.pval F (X.w0 rfl) rfl (X.assign rfl (F.ev 45 (.int .i64 (cntV f)) (by kernel_rfl))) ?_
        clear F ac
        intro ac F
        refine Y.pval F (X.w0 rfl) rfl (X.assign rfl (F.ev 46 (.int .i64 (chkE f)) (by kernel_rfl))) ?_
        clear F ac
        intro ac F
        refine Y.nil ?_
        replace F : Fr ac 147 [(0, .agg #[.slice ta tn tc, .slice ca cn cc]), (1, .agg #[.int .i64 y.a, .int .i64 y.va, .int .i64 y.b, .int .i64 y.vb]), (2, .agg #[.slice ja n c, .slice jb j3 j4, .int .i64 bu, .int .i64 dn, .slice jc j5 j6]), (3, .pointer (some ⟨w.heap.size, 0, none⟩)), (4, .pointer (some ⟨w3.heap.size, 0, none⟩)), (5, .pointer (some ⟨w4.heap.size, 0, none⟩)), (6, .bool false), (7, .pointer (some ⟨mb, 0, none⟩)), (8, .int .i64 (cntV f)), (9, .int .i64 (chkE f)), (40, .bool false)] := F.sub _ (by kernel_rfl)
        refine X.thenN ?_
        refine Y.seq ?_
        refine Y.lit (by kernel_rfl) ?_
        refine Y.pval F (X.w0 rfl) rfl (X.load rfl (F.ev 7 (.pointer (some ⟨mb, 0, none⟩)) (by kernel_rfl)) (X.ldN (Try.agg25 _) (Try.siz25 _) (X.c2 (hC.at 11 rfl) (hC.at 12 rfl)))) ?_
        clear F ac
        intro ac F
        refine Y.pcall F (X.w0 rfl) rfl (X.enter (F := 40) rfl (X.kc (.func (.func 40) #[] #[]) rfl) (X.a1 (F.ev 48 (.agg #[.slice ta tn tc, .slice (some ⟨mg, 0, none⟩) (cn + 1) mc]) (by kernel_rfl))) (enters_of Try.func40 (by kernel_rfl) rfl _)) (count_any ta (some ⟨mg, 0, none⟩) tn tc (cn + 1) mc (moreF f y) w17 hfm) ?_
        clear F ac
        rintro e w19 ⟨rfl, g⟩
        refine ⟨_, rfl, ?_⟩
        intro ac F
        replace G := G.trans g
        replace hC := hC.gr g
        replace hf := hf.gr g
        replace hx := hx.gr g
        replace hfm := hfm.gr g
        clear g
        refine Y.pval F (X.w0 rfl) rfl (X.move rfl (F.ev 49 (.tuple #[.int .i64 (cntV (moreF f y)), .int .i64 (chkE (moreF f y))]) (by kernel_rfl))) ?_
        clear F ac
        intro ac F
        refine Y.pval F (X.w0 rfl) rfl (X.extract rfl (F.ev 47 (.tuple #[.int .i64 (cntV (moreF f y)), .int .i64 (chkE (moreF f y))]) (by kernel_rfl)) rfl) ?_
        clear F ac
        intro ac F
        refine Y.pval F (X.w0 rfl) rfl (X.extract rfl (F.ev 47 (.tuple #[.int .i64 (cntV (moreF f y)), .int .i64 (chkE (moreF f y))]) (by kernel_rfl)) rfl) ?_
        clear F ac
        intro ac F
        refine Y.pval F (X.w0 rfl) rfl (X.assign rfl (F.ev 50 (.int .i64 (cntV (moreF f y))) (by kernel_rfl))) ?_
        clear F ac
        intro ac F
        refine Y.pval F (X.w0 rfl) rfl (X.assign rfl (F.ev 51 (.int .i64 (chkE (moreF f y))) (by kernel_rfl))) ?_
        clear F ac
        intro ac F
        refine Y.nil ?_
        replace F : Fr ac 147 [(0, .agg #[.slice ta tn tc, .slice ca cn cc]), (1, .agg #[.int .i64 y.a, .int .i64 y.va, .int .i64 y.b, .int .i64 y.vb]), (2, .agg #[.slice ja n c, .slice jb j3 j4, .int .i64 bu, .int .i64 dn, .slice jc j5 j6]), (3, .pointer (some ⟨w.heap.size, 0, none⟩)), (4, .pointer (some ⟨w3.heap.size, 0, none⟩)), (5, .pointer (some ⟨w4.heap.size, 0, none⟩)), (6, .bool false), (7, .pointer (some ⟨mb, 0, none⟩)), (8, .int .i64 (cntV f)), (9, .int .i64 (chkE f)), (10, .int .i64 (cntV (moreF f y))), (11, .int .i64 (chkE (moreF f y))), (40, .bool false)] := F.sub _ (by kernel_rfl)
        refine X.thenN ?_
        refine Y.seq ?_
        refine Y.seq ?_
        refine Y.lit (by kernel_rfl) ?_
        refine Y.pval F (X.w0 rfl) rfl (X.move rfl (F.ev 9 (.int .i64 (chkE f)) (by kernel_rfl))) ?_
        clear F ac
        intro ac F
        refine Y.pval F (X.w0 rfl) rfl (X.binop rfl (F.ev 52 (.int .i64 (chkE f)) (by kernel_rfl)) (X.kc (.int .i64 0) rfl) (X.neqI Try.underlying31 h12)) ?_
        clear F ac
        intro ac F
        refine Y.pval F (X.w0 rfl) rfl (X.move rfl (F.ev 53 (.bool false) (by kernel_rfl))) ?_
        clear F ac
        intro ac F
        refine Y.pval F (X.w1 rfl (F.yl (j := 2) (d := 54) (b := false) rfl (by kernel_rfl))) rfl (X.move rfl (F.ev 11 (.int .i64 (chkE (moreF f y))) (by kernel_rfl))) ?_
        clear F ac
        intro ac F
        refine Y.pval F (X.w1 rfl (F.yl (j := 2) (d := 54) (b := false) rfl (by kernel_rfl))) rfl (X.binop rfl (F.ev 55 (.int .i64 (chkE (moreF f y))) (by kernel_rfl)) (X.kc (.int .i64 0) rfl) (X.neqI Try.underlying31 h15)) ?_
        clear F ac
        intro ac F
        refine Y.pval F (X.w0 rfl) rfl (X.pickF rfl (F.ev 54 (.bool false) (by kernel_rfl)) (F.ev 56 (.bool false) (by kernel_rfl))) ?_
        clear F ac
        intro ac F
        refine Y.pval F (X.w0 rfl) rfl (X.move rfl (F.ev 57 (.bool false) (by kernel_rfl))) ?_
        clear F ac
        intro ac F
        refine Y.pval F (X.w1 rfl (F.yl (j := 6) (d := 58) (b := false) rfl (by kernel_rfl))) rfl (X.move rfl (F.ev 10 (.int .i64 (cntV (moreF f y))) (by kernel_rfl))) ?_
        clear F ac
        intro ac F
        refine Y.pval F (X.w1 rfl (F.yl (j := 6) (d := 58) (b := false) rfl (by kernel_rfl))) rfl (X.move rfl (F.ev 8 (.int .i64 (cntV f)) (by kernel_rfl))) ?_
        clear F ac
        intro ac F
        refine Y.pval F (X.w1 rfl (F.yl (j := 6) (d := 58) (b := false) rfl (by kernel_rfl))) rfl (X.binop rfl (F.ev 59 (.int .i64 (cntV (moreF f y))) (by kernel_rfl)) (F.ev 60 (.int .i64 (cntV f)) (by kernel_rfl)) (X.gtrI Try.underlying3 rfl)) ?_
        clear F ac
        intro ac F
        refine Y.pval F (X.w0 rfl) rfl (X.pickF rfl (F.ev 58 (.bool false) (by kernel_rfl)) (F.ev 61 (.bool (decide ((cntV f : Int) < (cntV (moreF f y))))) (by kernel_rfl))) ?_
        clear F ac
        intro ac F
        refine Y.nil ?_
        replace F : Fr ac 147 [(0, .agg #[.slice ta tn tc, .slice ca cn cc]), (1, .agg #[.int .i64 y.a, .int .i64 y.va, .int .i64 y.b, .int .i64 y.vb]), (2, .agg #[.slice ja n c, .slice jb j3 j4, .int .i64 bu, .int .i64 dn, .slice jc j5 j6]), (3, .pointer (some ⟨w.heap.size, 0, none⟩)), (4, .pointer (some ⟨w3.heap.size, 0, none⟩)), (5, .pointer (some ⟨w4.heap.size, 0, none⟩)), (6, .bool false), (7, .pointer (some ⟨mb, 0, none⟩)), (8, .int .i64 (cntV f)), (9, .int .i64 (chkE f)), (10, .int .i64 (cntV (moreF f y))), (11, .int .i64 (chkE (moreF f y))), (40, .bool false), (62, .bool (decide ((cntV f : Int) < (cntV (moreF f y)))))] := F.sub _ (by kernel_rfl)
        refine X.thenN ?_
        have h21 : decide ((cntV f : Int) < (cntV (moreF f y))) = false := by
          have := count_more hE0 hE1
          unfold cntV
          rw [if_pos hE0, if_pos hE1]
          simp
          omega
        have h21p : ¬ ((cntV f : Int) < (cntV (moreF f y))) := of_decide_eq_false h21
        try rw [h21] at F
        refine Y.condF (F.ev 62 (.bool false) (by kernel_rfl)) ?_
        refine Y.skip ?_
        refine X.thenN ?_
        refine Y.seq ?_
        refine Y.lit (by kernel_rfl) ?_
        refine Y.pval F (X.w0 rfl) rfl (X.load rfl (F.ev 3 (.pointer (some ⟨w.heap.size, 0, none⟩)) (by kernel_rfl)) (X.ldN (Try.agg25 _) (Try.siz25 _) (X.c2 (hC.at 0 rfl) (hC.at 1 rfl)))) ?_
        clear F ac
        intro ac F
        refine Y.pval F (X.w0 rfl) rfl (X.field rfl (F.ev 5 (.pointer (some ⟨w4.heap.size, 0, none⟩)) (by kernel_rfl)) (X.fld Try.underlying41 rfl (Try.siz26 _) rfl rfl)) ?_
        clear F ac
        intro ac F
        refine Y.pval F (X.w0 rfl) rfl (X.load rfl (F.ev 65 (.pointer (some ⟨w4.heap.size, 0, none⟩)) (by kernel_rfl)) (X.ld1 (Try.agg26 _) (hC.at 6 rfl))) ?_
        clear F ac
        intro ac F
        refine Y.pcall F (X.w0 rfl) rfl (X.enter (F := 38) rfl (X.kc (.func (.func 38) #[] #[]) rfl) (X.a2 (F.ev 64 (.agg #[.slice ta tn tc, .slice ca cn cc]) (by kernel_rfl)) (F.ev 66 (.slice ja n c) (by kernel_rfl))) (enters_of Try.func38 (by kernel_rfl) rfl _)) (Works_any ta ca ja tn tc cn cc n c f fs w19 hf hx) ?_
        clear F ac
        rintro e w23 ⟨rfl, g⟩
        refine ⟨_, rfl, ?_⟩
        intro ac F
        replace G := G.trans g
        replace hC := hC.gr g
        replace hf := hf.gr g
        replace hx := hx.gr g
        replace hfm := hfm.gr g
        clear g
        refine Y.pval F (X.w0 rfl) rfl (X.move rfl (F.ev 67 (.tuple #[.int .i64 (wI f fs), .bool (wB f fs), .int .i64 (wE f fs)]) (by kernel_rfl))) ?_
        clear F ac
        intro ac F
        refine Y.pval F (X.w0 rfl) rfl (X.extract rfl (F.ev 63 (.tuple #[.int .i64 (wI f fs), .bool (wB f fs), .int .i64 (wE f fs)]) (by kernel_rfl)) rfl) ?_
        clear F ac
        intro ac F
        refine Y.pval F (X.w0 rfl) rfl (X.extract rfl (F.ev 63 (.tuple #[.int .i64 (wI f fs), .bool (wB f fs), .int .i64 (wE f fs)]) (by kernel_rfl)) rfl) ?_
        clear F ac
        intro ac F
        refine Y.pval F (X.w0 rfl) rfl (X.extract rfl (F.ev 63 (.tuple #[.int .i64 (wI f fs), .bool (wB f fs), .int .i64 (wE f fs)]) (by kernel_rfl)) rfl) ?_
        clear F ac
        intro ac F
        refine Y.pval F (X.w0 rfl) rfl (X.assign rfl (F.ev 68 (.int .i64 (wI f fs)) (by kernel_rfl))) ?_
        clear F ac
        intro ac F
        refine Y.pval F (X.w0 rfl) rfl (X.assign rfl (F.ev 69 (.bool (wB f fs)) (by kernel_rfl))) ?_
        clear F ac
        intro ac F
        refine Y.pval F (X.w0 rfl) rfl (X.assign rfl (F.ev 70 (.int .i64 (wE f fs)) (by kernel_rfl))) ?_
        clear F ac
        intro ac F
        refine Y.nil ?_
        replace F : Fr ac 147 [(0, .agg #[.slice ta tn tc, .slice ca cn cc]), (1, .agg #[.int .i64 y.a, .int .i64 y.va, .int .i64 y.b, .int .i64 y.vb]), (2, .agg #[.slice ja n c, .slice jb j3 j4, .int .i64 bu, .int .i64 dn, .slice jc j5 j6]), (3, .pointer (some ⟨w.heap.size, 0, none⟩)), (4, .pointer (some ⟨w3.heap.size, 0, none⟩)), (5, .pointer (some ⟨w4.heap.size, 0, none⟩)), (6, .bool false), (7, .pointer (some ⟨mb, 0, none⟩)), (8, .int .i64 (cntV f)), (9, .int .i64 (wE f fs)), (10, .int .i64 (cntV (moreF f y))), (11, .int .i64 (chkE (moreF f y))), (13, .bool (wB f fs)), (40, .bool false), (62, .bool false)] := F.sub _ (by kernel_rfl)
        refine X.thenN ?_
        refine Y.seq ?_
        refine Y.lit (by kernel_rfl) ?_
        refine Y.pval F (X.w0 rfl) rfl (X.load rfl (F.ev 7 (.pointer (some ⟨mb, 0, none⟩)) (by kernel_rfl)) (X.ldN (Try.agg25 _) (Try.siz25 _) (X.c2 (hC.at 11 rfl) (hC.at 12 rfl)))) ?_
        clear F ac
        intro ac F
        refine Y.pval F (X.w0 rfl) rfl (X.field rfl (F.ev 5 (.pointer (some ⟨w4.heap.size, 0, none⟩)) (by kernel_rfl)) (X.fld Try.underlying41 rfl (Try.siz26 _) rfl rfl)) ?_
        clear F ac
        intro ac F
        refine Y.pval F (X.w0 rfl) rfl (X.load rfl (F.ev 73 (.pointer (some ⟨w4.heap.size, 0, none⟩)) (by kernel_rfl)) (X.ld1 (Try.agg26 _) (hC.at 6 rfl))) ?_
        clear F ac
        intro ac F
        refine Y.pcall F (X.w0 rfl) rfl (X.enter (F := 38) rfl (X.kc (.func (.func 38) #[] #[]) rfl) (X.a2 (F.ev 72 (.agg #[.slice ta tn tc, .slice (some ⟨mg, 0, none⟩) (cn + 1) mc]) (by kernel_rfl)) (F.ev 74 (.slice ja n c) (by kernel_rfl))) (enters_of Try.func38 (by kernel_rfl) rfl _)) (Works_any ta (some ⟨mg, 0, none⟩) ja tn tc (cn + 1) mc n c (moreF f y) fs w23 hfm hx) ?_
        clear F ac
        rintro e w25 ⟨rfl, g⟩
        refine ⟨_, rfl, ?_⟩
        intro ac F
        replace G := G.trans g
        replace hC := hC.gr g
        replace hf := hf.gr g
        replace hx := hx.gr g
        replace hfm := hfm.gr g
        clear g
        refine Y.pval F (X.w0 rfl) rfl (X.move rfl (F.ev 75 (.tuple #[.int .i64 (wI (moreF f y) fs), .bool (wB (moreF f y) fs), .int .i64 (wE (moreF f y) fs)]) (by kernel_rfl))) ?_
        clear F ac
        intro ac F
        refine Y.pval F (X.w0 rfl) rfl (X.extract rfl (F.ev 71 (.tuple #[.int .i64 (wI (moreF f y) fs), .bool (wB (moreF f y) fs), .int .i64 (wE (moreF f y) fs)]) (by kernel_rfl)) rfl) ?_
        clear F ac
        intro ac F
        refine Y.pval F (X.w0 rfl) rfl (X.extract rfl (F.ev 71 (.tuple #[.int .i64 (wI (moreF f y) fs), .bool (wB (moreF f y) fs), .int .i64 (wE (moreF f y) fs)]) (by kernel_rfl)) rfl) ?_
        clear F ac
        intro ac F
        refine Y.pval F (X.w0 rfl) rfl (X.extract rfl (F.ev 71 (.tuple #[.int .i64 (wI (moreF f y) fs), .bool (wB (moreF f y) fs), .int .i64 (wE (moreF f y) fs)]) (by kernel_rfl)) rfl) ?_
        clear F ac
        intro ac F
        refine Y.pval F (X.w0 rfl) rfl (X.assign rfl (F.ev 76 (.int .i64 (wI (moreF f y) fs)) (by kernel_rfl))) ?_
        clear F ac
        intro ac F
        refine Y.pval F (X.w0 rfl) rfl (X.assign rfl (F.ev 77 (.bool (wB (moreF f y) fs)) (by kernel_rfl))) ?_
        clear F ac
        intro ac F
        refine Y.pval F (X.w0 rfl) rfl (X.assign rfl (F.ev 78 (.int .i64 (wE (moreF f y) fs)) (by kernel_rfl))) ?_
        clear F ac
        intro ac F
        refine Y.nil ?_
        replace F : Fr ac 147 [(0, .agg #[.slice ta tn tc, .slice ca cn cc]), (1, .agg #[.int .i64 y.a, .int .i64 y.va, .int .i64 y.b, .int .i64 y.vb]), (2, .agg #[.slice ja n c, .slice jb j3 j4, .int .i64 bu, .int .i64 dn, .slice jc j5 j6]), (3, .pointer (some ⟨w.heap.size, 0, none⟩)), (4, .pointer (some ⟨w3.heap.size, 0, none⟩)), (5, .pointer (some ⟨w4.heap.size, 0, none⟩)), (6, .bool false), (7, .pointer (some ⟨mb, 0, none⟩)), (8, .int .i64 (cntV f)), (9, .int .i64 (wE f fs)), (10, .int .i64 (cntV (moreF f y))), (11, .int .i64 (wE (moreF f y) fs)), (13, .bool (wB f fs)), (15, .bool (wB (moreF f y) fs)), (40, .bool false), (62, .bool false)] := F.sub _ (by kernel_rfl)
        refine X.thenN ?_
        refine Y.seq ?_
        refine Y.seq ?_
        refine Y.lit (by kernel_rfl) ?_
        refine Y.pval F (X.w0 rfl) rfl (X.move rfl (F.ev 9 (.int .i64 (wE f fs)) (by kernel_rfl))) ?_
        clear F ac
        intro ac F
        refine Y.pval F (X.w0 rfl) rfl (X.move rfl (F.ev 11 (.int .i64 (wE (moreF f y) fs)) (by kernel_rfl))) ?_
        clear F ac
        intro ac F
        refine Y.pval F (X.w0 rfl) rfl (X.binop rfl (F.ev 79 (.int .i64 (wE f fs)) (by kernel_rfl)) (F.ev 80 (.int .i64 (wE (moreF f y) fs)) (by kernel_rfl)) (X.neqI Try.underlying31 rfl)) ?_
        clear F ac
        intro ac F
        refine Y.pval F (X.w0 rfl) rfl (X.move rfl (F.ev 81 (.bool ((wE f fs : Int) != (wE (moreF f y) fs))) (by kernel_rfl))) ?_
        clear F ac
        intro ac F
        have h27 : ((wE f fs : Int) != (wE (moreF f y) fs)) = false := by unfold wE; rw [statesE_more hE0 hE1]; simp
        try rw [h27] at F
        refine Y.pval F (X.w1 rfl (F.yl (j := 3) (d := 82) (b := false) rfl (by kernel_rfl))) rfl (X.move rfl (F.ev 15 (.bool (wB (moreF f y) fs)) (by kernel_rfl))) ?_
        clear F ac
        intro ac F
        refine Y.pval F (X.w1 rfl (F.yl (j := 3) (d := 82) (b := false) rfl (by kernel_rfl))) rfl (X.move rfl (F.ev 83 (.bool (wB (moreF f y) fs)) (by kernel_rfl))) ?_
        clear F ac
        intro ac F
        cases h28 : wB (moreF f y) fs with
        | false =>
          try rw [h28] at F
          have hwm := h28
          refine Y.pskip F (X.w2 rfl (F.yl (j := 5) (d := 84) (b := false) rfl (by kernel_rfl)) rfl) rfl ?_
          clear F ac
          intro ac F
          refine Y.pskip F (X.w2 rfl (F.yl (j := 5) (d := 84) (b := false) rfl (by kernel_rfl)) rfl) rfl ?_
          clear F ac
          intro ac F
          refine Y.pval F (X.w1 rfl (F.yl (j := 3) (d := 82) (b := false) rfl (by kernel_rfl))) rfl (X.pickF rfl (F.ev 84 (.bool false) (by kernel_rfl)) (X.kc (.bool false) rfl)) ?_
          clear F ac
          intro ac F
          refine Y.pval F (X.w0 rfl) rfl (X.pickF rfl (F.ev 82 (.bool false) (by kernel_rfl)) (F.ev 87 (.bool false) (by kernel_rfl))) ?_
          clear F ac
          intro ac F
          refine Y.nil ?_
          replace F : Fr ac 147 [(0, .agg #[.slice ta tn tc, .slice ca cn cc]), (1, .agg #[.int .i64 y.a, .int .i64 y.va, .int .i64 y.b, .int .i64 y.vb]), (2, .agg #[.slice ja n c, .slice jb j3 j4, .int .i64 bu, .int .i64 dn, .slice jc j5 j6]), (3, .pointer (some ⟨w.heap.size, 0, none⟩)), (4, .pointer (some ⟨w3.heap.size, 0, none⟩)), (5, .pointer (some ⟨w4.heap.size, 0, none⟩)), (6, .bool false), (7, .pointer (some ⟨mb, 0, none⟩)), (8, .int .i64 (cntV f)), (9, .int .i64 (wE f fs)), (10, .int .i64 (cntV (moreF f y))), (11, .int .i64 (wE (moreF f y) fs)), (13, .bool (wB f fs)), (15, .bool false), (40, .bool false), (62, .bool false), (88, .bool false)] := F.sub _ (by kernel_rfl)
          refine X.thenN ?_
          refine Y.condF (F.ev 88 (.bool false) (by kernel_rfl)) ?_
          refine Y.skip ?_
          refine X.thenN ?_
          refine Y.seq ?_
          refine Y.seq ?_
          refine Y.lit (by kernel_rfl) ?_
          refine Y.pval F (X.w0 rfl) rfl (X.move rfl (F.ev 9 (.int .i64 (wE f fs)) (by kernel_rfl))) ?_
          clear F ac
          intro ac F
          refine Y.pval F (X.w0 rfl) rfl (X.binop rfl (F.ev 89 (.int .i64 (wE f fs)) (by kernel_rfl)) (X.kc (.int .i64 0) rfl) (X.neqI Try.underlying31 rfl)) ?_
          clear F ac
          intro ac F
          refine Y.pval F (X.w0 rfl) rfl (X.move rfl (F.ev 90 (.bool ((wE f fs : Int) != 0)) (by kernel_rfl))) ?_
          clear F ac
          intro ac F
          cases h29 : ((wE f fs : Int) != 0) with
          | false =>
            try rw [h29] at F
            have h29p : (wE f fs : Int) = 0 := by simpa using h29
            refine Y.pval F (X.w1 rfl (F.yl (j := 2) (d := 91) (b := false) rfl (by kernel_rfl))) rfl (X.move rfl (F.ev 15 (.bool false) (by kernel_rfl))) ?_
            clear F ac
            intro ac F
            refine Y.pval F (X.w1 rfl (F.yl (j := 2) (d := 91) (b := false) rfl (by kernel_rfl))) rfl (X.notB rfl (F.ev 92 (.bool false) (by kernel_rfl)) rfl) ?_
            clear F ac
            intro ac F
            refine Y.pval F (X.w0 rfl) rfl (X.pickF rfl (F.ev 91 (.bool false) (by kernel_rfl)) (F.ev 93 (.bool true) (by kernel_rfl))) ?_
            clear F ac
            intro ac F
            refine Y.nil ?_
            replace F : Fr ac 147 [(0, .agg #[.slice ta tn tc, .slice ca cn cc]), (1, .agg #[.int .i64 y.a, .int .i64 y.va, .int .i64 y.b, .int .i64 y.vb]), (2, .agg #[.slice ja n c, .slice jb j3 j4, .int .i64 bu, .int .i64 dn, .slice jc j5 j6]), (3, .pointer (some ⟨w.heap.size, 0, none⟩)), (4, .pointer (some ⟨w3.heap.size, 0, none⟩)), (5, .pointer (some ⟨w4.heap.size, 0, none⟩)), (6, .bool false), (7, .pointer (some ⟨mb, 0, none⟩)), (8, .int .i64 (cntV f)), (9, .int .i64 (wE f fs)), (10, .int .i64 (cntV (moreF f y))), (11, .int .i64 (wE (moreF f y) fs)), (13, .bool (wB f fs)), (15, .bool false), (40, .bool false), (62, .bool false), (88, .bool false), (94, .bool true)] := F.sub _ (by kernel_rfl)
            refine X.thenN ?_
            refine Y.condT (F.ev 94 (.bool true) (by kernel_rfl)) ?_
            refine Y.seq ?_
            refine Y.lit (by kernel_rfl) ?_
            refine Y.pcall F (X.w0 rfl) rfl (X.enter (F := 16) rfl (X.kc (.func (.func 16) #[] #[]) rfl) rfl (enters_of Try.func16 (by kernel_rfl) rfl _)) (look_any w25) ?_
            clear F ac
            rintro e w31 ⟨rfl, g⟩
            refine ⟨_, rfl, ?_⟩
            intro ac F
            replace G := G.trans g
            replace hC := hC.gr g
            replace hf := hf.gr g
            replace hx := hx.gr g
            replace hfm := hfm.gr g
            clear g
            refine Y.pval F (X.w0 rfl) rfl (X.assign rfl (F.ev 95 (.bool true) (by kernel_rfl))) ?_
            clear F ac
            intro ac F
            refine Y.nil ?_
            replace F : Fr ac 147 [(0, .agg #[.slice ta tn tc, .slice ca cn cc]), (1, .agg #[.int .i64 y.a, .int .i64 y.va, .int .i64 y.b, .int .i64 y.vb]), (2, .agg #[.slice ja n c, .slice jb j3 j4, .int .i64 bu, .int .i64 dn, .slice jc j5 j6]), (3, .pointer (some ⟨w.heap.size, 0, none⟩)), (4, .pointer (some ⟨w3.heap.size, 0, none⟩)), (5, .pointer (some ⟨w4.heap.size, 0, none⟩)), (6, .bool true), (7, .pointer (some ⟨mb, 0, none⟩)), (8, .int .i64 (cntV f)), (9, .int .i64 (wE f fs)), (10, .int .i64 (cntV (moreF f y))), (11, .int .i64 (wE (moreF f y) fs)), (13, .bool (wB f fs)), (15, .bool false), (40, .bool false), (62, .bool false), (88, .bool false), (94, .bool true)] := F.sub _ (by kernel_rfl)
            refine X.thenN ?_
            refine Y.ret ?_
            refine X.thenR ?_
            exact Y.ret0 F (Y.rs1 F rfl (by kernel_rfl)) ⟨rfl, G⟩
          | true =>
            try rw [h29] at F
            have h29p : ¬ (wE f fs : Int) = 0 := by simpa using h29
            refine Y.pskip F (X.w2 rfl (F.yl (j := 2) (d := 91) (b := true) rfl (by kernel_rfl)) rfl) rfl ?_
            clear F ac
            intro ac F
            refine Y.pskip F (X.w2 rfl (F.yl (j := 2) (d := 91) (b := true) rfl (by kernel_rfl)) rfl) rfl ?_
            clear F ac
            intro ac F
            refine Y.pval F (X.w0 rfl) rfl (X.pickT rfl (F.ev 91 (.bool true) (by kernel_rfl)) (X.kc (.bool true) rfl)) ?_
            clear F ac
            intro ac F
            refine Y.nil ?_
            replace F : Fr ac 147 [(0, .agg #[.slice ta tn tc, .slice ca cn cc]), (1, .agg #[.int .i64 y.a, .int .i64 y.va, .int .i64 y.b, .int .i64 y.vb]), (2, .agg #[.slice ja n c, .slice jb j3 j4, .int .i64 bu, .int .i64 dn, .slice jc j5 j6]), (3, .pointer (some ⟨w.heap.size, 0, none⟩)), (4, .pointer (some ⟨w3.heap.size, 0, none⟩)), (5, .pointer (some ⟨w4.heap.size, 0, none⟩)), (6, .bool false), (7, .pointer (some ⟨mb, 0, none⟩)), (8, .int .i64 (cntV f)), (9, .int .i64 (wE f fs)), (10, .int .i64 (cntV (moreF f y))), (11, .int .i64 (wE (moreF f y) fs)), (13, .bool (wB f fs)), (15, .bool false), (40, .bool false), (62, .bool false), (88, .bool false), (94, .bool true)] := F.sub _ (by kernel_rfl)
            refine X.thenN ?_
            refine Y.condT (F.ev 94 (.bool true) (by kernel_rfl)) ?_
            refine Y.seq ?_
            refine Y.lit (by kernel_rfl) ?_
            refine Y.pcall F (X.w0 rfl) rfl (X.enter (F := 16) rfl (X.kc (.func (.func 16) #[] #[]) rfl) rfl (enters_of Try.func16 (by kernel_rfl) rfl _)) (look_any w25) ?_
            clear F ac
            rintro e w33 ⟨rfl, g⟩
            refine ⟨_, rfl, ?_⟩
            intro ac F
            replace G := G.trans g
            replace hC := hC.gr g
            replace hf := hf.gr g
            replace hx := hx.gr g
            replace hfm := hfm.gr g
            clear g
            refine Y.pval F (X.w0 rfl) rfl (X.assign rfl (F.ev 95 (.bool true) (by kernel_rfl))) ?_
            clear F ac
            intro ac F
            refine Y.nil ?_
            replace F : Fr ac 147 [(0, .agg #[.slice ta tn tc, .slice ca cn cc]), (1, .agg #[.int .i64 y.a, .int .i64 y.va, .int .i64 y.b, .int .i64 y.vb]), (2, .agg #[.slice ja n c, .slice jb j3 j4, .int .i64 bu, .int .i64 dn, .slice jc j5 j6]), (3, .pointer (some ⟨w.heap.size, 0, none⟩)), (4, .pointer (some ⟨w3.heap.size, 0, none⟩)), (5, .pointer (some ⟨w4.heap.size, 0, none⟩)), (6, .bool true), (7, .pointer (some ⟨mb, 0, none⟩)), (8, .int .i64 (cntV f)), (9, .int .i64 (wE f fs)), (10, .int .i64 (cntV (moreF f y))), (11, .int .i64 (wE (moreF f y) fs)), (13, .bool (wB f fs)), (15, .bool false), (40, .bool false), (62, .bool false), (88, .bool false), (94, .bool true)] := F.sub _ (by kernel_rfl)
            refine X.thenN ?_
            refine Y.ret ?_
            refine X.thenR ?_
            exact Y.ret0 F (Y.rs1 F rfl (by kernel_rfl)) ⟨rfl, G⟩
        | true =>
          try rw [h28] at F
          have hwm := h28
          refine Y.pval F (X.w1 rfl (F.yl (j := 5) (d := 84) (b := true) rfl (by kernel_rfl))) rfl (X.move rfl (F.ev 13 (.bool (wB f fs)) (by kernel_rfl))) ?_
          clear F ac
          intro ac F
          refine Y.pval F (X.w1 rfl (F.yl (j := 5) (d := 84) (b := true) rfl (by kernel_rfl))) rfl (X.notB rfl (F.ev 85 (.bool (wB f fs)) (by kernel_rfl)) rfl) ?_
          clear F ac
          intro ac F
          refine Y.pval F (X.w1 rfl (F.yl (j := 3) (d := 82) (b := false) rfl (by kernel_rfl))) rfl (X.pickT rfl (F.ev 84 (.bool true) (by kernel_rfl)) (F.ev 86 (.bool (!(wB f fs))) (by kernel_rfl))) ?_
          clear F ac
          intro ac F
          refine Y.pval F (X.w0 rfl) rfl (X.pickF rfl (F.ev 82 (.bool false) (by kernel_rfl)) (F.ev 87 (.bool (!(wB f fs))) (by kernel_rfl))) ?_
          clear F ac
          intro ac F
          refine Y.nil ?_
          replace F : Fr ac 147 [(0, .agg #[.slice ta tn tc, .slice ca cn cc]), (1, .agg #[.int .i64 y.a, .int .i64 y.va, .int .i64 y.b, .int .i64 y.vb]), (2, .agg #[.slice ja n c, .slice jb j3 j4, .int .i64 bu, .int .i64 dn, .slice jc j5 j6]), (3, .pointer (some ⟨w.heap.size, 0, none⟩)), (4, .pointer (some ⟨w3.heap.size, 0, none⟩)), (5, .pointer (some ⟨w4.heap.size, 0, none⟩)), (6, .bool false), (7, .pointer (some ⟨mb, 0, none⟩)), (8, .int .i64 (cntV f)), (9, .int .i64 (wE f fs)), (10, .int .i64 (cntV (moreF f y))), (11, .int .i64 (wE (moreF f y) fs)), (13, .bool (wB f fs)), (15, .bool true), (40, .bool false), (62, .bool false), (88, .bool (!(wB f fs)))] := F.sub _ (by kernel_rfl)
          refine X.thenN ?_
          have h35 : wB f fs = true := wB_more hE0 hE1 hwm
          try rw [h35] at F
          refine Y.condF (F.ev 88 (.bool false) (by kernel_rfl)) ?_
          refine Y.skip ?_
          refine X.thenN ?_
          refine Y.seq ?_
          refine Y.seq ?_
          refine Y.lit (by kernel_rfl) ?_
          refine Y.pval F (X.w0 rfl) rfl (X.move rfl (F.ev 9 (.int .i64 (wE f fs)) (by kernel_rfl))) ?_
          clear F ac
          intro ac F
          refine Y.pval F (X.w0 rfl) rfl (X.binop rfl (F.ev 89 (.int .i64 (wE f fs)) (by kernel_rfl)) (X.kc (.int .i64 0) rfl) (X.neqI Try.underlying31 rfl)) ?_
          clear F ac
          intro ac F
          refine Y.pval F (X.w0 rfl) rfl (X.move rfl (F.ev 90 (.bool ((wE f fs : Int) != 0)) (by kernel_rfl))) ?_
          clear F ac
          intro ac F
          cases h36 : ((wE f fs : Int) != 0) with
          | false =>
            try rw [h36] at F
            have h36p : (wE f fs : Int) = 0 := by simpa using h36
            refine Y.pval F (X.w1 rfl (F.yl (j := 2) (d := 91) (b := false) rfl (by kernel_rfl))) rfl (X.move rfl (F.ev 15 (.bool true) (by kernel_rfl))) ?_
            clear F ac
            intro ac F
            refine Y.pval F (X.w1 rfl (F.yl (j := 2) (d := 91) (b := false) rfl (by kernel_rfl))) rfl (X.notB rfl (F.ev 92 (.bool true) (by kernel_rfl)) rfl) ?_
            clear F ac
            intro ac F
            refine Y.pval F (X.w0 rfl) rfl (X.pickF rfl (F.ev 91 (.bool false) (by kernel_rfl)) (F.ev 93 (.bool false) (by kernel_rfl))) ?_
            clear F ac
            intro ac F
            refine Y.nil ?_
            replace F : Fr ac 147 [(0, .agg #[.slice ta tn tc, .slice ca cn cc]), (1, .agg #[.int .i64 y.a, .int .i64 y.va, .int .i64 y.b, .int .i64 y.vb]), (2, .agg #[.slice ja n c, .slice jb j3 j4, .int .i64 bu, .int .i64 dn, .slice jc j5 j6]), (3, .pointer (some ⟨w.heap.size, 0, none⟩)), (4, .pointer (some ⟨w3.heap.size, 0, none⟩)), (5, .pointer (some ⟨w4.heap.size, 0, none⟩)), (6, .bool false), (7, .pointer (some ⟨mb, 0, none⟩)), (8, .int .i64 (cntV f)), (9, .int .i64 (wE f fs)), (10, .int .i64 (cntV (moreF f y))), (11, .int .i64 (wE (moreF f y) fs)), (13, .bool true), (15, .bool true), (40, .bool false), (62, .bool false), (88, .bool false), (94, .bool false)] := F.sub _ (by kernel_rfl)
            refine X.thenN ?_
            refine Y.condF (F.ev 94 (.bool false) (by kernel_rfl)) ?_
            refine Y.skip ?_
            refine X.thenN ?_
            refine Y.seq ?_
            refine Y.lit (by kernel_rfl) ?_
            refine Y.pval F (X.w0 rfl) rfl (X.load rfl (F.ev 7 (.pointer (some ⟨mb, 0, none⟩)) (by kernel_rfl)) (X.ldN (Try.agg25 _) (Try.siz25 _) (X.c2 (hC.at 11 rfl) (hC.at 12 rfl)))) ?_
            clear F ac
            intro ac F
            refine Y.pval F (X.w0 rfl) rfl (X.field rfl (F.ev 5 (.pointer (some ⟨w4.heap.size, 0, none⟩)) (by kernel_rfl)) (X.fld Try.underlying41 rfl (Try.siz26 _) rfl rfl)) ?_
            clear F ac
            intro ac F
            refine Y.pval F (X.w0 rfl) rfl (X.load rfl (F.ev 98 (.pointer (some ⟨w4.heap.size, 0, none⟩)) (by kernel_rfl)) (X.ld1 (Try.agg26 _) (hC.at 6 rfl))) ?_
            clear F ac
            intro ac F
            refine Y.pval F (X.w0 rfl) rfl (X.field rfl (F.ev 5 (.pointer (some ⟨w4.heap.size, 0, none⟩)) (by kernel_rfl)) (X.fld Try.underlying41 rfl (Try.siz3 _) rfl rfl)) ?_
            clear F ac
            intro ac F
            refine Y.pval F (X.w0 rfl) rfl (X.load rfl (F.ev 100 (.pointer (some ⟨w4.heap.size, 2, none⟩)) (by kernel_rfl)) (X.ld1 (Try.agg3 _) (hC.at 8 rfl))) ?_
            clear F ac
            intro ac F
            refine Y.pcall F (X.w0 rfl) rfl (X.enter (F := 44) rfl (X.kc (.func (.func 44) #[] #[]) rfl) (X.a3 (F.ev 97 (.agg #[.slice ta tn tc, .slice (some ⟨mg, 0, none⟩) (cn + 1) mc]) (by kernel_rfl)) (F.ev 99 (.slice ja n c) (by kernel_rfl)) (F.ev 101 (.int .i64 bu) (by kernel_rfl))) (enters_of Try.func44 (by kernel_rfl) rfl _)) (reach_any ta (some ⟨mg, 0, none⟩) tn tc (cn + 1) mc (moreF f y) ja n c fs bu w25 hfm hx) ?_
            clear F ac
            rintro e w39 ⟨ra38, rn38, rc38, rfl, hR38, g⟩
            have hlR38 := hR38.len
            have hltR38 := hR38.lt
            refine ⟨_, rfl, ?_⟩
            intro ac F
            replace G := G.trans g
            replace hC := hC.gr g
            replace hf := hf.gr g
            replace hx := hx.gr g
            replace hfm := hfm.gr g
            clear g
            refine Y.pval F (X.w0 rfl) rfl (X.move rfl (F.ev 102 (.tuple #[.slice ra38 rn38 rc38, .int .i64 (reachE (moreF f y) fs bu)]) (by kernel_rfl))) ?_
            clear F ac
            intro ac F
            refine Y.pval F (X.w0 rfl) rfl (X.extract rfl (F.ev 96 (.tuple #[.slice ra38 rn38 rc38, .int .i64 (reachE (moreF f y) fs bu)]) (by kernel_rfl)) rfl) ?_
            clear F ac
            intro ac F
            refine Y.pval F (X.w0 rfl) rfl (X.extract rfl (F.ev 96 (.tuple #[.slice ra38 rn38 rc38, .int .i64 (reachE (moreF f y) fs bu)]) (by kernel_rfl)) rfl) ?_
            clear F ac
            intro ac F
            refine Y.pval F (X.w0 rfl) rfl (X.assign rfl (F.ev 103 (.slice ra38 rn38 rc38) (by kernel_rfl))) ?_
            clear F ac
            intro ac F
            refine Y.pval F (X.w0 rfl) rfl (X.assign rfl (F.ev 104 (.int .i64 (reachE (moreF f y) fs bu)) (by kernel_rfl))) ?_
            clear F ac
            intro ac F
            refine Y.nil ?_
            replace F : Fr ac 147 [(0, .agg #[.slice ta tn tc, .slice ca cn cc]), (1, .agg #[.int .i64 y.a, .int .i64 y.va, .int .i64 y.b, .int .i64 y.vb]), (2, .agg #[.slice ja n c, .slice jb j3 j4, .int .i64 bu, .int .i64 dn, .slice jc j5 j6]), (3, .pointer (some ⟨w.heap.size, 0, none⟩)), (4, .pointer (some ⟨w3.heap.size, 0, none⟩)), (5, .pointer (some ⟨w4.heap.size, 0, none⟩)), (6, .bool false), (7, .pointer (some ⟨mb, 0, none⟩)), (8, .int .i64 (cntV f)), (9, .int .i64 (reachE (moreF f y) fs bu)), (10, .int .i64 (cntV (moreF f y))), (11, .int .i64 (wE (moreF f y) fs)), (13, .bool true), (15, .bool true), (16, .slice ra38 rn38 rc38), (40, .bool false), (62, .bool false), (88, .bool false), (94, .bool false)] := F.sub _ (by kernel_rfl)
            refine X.thenN ?_
            refine Y.seq ?_
            refine Y.lit (by kernel_rfl) ?_
            refine Y.pval F (X.w0 rfl) rfl (X.load rfl (F.ev 3 (.pointer (some ⟨w.heap.size, 0, none⟩)) (by kernel_rfl)) (X.ldN (Try.agg25 _) (Try.siz25 _) (X.c2 (hC.at 0 rfl) (hC.at 1 rfl)))) ?_
            clear F ac
            intro ac F
            refine Y.pval F (X.w0 rfl) rfl (X.field rfl (F.ev 5 (.pointer (some ⟨w4.heap.size, 0, none⟩)) (by kernel_rfl)) (X.fld Try.underlying41 rfl (Try.siz26 _) rfl rfl)) ?_
            clear F ac
            intro ac F
            refine Y.pval F (X.w0 rfl) rfl (X.load rfl (F.ev 107 (.pointer (some ⟨w4.heap.size, 0, none⟩)) (by kernel_rfl)) (X.ld1 (Try.agg26 _) (hC.at 6 rfl))) ?_
            clear F ac
            intro ac F
            refine Y.pval F (X.w0 rfl) rfl (X.field rfl (F.ev 5 (.pointer (some ⟨w4.heap.size, 0, none⟩)) (by kernel_rfl)) (X.fld Try.underlying41 rfl (Try.siz3 _) rfl rfl)) ?_
            clear F ac
            intro ac F
            refine Y.pval F (X.w0 rfl) rfl (X.load rfl (F.ev 109 (.pointer (some ⟨w4.heap.size, 2, none⟩)) (by kernel_rfl)) (X.ld1 (Try.agg3 _) (hC.at 8 rfl))) ?_
            clear F ac
            intro ac F
            refine Y.pcall F (X.w0 rfl) rfl (X.enter (F := 44) rfl (X.kc (.func (.func 44) #[] #[]) rfl) (X.a3 (F.ev 106 (.agg #[.slice ta tn tc, .slice ca cn cc]) (by kernel_rfl)) (F.ev 108 (.slice ja n c) (by kernel_rfl)) (F.ev 110 (.int .i64 bu) (by kernel_rfl))) (enters_of Try.func44 (by kernel_rfl) rfl _)) (reach_any ta ca tn tc cn cc f ja n c fs bu w39 hf hx) ?_
            clear F ac
            rintro e w42 ⟨ra41, rn41, rc41, rfl, hR41, g⟩
            have hlR41 := hR41.len
            have hltR41 := hR41.lt
            refine ⟨_, rfl, ?_⟩
            intro ac F
            replace G := G.trans g
            replace hC := hC.gr g
            replace hf := hf.gr g
            replace hx := hx.gr g
            replace hfm := hfm.gr g
            replace hR38 := hR38.gr g
            clear g
            refine Y.pval F (X.w0 rfl) rfl (X.move rfl (F.ev 111 (.tuple #[.slice ra41 rn41 rc41, .int .i64 (reachE f fs bu)]) (by kernel_rfl))) ?_
            clear F ac
            intro ac F
            refine Y.pval F (X.w0 rfl) rfl (X.extract rfl (F.ev 105 (.tuple #[.slice ra41 rn41 rc41, .int .i64 (reachE f fs bu)]) (by kernel_rfl)) rfl) ?_
            clear F ac
            intro ac F
            refine Y.pval F (X.w0 rfl) rfl (X.extract rfl (F.ev 105 (.tuple #[.slice ra41 rn41 rc41, .int .i64 (reachE f fs bu)]) (by kernel_rfl)) rfl) ?_
            clear F ac
            intro ac F
            refine Y.pval F (X.w0 rfl) rfl (X.assign rfl (F.ev 112 (.slice ra41 rn41 rc41) (by kernel_rfl))) ?_
            clear F ac
            intro ac F
            refine Y.pval F (X.w0 rfl) rfl (X.assign rfl (F.ev 113 (.int .i64 (reachE f fs bu)) (by kernel_rfl))) ?_
            clear F ac
            intro ac F
            refine Y.nil ?_
            replace F : Fr ac 147 [(0, .agg #[.slice ta tn tc, .slice ca cn cc]), (1, .agg #[.int .i64 y.a, .int .i64 y.va, .int .i64 y.b, .int .i64 y.vb]), (2, .agg #[.slice ja n c, .slice jb j3 j4, .int .i64 bu, .int .i64 dn, .slice jc j5 j6]), (3, .pointer (some ⟨w.heap.size, 0, none⟩)), (4, .pointer (some ⟨w3.heap.size, 0, none⟩)), (5, .pointer (some ⟨w4.heap.size, 0, none⟩)), (6, .bool false), (7, .pointer (some ⟨mb, 0, none⟩)), (8, .int .i64 (cntV f)), (9, .int .i64 (reachE (moreF f y) fs bu)), (10, .int .i64 (cntV (moreF f y))), (11, .int .i64 (reachE f fs bu)), (13, .bool true), (15, .bool true), (16, .slice ra38 rn38 rc38), (17, .slice ra41 rn41 rc41), (40, .bool false), (62, .bool false), (88, .bool false), (94, .bool false)] := F.sub _ (by kernel_rfl)
            refine X.thenN ?_
            refine Y.seq ?_
            refine Y.seq ?_
            refine Y.lit (by kernel_rfl) ?_
            refine Y.pval F (X.w0 rfl) rfl (X.move rfl (F.ev 9 (.int .i64 (reachE (moreF f y) fs bu)) (by kernel_rfl))) ?_
            clear F ac
            intro ac F
            refine Y.pval F (X.w0 rfl) rfl (X.move rfl (F.ev 11 (.int .i64 (reachE f fs bu)) (by kernel_rfl))) ?_
            clear F ac
            intro ac F
            refine Y.pval F (X.w0 rfl) rfl (X.binop rfl (F.ev 114 (.int .i64 (reachE (moreF f y) fs bu)) (by kernel_rfl)) (F.ev 115 (.int .i64 (reachE f fs bu)) (by kernel_rfl)) (X.neqI Try.underlying31 rfl)) ?_
            clear F ac
            intro ac F
            refine Y.nil ?_
            replace F : Fr ac 147 [(0, .agg #[.slice ta tn tc, .slice ca cn cc]), (1, .agg #[.int .i64 y.a, .int .i64 y.va, .int .i64 y.b, .int .i64 y.vb]), (2, .agg #[.slice ja n c, .slice jb j3 j4, .int .i64 bu, .int .i64 dn, .slice jc j5 j6]), (3, .pointer (some ⟨w.heap.size, 0, none⟩)), (4, .pointer (some ⟨w3.heap.size, 0, none⟩)), (5, .pointer (some ⟨w4.heap.size, 0, none⟩)), (6, .bool false), (7, .pointer (some ⟨mb, 0, none⟩)), (8, .int .i64 (cntV f)), (9, .int .i64 (reachE (moreF f y) fs bu)), (10, .int .i64 (cntV (moreF f y))), (11, .int .i64 (reachE f fs bu)), (13, .bool true), (15, .bool true), (16, .slice ra38 rn38 rc38), (17, .slice ra41 rn41 rc41), (40, .bool false), (62, .bool false), (88, .bool false), (94, .bool false), (116, .bool ((reachE (moreF f y) fs bu : Int) != (reachE f fs bu)))] := F.sub _ (by kernel_rfl)
            refine X.thenN ?_
            have hRE := reachE_clash (xs := fs) (bu := bu) hE0 hE1 (wB_works hwm)
            have hSub := reach_clash hRE
            have h44 : ((reachE (moreF f y) fs bu : Int) != (reachE f fs bu)) = false := by rw [hRE]; simp
            try rw [h44] at F
            refine Y.condF (F.ev 116 (.bool false) (by kernel_rfl)) ?_
            refine Y.skip ?_
            refine X.thenN ?_
            refine Y.seq ?_
            refine Y.lit (by kernel_rfl) ?_
            refine Y.pval F (X.w0 rfl) rfl (X.assign rfl (X.kc (.int .i64 0) rfl)) ?_
            clear F ac
            intro ac F
            refine Y.nil ?_
            replace F : Fr ac 147 [(0, .agg #[.slice ta tn tc, .slice ca cn cc]), (1, .agg #[.int .i64 y.a, .int .i64 y.va, .int .i64 y.b, .int .i64 y.vb]), (2, .agg #[.slice ja n c, .slice jb j3 j4, .int .i64 bu, .int .i64 dn, .slice jc j5 j6]), (3, .pointer (some ⟨w.heap.size, 0, none⟩)), (4, .pointer (some ⟨w3.heap.size, 0, none⟩)), (5, .pointer (some ⟨w4.heap.size, 0, none⟩)), (6, .bool false), (7, .pointer (some ⟨mb, 0, none⟩)), (8, .int .i64 (cntV f)), (9, .int .i64 (reachE (moreF f y) fs bu)), (10, .int .i64 (cntV (moreF f y))), (11, .int .i64 (reachE f fs bu)), (13, .bool true), (15, .bool true), (16, .slice ra38 rn38 rc38), (17, .slice ra41 rn41 rc41), (18, .int .i64 0), (40, .bool false), (62, .bool false), (88, .bool false), (94, .bool false), (116, .bool false)] := F.sub _ (by kernel_rfl)
            refine X.thenN ?_
            refine Y.seq ?_
            refine Y.seq ?_
            refine Y.lit (by kernel_rfl) ?_
            refine Y.pval F (X.w0 rfl) rfl (X.assign rfl (X.kc (.int .i64 0) rfl)) ?_
            clear F ac
            intro ac F
            refine Y.nil ?_
            replace F : Fr ac 147 [(0, .agg #[.slice ta tn tc, .slice ca cn cc]), (1, .agg #[.int .i64 y.a, .int .i64 y.va, .int .i64 y.b, .int .i64 y.vb]), (2, .agg #[.slice ja n c, .slice jb j3 j4, .int .i64 bu, .int .i64 dn, .slice jc j5 j6]), (3, .pointer (some ⟨w.heap.size, 0, none⟩)), (4, .pointer (some ⟨w3.heap.size, 0, none⟩)), (5, .pointer (some ⟨w4.heap.size, 0, none⟩)), (6, .bool false), (7, .pointer (some ⟨mb, 0, none⟩)), (8, .int .i64 (cntV f)), (9, .int .i64 (reachE (moreF f y) fs bu)), (10, .int .i64 (cntV (moreF f y))), (11, .int .i64 (reachE f fs bu)), (13, .bool true), (15, .bool true), (16, .slice ra38 rn38 rc38), (17, .slice ra41 rn41 rc41), (18, .int .i64 0), (19, .int .i64 0), (40, .bool false), (62, .bool false), (88, .bool false), (94, .bool false), (116, .bool false)] := F.sub _ (by kernel_rfl)
            refine X.thenN ?_
            refine Y.block ?_
            have hfB := hf
            have hxB := hx
            have hfmB := hfm
            have hR38B := hR38
            have hR41B := hR41
            have hCB := hC
            have GB := G
            refine Y.loop (fun me_ ac wr => ∃ (k i : Nat), me_ = rn41 - i ∧ Gr w42 wr ∧ k ≤ rn38 ∧ i ≤ rn41 ∧ ((reachR (moreF f y) fs bu).drop k).Sublist ((reachR f fs bu).drop i) ∧ Fr ac 147 [(0, .agg #[.slice ta tn tc, .slice ca cn cc]), (1, .agg #[.int .i64 y.a, .int .i64 y.va, .int .i64 y.b, .int .i64 y.vb]), (2, .agg #[.slice ja n c, .slice jb j3 j4, .int .i64 bu, .int .i64 dn, .slice jc j5 j6]), (3, .pointer (some ⟨w.heap.size, 0, none⟩)), (4, .pointer (some ⟨w3.heap.size, 0, none⟩)), (5, .pointer (some ⟨w4.heap.size, 0, none⟩)), (6, .bool false), (7, .pointer (some ⟨mb, 0, none⟩)), (8, .int .i64 (cntV f)), (9, .int .i64 (reachE (moreF f y) fs bu)), (10, .int .i64 (cntV (moreF f y))), (11, .int .i64 (reachE f fs bu)), (13, .bool true), (15, .bool true), (16, .slice ra38 rn38 rc38), (17, .slice ra41 rn41 rc41), (18, .int .i64 k), (19, .int .i64 i), (40, .bool false), (62, .bool false), (88, .bool false), (94, .bool false), (116, .bool false)]) _ ⟨0, 0, rfl, Gr.refl _, Nat.zero_le _, Nat.zero_le _, by simpa using hSub, F.sub _ (by kernel_rfl)⟩ ?_
            clear F
            intro me_ ac w45 hI
            obtain ⟨k, i, rfl, gr, hk, hii, hsub, F⟩ := hI
            replace G := GB.trans gr
            replace hC := hCB.gr gr
            replace hf := hfB.gr gr
            replace hx := hxB.gr gr
            replace hfm := hfmB.gr gr
            replace hR38 := hR38B.gr gr
            replace hR41 := hR41B.gr gr
            have GB_ := gr
            clear gr
            refine Y.seq ?_
            refine Y.seq ?_
            refine Y.lit (by kernel_rfl) ?_
            refine Y.pval F (X.w0 rfl) rfl (X.move rfl (F.ev 19 (.int .i64 i) (by kernel_rfl))) ?_
            clear F ac
            intro ac F
            refine Y.pval F (X.w0 rfl) rfl (X.move rfl (F.ev 17 (.slice ra41 rn41 rc41) (by kernel_rfl))) ?_
            clear F ac
            intro ac F
            refine Y.pval F (X.w0 rfl) rfl (X.len1 Try.underlying22 rfl (F.ev 118 (.slice ra41 rn41 rc41) (by kernel_rfl))) ?_
            clear F ac
            intro ac F
            refine Y.pval F (X.w0 rfl) rfl (X.binop rfl (F.ev 117 (.int .i64 i) (by kernel_rfl)) (F.ev 119 (.int .i64 rn41) (by kernel_rfl)) (X.lssI Try.underlying3 rfl)) ?_
            clear F ac
            intro ac F
            refine Y.nil ?_
            replace F : Fr ac 147 [(0, .agg #[.slice ta tn tc, .slice ca cn cc]), (1, .agg #[.int .i64 y.a, .int .i64 y.va, .int .i64 y.b, .int .i64 y.vb]), (2, .agg #[.slice ja n c, .slice jb j3 j4, .int .i64 bu, .int .i64 dn, .slice jc j5 j6]), (3, .pointer (some ⟨w.heap.size, 0, none⟩)), (4, .pointer (some ⟨w3.heap.size, 0, none⟩)), (5, .pointer (some ⟨w4.heap.size, 0, none⟩)), (6, .bool false), (7, .pointer (some ⟨mb, 0, none⟩)), (8, .int .i64 (cntV f)), (9, .int .i64 (reachE (moreF f y) fs bu)), (10, .int .i64 (cntV (moreF f y))), (11, .int .i64 (reachE f fs bu)), (13, .bool true), (15, .bool true), (16, .slice ra38 rn38 rc38), (17, .slice ra41 rn41 rc41), (18, .int .i64 k), (19, .int .i64 i), (40, .bool false), (62, .bool false), (88, .bool false), (94, .bool false), (116, .bool false), (120, .bool (decide ((i : Int) < rn41)))] := F.sub _ (by kernel_rfl)
            refine X.thenN ?_
            cases h46 : decide ((i : Int) < rn41) with
            | false =>
              try rw [h46] at F
              have h46p : ¬ ((i : Int) < rn41) := of_decide_eq_false h46
              have hkE := scan_end (few := (reachR (moreF f y) fs bu)) (many := (reachR f fs bu)) (by omega) (by omega) hsub
              refine Y.condF (F.ev 120 (.bool false) (by kernel_rfl)) ?_
              refine Y.exit ?_
              refine X.thenX ?_
              refine X.thenX ?_
              refine X.blockX ?_
              refine X.thenN ?_
              refine Y.seq ?_
              refine Y.lit (by kernel_rfl) ?_
              refine Y.pval F (X.w0 rfl) rfl (X.move rfl (F.ev 18 (.int .i64 k) (by kernel_rfl))) ?_
              clear F ac
              intro ac F
              refine Y.pval F (X.w0 rfl) rfl (X.move rfl (F.ev 16 (.slice ra38 rn38 rc38) (by kernel_rfl))) ?_
              clear F ac
              intro ac F
              refine Y.pval F (X.w0 rfl) rfl (X.len1 Try.underlying22 rfl (F.ev 141 (.slice ra38 rn38 rc38) (by kernel_rfl))) ?_
              clear F ac
              intro ac F
              refine Y.pval F (X.w0 rfl) rfl (X.binop rfl (F.ev 140 (.int .i64 k) (by kernel_rfl)) (F.ev 142 (.int .i64 rn38) (by kernel_rfl)) (X.eqlI Try.underlying3 rfl)) ?_
              clear F ac
              intro ac F
              refine Y.pval F (X.w0 rfl) rfl (X.move rfl (F.ev 143 (.bool ((k : Int) == rn38)) (by kernel_rfl))) ?_
              clear F ac
              intro ac F
              have h48 : ((k : Int) == rn38) = true := by simp; omega
              try rw [h48] at F
              refine Y.pcall F (X.w1 rfl (F.yl (j := 4) (d := 144) (b := true) rfl (by kernel_rfl))) rfl (X.enter (F := 16) rfl (X.kc (.func (.func 16) #[] #[]) rfl) rfl (enters_of Try.func16 (by kernel_rfl) rfl _)) (look_any w45) ?_
              clear F ac
              rintro e w50 ⟨rfl, g⟩
              refine ⟨_, rfl, ?_⟩
              intro ac F
              replace G := G.trans g
              replace hC := hC.gr g
              replace GB_ := GB_.trans g
              replace hf := hf.gr g
              replace hx := hx.gr g
              replace hfm := hfm.gr g
              replace hR38 := hR38.gr g
              replace hR41 := hR41.gr g
              clear g
              refine Y.pval F (X.w0 rfl) rfl (X.pickT rfl (F.ev 144 (.bool true) (by kernel_rfl)) (F.ev 145 (.bool true) (by kernel_rfl))) ?_
              clear F ac
              intro ac F
              refine Y.pval F (X.w0 rfl) rfl (X.assign rfl (F.ev 146 (.bool true) (by kernel_rfl))) ?_
              clear F ac
              intro ac F
              refine Y.nil ?_
              replace F : Fr ac 147 [(0, .agg #[.slice ta tn tc, .slice ca cn cc]), (1, .agg #[.int .i64 y.a, .int .i64 y.va, .int .i64 y.b, .int .i64 y.vb]), (2, .agg #[.slice ja n c, .slice jb j3 j4, .int .i64 bu, .int .i64 dn, .slice jc j5 j6]), (3, .pointer (some ⟨w.heap.size, 0, none⟩)), (4, .pointer (some ⟨w3.heap.size, 0, none⟩)), (5, .pointer (some ⟨w4.heap.size, 0, none⟩)), (6, .bool true), (7, .pointer (some ⟨mb, 0, none⟩)), (8, .int .i64 (cntV f)), (9, .int .i64 (reachE (moreF f y) fs bu)), (10, .int .i64 (cntV (moreF f y))), (11, .int .i64 (reachE f fs bu)), (13, .bool true), (15, .bool true), (16, .slice ra38 rn38 rc38), (17, .slice ra41 rn41 rc41), (18, .int .i64 k), (19, .int .i64 i), (40, .bool false), (62, .bool false), (88, .bool false), (94, .bool false), (116, .bool false), (120, .bool false)] := F.sub _ (by kernel_rfl)
              refine X.thenN ?_
              refine Y.ret ?_
              exact Y.ret0 F (Y.rs1 F rfl (by kernel_rfl)) ⟨rfl, G⟩
            | true =>
              try rw [h46] at F
              have h46p : ((i : Int) < rn41) := of_decide_eq_true h46
              refine Y.condT (F.ev 120 (.bool true) (by kernel_rfl)) ?_
              refine Y.skip ?_
              refine X.thenN ?_
              refine Y.seq ?_
              refine Y.block ?_
              refine Y.seq ?_
              cases h51 : decide ((k : Int) < rn38) with
              | false =>
                try rw [h51] at F
                have h51p : ¬ ((k : Int) < rn38) := of_decide_eq_false h51
                have hsc := scan_out (few := (reachR (moreF f y) fs bu)) (many := (reachR f fs bu)) (k := k) (i := i + 1) (by omega)
                refine Y.region F [some (.int .i64 k), some (.slice ra38 rn38 rc38), some (.int .i64 rn38), some (.bool false), some (.bool false), none, none, none, none, none, none, none, none, none, some (.bool false)] [] rfl ⟨by kernel_rfl, of_decide_eq_true (by kernel_rfl), by kernel_rfl, by kernel_rfl, by kernel_rfl⟩ ⟨?_, ?_, ?_, ?_, ?_, ?_, ?_, ?_, ?_, ?_, ?_, ?_, ?_, ?_, ?_, trivial⟩ ?_
                · intro ac done u W Sx hR
                  have g : Gr w45 W := hR.1
                  exact X.val (X.w0 rfl) rfl (X.move rfl (Sx.ev 18 (.int .i64 k) (by kernel_rfl))) (hR.step (Gr.refl _) rfl)
                · intro ac done u W Sx hR
                  have g : Gr w45 W := hR.1
                  exact X.val (X.w0 rfl) rfl (X.move rfl (Sx.ev 16 (.slice ra38 rn38 rc38) (by kernel_rfl))) (hR.step (Gr.refl _) rfl)
                · intro ac done u W Sx hR
                  have g : Gr w45 W := hR.1
                  exact X.val (X.w0 rfl) rfl (X.len1 Try.underlying22 rfl (Sx.ev 124 (.slice ra38 rn38 rc38) (by kernel_rfl))) (hR.step (Gr.refl _) rfl)
                · intro ac done u W Sx hR
                  have g : Gr w45 W := hR.1
                  exact X.val (X.w0 rfl) rfl (X.binop rfl (Sx.ev 123 (.int .i64 k) (by kernel_rfl)) (Sx.ev 125 (.int .i64 rn38) (by kernel_rfl)) (X.lssI Try.underlying3 h51)) (hR.step (Gr.refl _) rfl)
                · intro ac done u W Sx hR
                  have g : Gr w45 W := hR.1
                  exact X.val (X.w0 rfl) rfl (X.move rfl (Sx.ev 126 (.bool false) (by kernel_rfl))) (hR.step (Gr.refl _) rfl)
                · intro ac done u W Sx hR
                  have g : Gr w45 W := hR.1
                  exact X.skip (X.w2 rfl (Sx.yl 4 127 false (by kernel_rfl) rfl rfl) rfl) rfl (hR.skip rfl)
                · intro ac done u W Sx hR
                  have g : Gr w45 W := hR.1
                  exact X.skip (X.w2 rfl (Sx.yl 4 127 false (by kernel_rfl) rfl rfl) rfl) rfl (hR.skip rfl)
                · intro ac done u W Sx hR
                  have g : Gr w45 W := hR.1
                  exact X.skip (X.w2 rfl (Sx.yl 4 127 false (by kernel_rfl) rfl rfl) rfl) rfl (hR.skip rfl)
                · intro ac done u W Sx hR
                  have g : Gr w45 W := hR.1
                  exact X.skip (X.w2 rfl (Sx.yl 4 127 false (by kernel_rfl) rfl rfl) rfl) rfl (hR.skip rfl)
                · intro ac done u W Sx hR
                  have g : Gr w45 W := hR.1
                  exact X.skip (X.w2 rfl (Sx.yl 4 127 false (by kernel_rfl) rfl rfl) rfl) rfl (hR.skip rfl)
                · intro ac done u W Sx hR
                  have g : Gr w45 W := hR.1
                  exact X.skip (X.w2 rfl (Sx.yl 4 127 false (by kernel_rfl) rfl rfl) rfl) rfl (hR.skip rfl)
                · intro ac done u W Sx hR
                  have g : Gr w45 W := hR.1
                  exact X.skip (X.w2 rfl (Sx.yl 4 127 false (by kernel_rfl) rfl rfl) rfl) rfl (hR.skip rfl)
                · intro ac done u W Sx hR
                  have g : Gr w45 W := hR.1
                  exact X.skip (X.w2 rfl (Sx.yl 4 127 false (by kernel_rfl) rfl rfl) rfl) rfl (hR.skip rfl)
                · intro ac done u W Sx hR
                  have g : Gr w45 W := hR.1
                  exact X.skip (X.w2 rfl (Sx.yl 4 127 false (by kernel_rfl) rfl rfl) rfl) rfl (hR.skip rfl)
                · intro ac done u W Sx hR
                  have g : Gr w45 W := hR.1
                  exact X.val (X.w0 rfl) rfl (X.pickF rfl (Sx.ev 127 (.bool false) (by kernel_rfl)) (X.kc (.bool false) rfl)) (hR.step (Gr.refl _) rfl)
                intro ac u w52 hs hd hl ho hR
                have g : Gr w45 w52 := hR.1
                replace F : Fr ac 147 [(0, .agg #[.slice ta tn tc, .slice ca cn cc]), (1, .agg #[.int .i64 y.a, .int .i64 y.va, .int .i64 y.b, .int .i64 y.vb]), (2, .agg #[.slice ja n c, .slice jb j3 j4, .int .i64 bu, .int .i64 dn, .slice jc j5 j6]), (3, .pointer (some ⟨w.heap.size, 0, none⟩)), (4, .pointer (some ⟨w3.heap.size, 0, none⟩)), (5, .pointer (some ⟨w4.heap.size, 0, none⟩)), (6, .bool false), (7, .pointer (some ⟨mb, 0, none⟩)), (8, .int .i64 (cntV f)), (9, .int .i64 (reachE (moreF f y) fs bu)), (10, .int .i64 (cntV (moreF f y))), (11, .int .i64 (reachE f fs bu)), (13, .bool true), (15, .bool true), (16, .slice ra38 rn38 rc38), (17, .slice ra41 rn41 rc41), (18, .int .i64 k), (19, .int .i64 i), (40, .bool false), (62, .bool false), (88, .bool false), (94, .bool false), (116, .bool false), (120, .bool true), (137, .bool false)] := X.fr hs hd hl _ (by kernel_rfl)
                clear hs hd hl ho hR
                replace G := G.trans g
                replace hC := hC.gr g
                replace GB_ := GB_.trans g
                replace hf := hf.gr g
                replace hx := hx.gr g
                replace hfm := hfm.gr g
                replace hR38 := hR38.gr g
                replace hR41 := hR41.gr g
                clear g
                refine X.thenN ?_
                refine Y.condF (F.ev 137 (.bool false) (by kernel_rfl)) ?_
                refine Y.skip ?_
                refine X.blockN ?_
                refine X.thenN ?_
                refine Y.lit (by kernel_rfl) ?_
                refine Y.pval F (X.w0 rfl) rfl (X.move rfl (F.ev 19 (.int .i64 i) (by kernel_rfl))) ?_
                clear F ac
                intro ac F
                refine Y.pval F (X.w0 rfl) rfl (X.binop rfl (F.ev 121 (.int .i64 i) (by kernel_rfl)) (X.kc (.int .i64 1) rfl) (X.addI Try.underlying3 rfl (by omega) (by omega))) ?_
                clear F ac
                intro ac F
                refine Y.pval F (X.w0 rfl) rfl (X.assign rfl (F.ev 122 (.int .i64 ((i : Int) + 1)) (by kernel_rfl))) ?_
                clear F ac
                intro ac F
                refine Y.nil ?_
                replace F : Fr ac 147 [(0, .agg #[.slice ta tn tc, .slice ca cn cc]), (1, .agg #[.int .i64 y.a, .int .i64 y.va, .int .i64 y.b, .int .i64 y.vb]), (2, .agg #[.slice ja n c, .slice jb j3 j4, .int .i64 bu, .int .i64 dn, .slice jc j5 j6]), (3, .pointer (some ⟨w.heap.size, 0, none⟩)), (4, .pointer (some ⟨w3.heap.size, 0, none⟩)), (5, .pointer (some ⟨w4.heap.size, 0, none⟩)), (6, .bool false), (7, .pointer (some ⟨mb, 0, none⟩)), (8, .int .i64 (cntV f)), (9, .int .i64 (reachE (moreF f y) fs bu)), (10, .int .i64 (cntV (moreF f y))), (11, .int .i64 (reachE f fs bu)), (13, .bool true), (15, .bool true), (16, .slice ra38 rn38 rc38), (17, .slice ra41 rn41 rc41), (18, .int .i64 k), (19, .int .i64 ((i : Int) + 1)), (40, .bool false), (62, .bool false), (88, .bool false), (94, .bool false), (116, .bool false), (120, .bool true), (137, .bool false)] := F.sub _ (by kernel_rfl)
                refine X.thenN ?_
                refine ⟨_, ?_, k, i + 1, rfl, GB_, by omega, by omega, hsc, F.sub _ (by kernel_rfl)⟩
                omega
              | true =>
                try rw [h51] at F
                have h51p : ((k : Int) < rn38) := of_decide_eq_true h51
                obtain ⟨pd53, pa53, rn53, pq53, pe53, -, pc53, pi53⟩ := hR41.at (j := i) (by omega)
                subst pe53
                replace hC : RCells w45 [(⟨w.heap.size, 0, none⟩, .slice ta tn tc), (⟨w.heap.size, 1, none⟩, .slice ca cn cc), (⟨w3.heap.size, 0, none⟩, .int .i64 y.a), (⟨w3.heap.size, 1, none⟩, .int .i64 y.va), (⟨w3.heap.size, 2, none⟩, .int .i64 y.b), (⟨w3.heap.size, 3, none⟩, .int .i64 y.vb), (⟨w4.heap.size, 0, none⟩, .slice ja n c), (⟨w4.heap.size, 1, none⟩, .slice jb j3 j4), (⟨w4.heap.size, 2, none⟩, .int .i64 bu), (⟨w4.heap.size, 3, none⟩, .int .i64 dn), (⟨w4.heap.size, 4, none⟩, .slice jc j5 j6), (⟨mb, 0, none⟩, .slice ta tn tc), (⟨mb, 1, none⟩, .slice (some ⟨mg, 0, none⟩) (cn + 1) mc), (pd53.add i, .slice pa53 rn53 pq53)] := hC.append ((RCells.cons pc53 (RCells.nil _)))
                clear pc53
                obtain ⟨pd54, pa54, rn54, pq54, pe54, -, pc54, pi54⟩ := hR38.at (j := k) (by omega)
                subst pe54
                replace hC : RCells w45 [(⟨w.heap.size, 0, none⟩, .slice ta tn tc), (⟨w.heap.size, 1, none⟩, .slice ca cn cc), (⟨w3.heap.size, 0, none⟩, .int .i64 y.a), (⟨w3.heap.size, 1, none⟩, .int .i64 y.va), (⟨w3.heap.size, 2, none⟩, .int .i64 y.b), (⟨w3.heap.size, 3, none⟩, .int .i64 y.vb), (⟨w4.heap.size, 0, none⟩, .slice ja n c), (⟨w4.heap.size, 1, none⟩, .slice jb j3 j4), (⟨w4.heap.size, 2, none⟩, .int .i64 bu), (⟨w4.heap.size, 3, none⟩, .int .i64 dn), (⟨w4.heap.size, 4, none⟩, .slice jc j5 j6), (⟨mb, 0, none⟩, .slice ta tn tc), (⟨mb, 1, none⟩, .slice (some ⟨mg, 0, none⟩) (cn + 1) mc), (pd53.add i, .slice pa53 rn53 pq53), (pd54.add k, .slice pa54 rn54 pq54)] := hC.append ((RCells.cons pc54 (RCells.nil _)))
                clear pc54
                refine Y.region F [some (.int .i64 k), some (.slice (some pd54) rn38 rc38), some (.int .i64 rn38), some (.bool true), some (.bool true), some (.slice (some pd53) rn41 rc41), some (.int .i64 i), some (.pointer (some (pd53.add i))), some (.slice pa53 rn53 pq53), some (.slice (some pd54) rn38 rc38), some (.int .i64 k), some (.pointer (some (pd54.add k))), some (.slice pa54 rn54 pq54), some (.bool (decide (((reachR f fs bu)[i]?.getD []) = ((reachR (moreF f y) fs bu)[k]?.getD [])))), some (.bool (decide (((reachR f fs bu)[i]?.getD []) = ((reachR (moreF f y) fs bu)[k]?.getD []))))] [] rfl ⟨by kernel_rfl, of_decide_eq_true (by kernel_rfl), by kernel_rfl, by kernel_rfl, by kernel_rfl⟩ ⟨?_, ?_, ?_, ?_, ?_, ?_, ?_, ?_, ?_, ?_, ?_, ?_, ?_, ?_, ?_, trivial⟩ ?_
                · intro ac done u W Sx hR
                  have g : Gr w45 W := hR.1
                  exact X.val (X.w0 rfl) rfl (X.move rfl (Sx.ev 18 (.int .i64 k) (by kernel_rfl))) (hR.step (Gr.refl _) rfl)
                · intro ac done u W Sx hR
                  have g : Gr w45 W := hR.1
                  exact X.val (X.w0 rfl) rfl (X.move rfl (Sx.ev 16 (.slice (some pd54) rn38 rc38) (by kernel_rfl))) (hR.step (Gr.refl _) rfl)
                · intro ac done u W Sx hR
                  have g : Gr w45 W := hR.1
                  exact X.val (X.w0 rfl) rfl (X.len1 Try.underlying22 rfl (Sx.ev 124 (.slice (some pd54) rn38 rc38) (by kernel_rfl))) (hR.step (Gr.refl _) rfl)
                · intro ac done u W Sx hR
                  have g : Gr w45 W := hR.1
                  exact X.val (X.w0 rfl) rfl (X.binop rfl (Sx.ev 123 (.int .i64 k) (by kernel_rfl)) (Sx.ev 125 (.int .i64 rn38) (by kernel_rfl)) (X.lssI Try.underlying3 h51)) (hR.step (Gr.refl _) rfl)
                · intro ac done u W Sx hR
                  have g : Gr w45 W := hR.1
                  exact X.val (X.w0 rfl) rfl (X.move rfl (Sx.ev 126 (.bool true) (by kernel_rfl))) (hR.step (Gr.refl _) rfl)
                · intro ac done u W Sx hR
                  have g : Gr w45 W := hR.1
                  exact X.val (X.w1 rfl (Sx.yl 4 127 true (by kernel_rfl) rfl rfl)) rfl (X.move rfl (Sx.ev 17 (.slice (some pd53) rn41 rc41) (by kernel_rfl))) (hR.step (Gr.refl _) rfl)
                · intro ac done u W Sx hR
                  have g : Gr w45 W := hR.1
                  exact X.val (X.w1 rfl (Sx.yl 4 127 true (by kernel_rfl) rfl rfl)) rfl (X.move rfl (Sx.ev 19 (.int .i64 i) (by kernel_rfl))) (hR.step (Gr.refl _) rfl)
                · intro ac done u W Sx hR
                  have g : Gr w45 W := hR.1
                  exact X.val (X.w1 rfl (Sx.yl 4 127 true (by kernel_rfl) rfl rfl)) rfl (X.index rfl (Sx.ev 128 (.slice (some pd53) rn41 rc41) (by kernel_rfl)) (Sx.ev 129 (.int .i64 i) (by kernel_rfl)) (X.idx (k := i) Try.underlying22 (Try.siz26 _) (by omega) (by omega) (by rw [Nat.mul_one]))) (hR.step (Gr.refl _) rfl)
                · intro ac done u W Sx hR
                  have g : Gr w45 W := hR.1
                  exact X.val (X.w1 rfl (Sx.yl 4 127 true (by kernel_rfl) rfl rfl)) rfl (X.load rfl (Sx.ev 130 (.pointer (some (pd53.add i))) (by kernel_rfl)) (X.ld1 (Try.agg26 _) ((hC.gr g).at 13 rfl))) (hR.step (Gr.refl _) rfl)
                · intro ac done u W Sx hR
                  have g : Gr w45 W := hR.1
                  exact X.val (X.w1 rfl (Sx.yl 4 127 true (by kernel_rfl) rfl rfl)) rfl (X.move rfl (Sx.ev 16 (.slice (some pd54) rn38 rc38) (by kernel_rfl))) (hR.step (Gr.refl _) rfl)
                · intro ac done u W Sx hR
                  have g : Gr w45 W := hR.1
                  exact X.val (X.w1 rfl (Sx.yl 4 127 true (by kernel_rfl) rfl rfl)) rfl (X.move rfl (Sx.ev 18 (.int .i64 k) (by kernel_rfl))) (hR.step (Gr.refl _) rfl)
                · intro ac done u W Sx hR
                  have g : Gr w45 W := hR.1
                  exact X.val (X.w1 rfl (Sx.yl 4 127 true (by kernel_rfl) rfl rfl)) rfl (X.index rfl (Sx.ev 132 (.slice (some pd54) rn38 rc38) (by kernel_rfl)) (Sx.ev 133 (.int .i64 k) (by kernel_rfl)) (X.idx (k := k) Try.underlying22 (Try.siz26 _) (by omega) (by omega) (by rw [Nat.mul_one]))) (hR.step (Gr.refl _) rfl)
                · intro ac done u W Sx hR
                  have g : Gr w45 W := hR.1
                  exact X.val (X.w1 rfl (Sx.yl 4 127 true (by kernel_rfl) rfl rfl)) rfl (X.load rfl (Sx.ev 134 (.pointer (some (pd54.add k))) (by kernel_rfl)) (X.ld1 (Try.agg26 _) ((hC.gr g).at 14 rfl))) (hR.step (Gr.refl _) rfl)
                · intro ac done u W Sx hR
                  have g : Gr w45 W := hR.1
                  refine X.call (X.w1 rfl (Sx.yl 4 127 true (by kernel_rfl) rfl rfl)) (X.enter (F := 22) rfl (X.kc (.func (.func 22) #[] #[]) rfl) (X.a2 (Sx.ev 131 (.slice pa53 rn53 pq53) (by kernel_rfl)) (Sx.ev 135 (.slice pa54 rn54 pq54) (by kernel_rfl))) (enters_of Try.func22 (by kernel_rfl) rfl _)) (sameInts_any pa53 pa54 rn53 pq53 rn54 pq54 ((reachR f fs bu)[i]?.getD []) ((reachR (moreF f y) fs bu)[k]?.getD []) W (pi53.gr g) (pi54.gr g)) ?_
                  rintro e W2 ⟨rfl, q, rfl⟩
                  exact ⟨_, rfl, X.kn rfl, hR.step (Gr.drewN _ _) rfl⟩
                · intro ac done u W Sx hR
                  have g : Gr w45 W := hR.1
                  exact X.val (X.w0 rfl) rfl (X.pickT rfl (Sx.ev 127 (.bool true) (by kernel_rfl)) (Sx.ev 136 (.bool (decide (((reachR f fs bu)[i]?.getD []) = ((reachR (moreF f y) fs bu)[k]?.getD [])))) (by kernel_rfl))) (hR.step (Gr.refl _) rfl)
                intro ac u w56 hs hd hl ho hR
                have g : Gr w45 w56 := hR.1
                replace F : Fr ac 147 [(0, .agg #[.slice ta tn tc, .slice ca cn cc]), (1, .agg #[.int .i64 y.a, .int .i64 y.va, .int .i64 y.b, .int .i64 y.vb]), (2, .agg #[.slice ja n c, .slice jb j3 j4, .int .i64 bu, .int .i64 dn, .slice jc j5 j6]), (3, .pointer (some ⟨w.heap.size, 0, none⟩)), (4, .pointer (some ⟨w3.heap.size, 0, none⟩)), (5, .pointer (some ⟨w4.heap.size, 0, none⟩)), (6, .bool false), (7, .pointer (some ⟨mb, 0, none⟩)), (8, .int .i64 (cntV f)), (9, .int .i64 (reachE (moreF f y) fs bu)), (10, .int .i64 (cntV (moreF f y))), (11, .int .i64 (reachE f fs bu)), (13, .bool true), (15, .bool true), (16, .slice (some pd54) rn38 rc38), (17, .slice (some pd53) rn41 rc41), (18, .int .i64 k), (19, .int .i64 i), (40, .bool false), (62, .bool false), (88, .bool false), (94, .bool false), (116, .bool false), (120, .bool true), (137, .bool (decide (((reachR f fs bu)[i]?.getD []) = ((reachR (moreF f y) fs bu)[k]?.getD []))))] := X.fr hs hd hl _ (by kernel_rfl)
                clear hs hd hl ho hR
                replace G := G.trans g
                replace hC := hC.gr g
                replace GB_ := GB_.trans g
                replace hf := hf.gr g
                replace hx := hx.gr g
                replace hfm := hfm.gr g
                replace hR38 := hR38.gr g
                replace hR41 := hR41.gr g
                replace pi53 := pi53.gr g
                replace pi54 := pi54.gr g
                clear g
                refine X.thenN ?_
                cases h57 : decide (((reachR f fs bu)[i]?.getD []) = ((reachR (moreF f y) fs bu)[k]?.getD [])) with
                | false =>
                  try rw [h57] at F
                  have hsc := scan_miss (few := (reachR (moreF f y) fs bu)) (many := (reachR f fs bu)) (k := k) (i := i) (by omega) (by omega) hsub (of_decide_eq_false h57)
                  refine Y.condF (F.ev 137 (.bool false) (by kernel_rfl)) ?_
                  refine Y.skip ?_
                  refine X.blockN ?_
                  refine X.thenN ?_
                  refine Y.lit (by kernel_rfl) ?_
                  refine Y.pval F (X.w0 rfl) rfl (X.move rfl (F.ev 19 (.int .i64 i) (by kernel_rfl))) ?_
                  clear F ac
                  intro ac F
                  refine Y.pval F (X.w0 rfl) rfl (X.binop rfl (F.ev 121 (.int .i64 i) (by kernel_rfl)) (X.kc (.int .i64 1) rfl) (X.addI Try.underlying3 rfl (by omega) (by omega))) ?_
                  clear F ac
                  intro ac F
                  refine Y.pval F (X.w0 rfl) rfl (X.assign rfl (F.ev 122 (.int .i64 ((i : Int) + 1)) (by kernel_rfl))) ?_
                  clear F ac
                  intro ac F
                  refine Y.nil ?_
                  replace F : Fr ac 147 [(0, .agg #[.slice ta tn tc, .slice ca cn cc]), (1, .agg #[.int .i64 y.a, .int .i64 y.va, .int .i64 y.b, .int .i64 y.vb]), (2, .agg #[.slice ja n c, .slice jb j3 j4, .int .i64 bu, .int .i64 dn, .slice jc j5 j6]), (3, .pointer (some ⟨w.heap.size, 0, none⟩)), (4, .pointer (some ⟨w3.heap.size, 0, none⟩)), (5, .pointer (some ⟨w4.heap.size, 0, none⟩)), (6, .bool false), (7, .pointer (some ⟨mb, 0, none⟩)), (8, .int .i64 (cntV f)), (9, .int .i64 (reachE (moreF f y) fs bu)), (10, .int .i64 (cntV (moreF f y))), (11, .int .i64 (reachE f fs bu)), (13, .bool true), (15, .bool true), (16, .slice (some pd54) rn38 rc38), (17, .slice (some pd53) rn41 rc41), (18, .int .i64 k), (19, .int .i64 ((i : Int) + 1)), (40, .bool false), (62, .bool false), (88, .bool false), (94, .bool false), (116, .bool false), (120, .bool true), (137, .bool false)] := F.sub _ (by kernel_rfl)
                  refine X.thenN ?_
                  refine ⟨_, ?_, k, i + 1, rfl, GB_, by omega, by omega, hsc, F.sub _ (by kernel_rfl)⟩
                  omega
                | true =>
                  try rw [h57] at F
                  have hsc := scan_hit (few := (reachR (moreF f y) fs bu)) (many := (reachR f fs bu)) (k := k) (i := i) (by omega) (by omega) hsub (of_decide_eq_true h57)
                  refine Y.condT (F.ev 137 (.bool true) (by kernel_rfl)) ?_
                  refine Y.lit (by kernel_rfl) ?_
                  refine Y.pval F (X.w0 rfl) rfl (X.move rfl (F.ev 18 (.int .i64 k) (by kernel_rfl))) ?_
                  clear F ac
                  intro ac F
                  refine Y.pval F (X.w0 rfl) rfl (X.binop rfl (F.ev 138 (.int .i64 k) (by kernel_rfl)) (X.kc (.int .i64 1) rfl) (X.addI Try.underlying3 rfl (by omega) (by omega))) ?_
                  clear F ac
                  intro ac F
                  refine Y.pval F (X.w0 rfl) rfl (X.assign rfl (F.ev 139 (.int .i64 ((k : Int) + 1)) (by kernel_rfl))) ?_
                  clear F ac
                  intro ac F
                  refine Y.nil ?_
                  replace F : Fr ac 147 [(0, .agg #[.slice ta tn tc, .slice ca cn cc]), (1, .agg #[.int .i64 y.a, .int .i64 y.va, .int .i64 y.b, .int .i64 y.vb]), (2, .agg #[.slice ja n c, .slice jb j3 j4, .int .i64 bu, .int .i64 dn, .slice jc j5 j6]), (3, .pointer (some ⟨w.heap.size, 0, none⟩)), (4, .pointer (some ⟨w3.heap.size, 0, none⟩)), (5, .pointer (some ⟨w4.heap.size, 0, none⟩)), (6, .bool false), (7, .pointer (some ⟨mb, 0, none⟩)), (8, .int .i64 (cntV f)), (9, .int .i64 (reachE (moreF f y) fs bu)), (10, .int .i64 (cntV (moreF f y))), (11, .int .i64 (reachE f fs bu)), (13, .bool true), (15, .bool true), (16, .slice (some pd54) rn38 rc38), (17, .slice (some pd53) rn41 rc41), (18, .int .i64 ((k : Int) + 1)), (19, .int .i64 i), (40, .bool false), (62, .bool false), (88, .bool false), (94, .bool false), (116, .bool false), (120, .bool true), (137, .bool true)] := F.sub _ (by kernel_rfl)
                  refine X.blockN ?_
                  refine X.thenN ?_
                  refine Y.lit (by kernel_rfl) ?_
                  refine Y.pval F (X.w0 rfl) rfl (X.move rfl (F.ev 19 (.int .i64 i) (by kernel_rfl))) ?_
                  clear F ac
                  intro ac F
                  refine Y.pval F (X.w0 rfl) rfl (X.binop rfl (F.ev 121 (.int .i64 i) (by kernel_rfl)) (X.kc (.int .i64 1) rfl) (X.addI Try.underlying3 rfl (by omega) (by omega))) ?_
                  clear F ac
                  intro ac F
                  refine Y.pval F (X.w0 rfl) rfl (X.assign rfl (F.ev 122 (.int .i64 ((i : Int) + 1)) (by kernel_rfl))) ?_
                  clear F ac
                  intro ac F
                  refine Y.nil ?_
                  replace F : Fr ac 147 [(0, .agg #[.slice ta tn tc, .slice ca cn cc]), (1, .agg #[.int .i64 y.a, .int .i64 y.va, .int .i64 y.b, .int .i64 y.vb]), (2, .agg #[.slice ja n c, .slice jb j3 j4, .int .i64 bu, .int .i64 dn, .slice jc j5 j6]), (3, .pointer (some ⟨w.heap.size, 0, none⟩)), (4, .pointer (some ⟨w3.heap.size, 0, none⟩)), (5, .pointer (some ⟨w4.heap.size, 0, none⟩)), (6, .bool false), (7, .pointer (some ⟨mb, 0, none⟩)), (8, .int .i64 (cntV f)), (9, .int .i64 (reachE (moreF f y) fs bu)), (10, .int .i64 (cntV (moreF f y))), (11, .int .i64 (reachE f fs bu)), (13, .bool true), (15, .bool true), (16, .slice (some pd54) rn38 rc38), (17, .slice (some pd53) rn41 rc41), (18, .int .i64 ((k : Int) + 1)), (19, .int .i64 ((i : Int) + 1)), (40, .bool false), (62, .bool false), (88, .bool false), (94, .bool false), (116, .bool false), (120, .bool true), (137, .bool true)] := F.sub _ (by kernel_rfl)
                  refine X.thenN ?_
                  refine ⟨_, ?_, k + 1, i + 1, rfl, GB_, by omega, by omega, hsc, F.sub _ (by kernel_rfl)⟩
                  omega
          | true =>
            try rw [h36] at F
            have h36p : ¬ (wE f fs : Int) = 0 := by simpa using h36
            refine Y.pskip F (X.w2 rfl (F.yl (j := 2) (d := 91) (b := true) rfl (by kernel_rfl)) rfl) rfl ?_
            clear F ac
            intro ac F
            refine Y.pskip F (X.w2 rfl (F.yl (j := 2) (d := 91) (b := true) rfl (by kernel_rfl)) rfl) rfl ?_
            clear F ac
            intro ac F
            refine Y.pval F (X.w0 rfl) rfl (X.pickT rfl (F.ev 91 (.bool true) (by kernel_rfl)) (X.kc (.bool true) rfl)) ?_
            clear F ac
            intro ac F
            refine Y.nil ?_
            replace F : Fr ac 147 [(0, .agg #[.slice ta tn tc, .slice ca cn cc]), (1, .agg #[.int .i64 y.a, .int .i64 y.va, .int .i64 y.b, .int .i64 y.vb]), (2, .agg #[.slice ja n c, .slice jb j3 j4, .int .i64 bu, .int .i64 dn, .slice jc j5 j6]), (3, .pointer (some ⟨w.heap.size, 0, none⟩)), (4, .pointer (some ⟨w3.heap.size, 0, none⟩)), (5, .pointer (some ⟨w4.heap.size, 0, none⟩)), (6, .bool false), (7, .pointer (some ⟨mb, 0, none⟩)), (8, .int .i64 (cntV f)), (9, .int .i64 (wE f fs)), (10, .int .i64 (cntV (moreF f y))), (11, .int .i64 (wE (moreF f y) fs)), (13, .bool true), (15, .bool true), (40, .bool false), (62, .bool false), (88, .bool false), (94, .bool true)] := F.sub _ (by kernel_rfl)
            refine X.thenN ?_
            refine Y.condT (F.ev 94 (.bool true) (by kernel_rfl)) ?_
            refine Y.seq ?_
            refine Y.lit (by kernel_rfl) ?_
            refine Y.pcall F (X.w0 rfl) rfl (X.enter (F := 16) rfl (X.kc (.func (.func 16) #[] #[]) rfl) rfl (enters_of Try.func16 (by kernel_rfl) rfl _)) (look_any w25) ?_
            clear F ac
            rintro e w59 ⟨rfl, g⟩
            refine ⟨_, rfl, ?_⟩
            intro ac F
            replace G := G.trans g
            replace hC := hC.gr g
            replace hf := hf.gr g
            replace hx := hx.gr g
            replace hfm := hfm.gr g
            clear g
            refine Y.pval F (X.w0 rfl) rfl (X.assign rfl (F.ev 95 (.bool true) (by kernel_rfl))) ?_
            clear F ac
            intro ac F
            refine Y.nil ?_
            replace F : Fr ac 147 [(0, .agg #[.slice ta tn tc, .slice ca cn cc]), (1, .agg #[.int .i64 y.a, .int .i64 y.va, .int .i64 y.b, .int .i64 y.vb]), (2, .agg #[.slice ja n c, .slice jb j3 j4, .int .i64 bu, .int .i64 dn, .slice jc j5 j6]), (3, .pointer (some ⟨w.heap.size, 0, none⟩)), (4, .pointer (some ⟨w3.heap.size, 0, none⟩)), (5, .pointer (some ⟨w4.heap.size, 0, none⟩)), (6, .bool true), (7, .pointer (some ⟨mb, 0, none⟩)), (8, .int .i64 (cntV f)), (9, .int .i64 (wE f fs)), (10, .int .i64 (cntV (moreF f y))), (11, .int .i64 (wE (moreF f y) fs)), (13, .bool true), (15, .bool true), (40, .bool false), (62, .bool false), (88, .bool false), (94, .bool true)] := F.sub _ (by kernel_rfl)
            refine X.thenN ?_
            refine Y.ret ?_
            refine X.thenR ?_
            exact Y.ret0 F (Y.rs1 F rfl (by kernel_rfl)) ⟨rfl, G⟩
      | true =>
        try rw [h15] at F
        have h15p : ¬ (chkE (moreF f y) : Int) = 0 := by simpa using h15
        refine Y.condT (F.ev 40 (.bool true) (by kernel_rfl)) ?_
        refine Y.seq ?_
        refine Y.lit (by kernel_rfl) ?_
        refine Y.pcall F (X.w0 rfl) rfl (X.enter (F := 16) rfl (X.kc (.func (.func 16) #[] #[]) rfl) rfl (enters_of Try.func16 (by kernel_rfl) rfl _)) (look_any w14) ?_
        clear F ac
        rintro e w61 ⟨rfl, g⟩
        refine ⟨_, rfl, ?_⟩
        intro ac F
        replace G := G.trans g
        replace hC := hC.gr g
        replace hf := hf.gr g
        replace hx := hx.gr g
        replace hfm := hfm.gr g
        clear g
        refine Y.pval F (X.w0 rfl) rfl (X.assign rfl (F.ev 41 (.bool true) (by kernel_rfl))) ?_
        clear F ac
        intro ac F
        refine Y.nil ?_
        replace F : Fr ac 147 [(0, .agg #[.slice ta tn tc, .slice ca cn cc]), (1, .agg #[.int .i64 y.a, .int .i64 y.va, .int .i64 y.b, .int .i64 y.vb]), (2, .agg #[.slice ja n c, .slice jb j3 j4, .int .i64 bu, .int .i64 dn, .slice jc j5 j6]), (3, .pointer (some ⟨w.heap.size, 0, none⟩)), (4, .pointer (some ⟨w3.heap.size, 0, none⟩)), (5, .pointer (some ⟨w4.heap.size, 0, none⟩)), (6, .bool true), (7, .pointer (some ⟨mb, 0, none⟩)), (40, .bool true)] := F.sub _ (by kernel_rfl)
        refine X.thenN ?_
        refine Y.ret ?_
        refine X.thenR ?_
        exact Y.ret0 F (Y.rs1 F rfl (by kernel_rfl)) ⟨rfl, G⟩
    | true =>
      try rw [h12] at F
      have h12p : ¬ (chkE f : Int) = 0 := by simpa using h12
      refine Y.pskip F (X.w2 rfl (F.yl (j := 7) (d := 36) (b := true) rfl (by kernel_rfl)) rfl) rfl ?_
      clear F ac
      intro ac F
      refine Y.pskip F (X.w2 rfl (F.yl (j := 7) (d := 36) (b := true) rfl (by kernel_rfl)) rfl) rfl ?_
      clear F ac
      intro ac F
      refine Y.pskip F (X.w2 rfl (F.yl (j := 7) (d := 36) (b := true) rfl (by kernel_rfl)) rfl) rfl ?_
      clear F ac
      intro ac F
      refine Y.pval F (X.w0 rfl) rfl (X.pickT rfl (F.ev 36 (.bool true) (by kernel_rfl)) (X.kc (.bool true) rfl)) ?_
      clear F ac
      intro ac F
      refine Y.nil ?_
      replace F : Fr ac 147 [(0, .agg #[.slice ta tn tc, .slice ca cn cc]), (1, .agg #[.int .i64 y.a, .int .i64 y.va, .int .i64 y.b, .int .i64 y.vb]), (2, .agg #[.slice ja n c, .slice jb j3 j4, .int .i64 bu, .int .i64 dn, .slice jc j5 j6]), (3, .pointer (some ⟨w.heap.size, 0, none⟩)), (4, .pointer (some ⟨w3.heap.size, 0, none⟩)), (5, .pointer (some ⟨w4.heap.size, 0, none⟩)), (6, .bool false), (7, .pointer (some ⟨mb, 0, none⟩)), (40, .bool true)] := F.sub _ (by kernel_rfl)
      refine X.thenN ?_
      refine Y.condT (F.ev 40 (.bool true) (by kernel_rfl)) ?_
      refine Y.seq ?_
      refine Y.lit (by kernel_rfl) ?_
      refine Y.pcall F (X.w0 rfl) rfl (X.enter (F := 16) rfl (X.kc (.func (.func 16) #[] #[]) rfl) rfl (enters_of Try.func16 (by kernel_rfl) rfl _)) (look_any w11) ?_
      clear F ac
      rintro e w63 ⟨rfl, g⟩
      refine ⟨_, rfl, ?_⟩
      intro ac F
      replace G := G.trans g
      replace hC := hC.gr g
      replace hf := hf.gr g
      replace hx := hx.gr g
      replace hfm := hfm.gr g
      clear g
      refine Y.pval F (X.w0 rfl) rfl (X.assign rfl (F.ev 41 (.bool true) (by kernel_rfl))) ?_
      clear F ac
      intro ac F
      refine Y.nil ?_
      replace F : Fr ac 147 [(0, .agg #[.slice ta tn tc, .slice ca cn cc]), (1, .agg #[.int .i64 y.a, .int .i64 y.va, .int .i64 y.b, .int .i64 y.vb]), (2, .agg #[.slice ja n c, .slice jb j3 j4, .int .i64 bu, .int .i64 dn, .slice jc j5 j6]), (3, .pointer (some ⟨w.heap.size, 0, none⟩)), (4, .pointer (some ⟨w3.heap.size, 0, none⟩)), (5, .pointer (some ⟨w4.heap.size, 0, none⟩)), (6, .bool true), (7, .pointer (some ⟨mb, 0, none⟩)), (40, .bool true)] := F.sub _ (by kernel_rfl)
      refine X.thenN ?_
      refine Y.ret ?_
      refine X.thenR ?_
      exact Y.ret0 F (Y.rs1 F rfl (by kernel_rfl)) ⟨rfl, G⟩
  | true =>
    try rw [h9] at F
    refine Y.pskip F (X.w2 rfl (F.yl (j := 2) (d := 31) (b := true) rfl (by kernel_rfl)) rfl) rfl ?_
    clear F ac
    intro ac F
    refine Y.pskip F (X.w2 rfl (F.yl (j := 2) (d := 31) (b := true) rfl (by kernel_rfl)) rfl) rfl ?_
    clear F ac
    intro ac F
    refine Y.pskip F (X.w2 rfl (F.yl (j := 2) (d := 31) (b := true) rfl (by kernel_rfl)) rfl) rfl ?_
    clear F ac
    intro ac F
    refine Y.pval F (X.w0 rfl) rfl (X.pickT rfl (F.ev 31 (.bool true) (by kernel_rfl)) (X.kc (.bool true) rfl)) ?_
    clear F ac
    intro ac F
    refine Y.pval F (X.w0 rfl) rfl (X.move rfl (F.ev 35 (.bool true) (by kernel_rfl))) ?_
    clear F ac
    intro ac F
    refine Y.pskip F (X.w2 rfl (F.yl (j := 7) (d := 36) (b := true) rfl (by kernel_rfl)) rfl) rfl ?_
    clear F ac
    intro ac F
    refine Y.pskip F (X.w2 rfl (F.yl (j := 7) (d := 36) (b := true) rfl (by kernel_rfl)) rfl) rfl ?_
    clear F ac
    intro ac F
    refine Y.pskip F (X.w2 rfl (F.yl (j := 7) (d := 36) (b := true) rfl (by kernel_rfl)) rfl) rfl ?_
    clear F ac
    intro ac F
    refine Y.pval F (X.w0 rfl) rfl (X.pickT rfl (F.ev 36 (.bool true) (by kernel_rfl)) (X.kc (.bool true) rfl)) ?_
    clear F ac
    intro ac F
    refine Y.nil ?_
    replace F : Fr ac 147 [(0, .agg #[.slice ta tn tc, .slice ca cn cc]), (1, .agg #[.int .i64 y.a, .int .i64 y.va, .int .i64 y.b, .int .i64 y.vb]), (2, .agg #[.slice ja n c, .slice jb j3 j4, .int .i64 bu, .int .i64 dn, .slice jc j5 j6]), (3, .pointer (some ⟨w.heap.size, 0, none⟩)), (4, .pointer (some ⟨w3.heap.size, 0, none⟩)), (5, .pointer (some ⟨w4.heap.size, 0, none⟩)), (6, .bool false), (7, .pointer (some ⟨mb, 0, none⟩)), (40, .bool true)] := F.sub _ (by kernel_rfl)
    refine X.thenN ?_
    refine Y.condT (F.ev 40 (.bool true) (by kernel_rfl)) ?_
    refine Y.seq ?_
    refine Y.lit (by kernel_rfl) ?_
    refine Y.pcall F (X.w0 rfl) rfl (X.enter (F := 16) rfl (X.kc (.func (.func 16) #[] #[]) rfl) rfl (enters_of Try.func16 (by kernel_rfl) rfl _)) (look_any w8) ?_
    clear F ac
    rintro e w65 ⟨rfl, g⟩
    refine ⟨_, rfl, ?_⟩
    intro ac F
    replace G := G.trans g
    replace hC := hC.gr g
    replace hf := hf.gr g
    replace hx := hx.gr g
    replace hfm := hfm.gr g
    clear g
    refine Y.pval F (X.w0 rfl) rfl (X.assign rfl (F.ev 41 (.bool true) (by kernel_rfl))) ?_
    clear F ac
    intro ac F
    refine Y.nil ?_
    replace F : Fr ac 147 [(0, .agg #[.slice ta tn tc, .slice ca cn cc]), (1, .agg #[.int .i64 y.a, .int .i64 y.va, .int .i64 y.b, .int .i64 y.vb]), (2, .agg #[.slice ja n c, .slice jb j3 j4, .int .i64 bu, .int .i64 dn, .slice jc j5 j6]), (3, .pointer (some ⟨w.heap.size, 0, none⟩)), (4, .pointer (some ⟨w3.heap.size, 0, none⟩)), (5, .pointer (some ⟨w4.heap.size, 0, none⟩)), (6, .bool true), (7, .pointer (some ⟨mb, 0, none⟩)), (40, .bool true)] := F.sub _ (by kernel_rfl)
    refine X.thenN ?_
    refine Y.ret ?_
    refine X.thenR ?_
    exact Y.ret0 F (Y.rs1 F rfl (by kernel_rfl)) ⟨rfl, G⟩
end
section
open Go.ChangeShapes Go.WideShapes Go.RowKit Go.Deep Go.Joins
section
variable {H : Type} {enc : TypeId × Value → H} {w : World} {base : Nat} {spare : Nat → Bool} {held : Bool}

theorem five {α : Type} {l : List α} (h : l.length = 5) : ∃ a b c d e, l = [a, b, c, d, e] := by
  match l, h with
  | [a, b, c, d, e], _ => exact ⟨a, b, c, d, e, rfl⟩

theorem Try.cells41 : Try.prog.cellsOf 41 = 5 := by kernel_rfl
theorem Try.cells22 : Try.prog.cellsOf 22 = 1 := by kernel_rfl

set_option maxRecDepth 100000 in
/-- a journey -/
theorem open_jn {r : Reach} {b0 : Nat} {v : Value} {d : DataW H} {p : List MemPlace} (hv : Value.okWide Try.prog w r b0 41 v) (h : DataW.Trod enc Try.prog w base spare held 41 v d p) (hw : Wt 41 d) :
    ∃ fa fn fc fs pa pn pc Q bu dn ma mn mc ms, v = .agg #[.slice fa fn fc, .slice pa pn pc, .int .i64 bu, .int .i64 dn, .slice ma mn mc] ∧ Ints w fa fn fs ∧ RowsAt w pa pn Q ∧ Ints w ma mn ms := by
  obtain ⟨cs, rfl, hsz⟩ := okWide_struct Try.underlying41 hv
  obtain ⟨l⟩ := cs
  obtain ⟨v0, v1, v2, v3, v4, rfl⟩ := five (hsz.trans Try.cells41)
  obtain ⟨fuel, hf⟩ := h
  obtain ⟨ys, n, _, hy, _, hlen, hg⟩ := DataW.trod_struct Try.underlying41 hf
  obtain ⟨y0, y1, y2, y3, y4, rfl⟩ := five (by simpa using hlen)
  have f0 := hg 0 _ rfl
  have f1 := hg 1 _ rfl
  have f2 := hg 2 _ rfl
  have f3 := hg 3 _ rfl
  have f4 := hg 4 _ rfl
  simp [Value.cells, Try.cells3, Try.cells26, Try.cells22] at f0 f1 f2 f3 f4
  simp only [Prod.mk.injEq] at hy
  have hd : d = .agg [y0.1, y1.1, y2.1, y3.1, y4.1] := by simpa using hy.1
  subst hd
  obtain ⟨fa, fn, fc, fs, rfl, hfs⟩ := open_st f0 (hw.field Try.underlying41 (j := 0) (ft := 26) (by simp) (by simp))
  obtain ⟨pa, pn, pc, Q, rfl, hQ⟩ := open_rs f1 (hw.field Try.underlying41 (j := 1) (ft := 22) (by simp) (by simp))
  obtain ⟨i2, e2, _⟩ := DataW.trod_int Try.underlying3 f2
  obtain ⟨i3, e3, _⟩ := DataW.trod_int Try.underlying3 f3
  obtain ⟨ma, mn, mc, ms, rfl, hms⟩ := open_st f4 (hw.field Try.underlying41 (j := 4) (ft := 26) (by simp) (by simp))
  simp at e2 e3
  subst e2 e3
  exact ⟨fa, fn, fc, fs, pa, pn, pc, Q, i2, i3, ma, mn, mc, ms, rfl, hfs, hQ, hms⟩
/-- a slice of slices of numbers, with its capacity -/
theorem open_rsc {fuel : Nat} {v : Value} {x : DataW H × List MemPlace} (h : DataW.trod enc Try.prog w base spare held fuel 22 [v] = some x) (hw : Wt 22 x.1) : ∃ a n c L, v = .slice a n c ∧ RowsAt w a n L ∧ n ≤ c := by
  obtain ⟨a, n, c, L, rfl, hL⟩ := open_rs h hw
  refine ⟨a, n, c, L, rfl, hL, ?_⟩
  rcases open_slice Try.underlying22 h with ⟨hcs, _⟩ | ⟨a', len, cap, m, k, D, Pl, hcs, _, hl, _⟩
  · simp at hcs; omega
  · simp at hcs; omega

set_option maxRecDepth 100000 in
/-- a journey, with the capacity of its plan -/
theorem open_jn2 {r : Reach} {b0 : Nat} {v : Value} {d : DataW H} {p : List MemPlace} (hv : Value.okWide Try.prog w r b0 41 v) (h : DataW.Trod enc Try.prog w base spare held 41 v d p) (hw : Wt 41 d) :
    ∃ fa fn fc fs pa pn pc Q bu dn ma mn mc ms, v = .agg #[.slice fa fn fc, .slice pa pn pc, .int .i64 bu, .int .i64 dn, .slice ma mn mc] ∧ Ints w fa fn fs ∧ RowsAt w pa pn Q ∧ Ints w ma mn ms ∧ pn ≤ pc := by
  obtain ⟨cs, rfl, hsz⟩ := okWide_struct Try.underlying41 hv
  obtain ⟨l⟩ := cs
  obtain ⟨v0, v1, v2, v3, v4, rfl⟩ := five (hsz.trans Try.cells41)
  obtain ⟨fuel, hf⟩ := h
  obtain ⟨ys, n, _, hy, _, hlen, hg⟩ := DataW.trod_struct Try.underlying41 hf
  obtain ⟨y0, y1, y2, y3, y4, rfl⟩ := five (by simpa using hlen)
  have f0 := hg 0 _ rfl
  have f1 := hg 1 _ rfl
  have f2 := hg 2 _ rfl
  have f3 := hg 3 _ rfl
  have f4 := hg 4 _ rfl
  simp [Value.cells, Try.cells3, Try.cells26, Try.cells22] at f0 f1 f2 f3 f4
  simp only [Prod.mk.injEq] at hy
  have hd : d = .agg [y0.1, y1.1, y2.1, y3.1, y4.1] := by simpa using hy.1
  subst hd
  obtain ⟨fa, fn, fc, fs, rfl, hfs⟩ := open_st f0 (hw.field Try.underlying41 (j := 0) (ft := 26) (by simp) (by simp))
  obtain ⟨pa, pn, pc, Q, rfl, hQ, hpc⟩ := open_rsc f1 (hw.field Try.underlying41 (j := 1) (ft := 22) (by simp) (by simp))
  obtain ⟨i2, e2, _⟩ := DataW.trod_int Try.underlying3 f2
  obtain ⟨i3, e3, _⟩ := DataW.trod_int Try.underlying3 f3
  obtain ⟨ma, mn, mc, ms, rfl, hms⟩ := open_st f4 (hw.field Try.underlying41 (j := 4) (ft := 26) (by simp) (by simp))
  simp at e2 e3
  subst e2 e3
  exact ⟨fa, fn, fc, fs, pa, pn, pc, Q, i2, i3, ma, mn, mc, ms, rfl, hfs, hQ, hms, hpc⟩
end
end
section
open Go.ChangeShapes Go.WideShapes Go.RowKit Go.Deep Go.Joins
section
variable {H : Type} {enc : TypeId × Value → H} {w : World} {base : Nat} {spare : Nat → Bool} {held : Bool}

set_option maxRecDepth 100000 in
theorem open_cl2 {fuel : Nat} {v : Value} {x : DataW H × List MemPlace} (h : DataW.trod enc Try.prog w base spare held fuel 23 [v] = some x) (hw : Wt 23 x.1) : ∃ a n c C, v = .slice a n c ∧ ClAt w a n C ∧ n * 32 ≤ 140737488351232 := by
  rcases open_slice Try.underlying23 h with ⟨hcs, _⟩ | ⟨a, len, cap, m, n, D, Pl, hcs, hb, hl, hm, hmm, hx, hi⟩
  · simp at hcs
    exact ⟨none, 0, 0, [], hcs, ⟨rfl, by omega, fun j hj => by omega⟩, by omega⟩
  · simp at hcs
    subst hcs
    have hlm : len ≤ m := by rw [hmm]; split <;> omega
    have hw1 := hw
    rw [hx] at hw1
    have hlen := hw1.len Try.underlying23
    rw [Try.bytes70] at hlen
    simp only [List.length_map, List.length_range, reachBytes] at hlen
    obtain ⟨C, hC1, hC2⟩ := list_of (P := fun j (c : Cl) => w.cell? (a.add (j * 4)) = some (.int .i64 c.a) ∧ w.cell? ((a.add (j * 4)).add 1) = some (.int .i64 c.va) ∧ w.cell? ((a.add (j * 4)).add 2) = some (.int .i64 c.b) ∧ w.cell? ((a.add (j * 4)).add 3) = some (.int .i64 c.vb)) default len (fun j hj => by
      obtain ⟨cs', hc, ht'⟩ := hi j (by omega)
      rw [Try.cells70] at hc
      obtain ⟨_, hcl, hat⟩ := World.cells?_some hc
      obtain ⟨ys, n', hn', hy, hlen', hyl, hf⟩ := DataW.trod_struct Try.underlying70 ht'
      have hyl4 : ys.length = 4 := by simpa using hyl
      obtain ⟨c0, c1, c2, c3, rfl⟩ := four hcl
      obtain ⟨y0, y1, y2, y3, rfl⟩ := four hyl4
      · have f0 := hf 0 _ rfl
        have f1 := hf 1 _ rfl
        have f2 := hf 2 _ rfl
        have f3 := hf 3 _ rfl
        simp [Try.cells3] at f0 f1 f2 f3
        obtain ⟨i0, e0, _⟩ := DataW.trod_int Try.underlying3 f0
        obtain ⟨i1, e1, _⟩ := DataW.trod_int Try.underlying3 f1
        obtain ⟨i2, e2, _⟩ := DataW.trod_int Try.underlying3 f2
        obtain ⟨i3, e3, _⟩ := DataW.trod_int Try.underlying3 f3
        simp at e0 e1 e2 e3
        subst e0 e1 e2 e3
        exact ⟨⟨i0, i1, i2, i3⟩, hat 0 (by omega), hat 1 (by omega), hat 2 (by omega), hat 3 (by omega)⟩)
    refine ⟨some a, len, cap, C, rfl, ⟨hC1, by omega, fun j hj => ?_⟩, by omega⟩
    obtain ⟨h0, h1, h2, h3⟩ := hC2 j hj
    exact ⟨a, rfl, by have := cell_blk h0; rwa [add_block] at this, h0, h1, h2, h3⟩

set_option maxRecDepth 100000 in
theorem open_fl2 {r : Reach} {b0 : Nat} {v : Value} {d : DataW H} {p : List MemPlace} (hv : Value.okWide Try.prog w r b0 25 v) (h : DataW.Trod enc Try.prog w base spare held 25 v d p) (hw : Wt 25 d) :
    ∃ ta tn tc ca cn cc f, v = .agg #[.slice ta tn tc, .slice ca cn cc] ∧ FlAt w ta tn ca cn f ∧ cn * 32 ≤ 140737488351232 := by
  obtain ⟨v0, v1, y0, y1, n, rfl, rfl, _, h0, h1⟩ := open_agg2 Try.underlying25 (by kernel_rfl) (by kernel_rfl) hv h
  obtain ⟨ta, tn, tc, T, rfl, hT⟩ := open_rs h0 (hw.field Try.underlying25 (j := 0) (ft := 22) (by simp) (by simp))
  obtain ⟨ca, cn, cc, C, rfl, hC, hn⟩ := open_cl2 h1 (hw.field Try.underlying25 (j := 1) (ft := 23) (by simp) (by simp))
  exact ⟨ta, tn, tc, ca, cn, cc, ⟨T, C⟩, rfl, ⟨hT, hC⟩, hn⟩

set_option maxRecDepth 100000 in
theorem open_clash {r : Reach} {b0 : Nat} {v : Value} {d : DataW H} {p : List MemPlace} (hv : Value.okWide Try.prog w r b0 70 v) (h : DataW.Trod enc Try.prog w base spare held 70 v d p) :
    ∃ y : Cl, v = .agg #[.int .i64 y.a, .int .i64 y.va, .int .i64 y.b, .int .i64 y.vb] := by
  obtain ⟨v0, v1, v2, v3, y0, y1, y2, y3, n, rfl, rfl, _, h0, h1, h2, h3⟩ := open_agg4 Try.underlying70 (by kernel_rfl) (by kernel_rfl) hv h
  obtain ⟨i0, e0, _⟩ := DataW.trod_int Try.underlying3 h0
  obtain ⟨i1, e1, _⟩ := DataW.trod_int Try.underlying3 h1
  obtain ⟨i2, e2, _⟩ := DataW.trod_int Try.underlying3 h2
  obtain ⟨i3, e3, _⟩ := DataW.trod_int Try.underlying3 h3
  simp at e0 e1 e2 e3
  subst e0 e1 e2 e3
  exact ⟨⟨i0, i1, i2, i3⟩, rfl⟩
end
end
end Go.Proofs.Ytlilojpnhmfnaaa
