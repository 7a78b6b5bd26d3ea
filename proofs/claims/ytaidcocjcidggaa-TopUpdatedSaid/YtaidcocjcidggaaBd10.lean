/- Several texts of this claim in one file. (1) Contract: Count. (2) Contract: counts returns true. (3) A fleet that is copied row by row; closed facts. Nothing of the program is proved here. (4) Contract: Interrupt. -/
import Derived.Test.YtaidcocjcidggaaBd9
import Derived.Test.YtaidcocjcidggaaBd6
import Derived.Test.YtaidcocjcidggaaBd7
import Derived.Test.YtaidcocjcidggaaBd5
namespace Go.Proofs.Ytaidcocjcidggaa
set_option linter.unusedSimpArgs false
set_option linter.unusedVariables false
section
open Go.RowKit

theorem Try.mk129 (w : World) : (Instr.makeMap 141 none).run Try.prog w = .ok (.map (some w.heap.size)) (w.alloc (.map #[] 0)) := by kernel_rfl

set_option maxRecDepth 100000 in
set_option maxHeartbeats 400000 in
theorem Count_any (m : Nat) (oa : Option Addr) (on oc lb lc : Nat) (f0a : Option Addr) (f0n f0c : Nat) (f0 : List Int) (sv : Nat → ByteArray) (F1 F2 F3 : Fo) (r1 gn v3 c : Int) (K : List (Int × Int)) (fa : Option Addr) (fn fc : Nat) (f : List Int) (w : World) (hT : SrAt w oa on sv) (hc0 : w.cell? ⟨lb, 0, none⟩ = some (.slice f0a f0n f0c)) (hf0 : Ints w f0a f0n f0) (hfb : ∀ ad, f0a = some ad → ad.block < w.heap.size) (hfn : f0n ≤ 1000) (hnm : ∀ i, i < on → ((∀ k, k < (sv i).size → 97 ≤ (((sv i)[k]?.getD 0).toNat : Int) ∧ (((sv i)[k]?.getD 0).toNat : Int) ≤ 122) ∧ 1 ≤ (sv i).size ∧ (sv i).size ≤ 8 ∧ ((sv i).toList == (ByteArray.mk #[121, 101, 115]).toList) = false ∧ ((sv i).toList == (ByteArray.mk #[110, 111]).toList) = false)) (hdn : ∀ i j, j < i → i < on → ((sv i).toList == (sv j).toList) = false) (hon : on ≤ 40) (hoc : on ≤ oc) (hv0 : validB on f0 = true) (hf : Ints w fa fn f) (hfb2 : ∀ ad, fa = some ad → ad.block < w.heap.size) (hfn2 : fn ≤ 1000) (hv : validB on f = true) (h1 : Fo.all m (Fo.new on) 1 [f0] = some (F1, r1)) (h2 : Fo.grown m F1 f = some (F2, gn)) (h3 : Fo.and m F2 1 [r1, gn] = some (F3, v3)) (h4 : Fo.count F3 m [] v3 0 = some (K, c)) :
  Calls Try.prog 92 #[.agg #[.slice oa on oc, .slice (some ⟨lb, 0, none⟩) 1 lc], .slice fa fn fc] w fun e w' => e = .returned (.tuple #[Vi c, Vi 0]) ∧ Gr w w' := by
 have G := Gr.refl w
 have hlb := lt_cell hc0
 refine Y.calls 30 Try.func92 rfl rfl ?_
 intro ac F0
 have F : Fr ac 30 [(0, .agg #[.slice oa on oc, .slice (some ⟨lb, 0, none⟩) 1 lc]), (1, .slice fa fn fc)] := F0.sub _
 clear F0
 refine Y.seq ?_
 refine Y.lit (by kernel_rfl) ?_
 refine Y.pv F (X.box rfl (F.e 0 rfl) X.bx) ?_;clear F ac;intro ac F
 have g := Gr.alloc w (.cells #[.slice oa on oc, .slice (some ⟨lb, 0, none⟩) 1 lc] 121)
 have hb := heap_alloc_new w (.cells #[.slice oa on oc, .slice (some ⟨lb, 0, none⟩) 1 lc] 121)
 have hbl : w.heap.size < (w.alloc (.cells #[.slice oa on oc, .slice (some ⟨lb, 0, none⟩) 1 lc] 121)).heap.size := by simp
 have hC2 : RCells (w.alloc (.cells #[.slice oa on oc, .slice (some ⟨lb, 0, none⟩) 1 lc] 121)) [(Ad w.heap.size 0, .slice oa on oc), (Ad w.heap.size 1, .slice (some ⟨lb, 0, none⟩) 1 lc)] := (RCells.nil w).box (b := w.heap.size) #[.slice oa on oc, .slice (some ⟨lb, 0, none⟩) 1 lc] 121 rfl
 generalize w.alloc (.cells #[.slice oa on oc, .slice (some ⟨lb, 0, none⟩) 1 lc] 121) = w3 at *
 replace G := G.trans g
 have hC := hC2
 clear hC2
 clear g hb hbl
 refine Y.pv F (X.assign rfl (X.kc (Vi 0) rfl)) ?_;clear F ac;intro ac F
 refine Y.pv F (X.assign rfl (X.kc (Vi 0) rfl)) ?_;clear F ac;intro ac F
 refine Y.nil ?_
 replace F : Fr ac 30 [(1, .slice fa fn fc), (2, Vp w.heap.size)] := F.sub _
 refine X.thenN ?_
 refine Y.seq ?_
 refine Y.lit (by kernel_rfl) ?_
 refine Y.pv F (X.load rfl (F.e 2 rfl) (X.ldN (Try.agg121 _) (Try.siz121 _) (Y.atz (⟨w.heap.size, 0, none⟩) (Y.AtFrom.cons (hC.at 0 rfl) (Y.AtFrom.cons (hC.at 1 rfl) (Y.AtFrom.nil _ _ _)))))) ?_;clear F ac;intro ac F
 refine Y.pv F (X.move rfl (F.e 1 rfl)) ?_;clear F ac;intro ac F
 refine Y.pv F (X.bs rfl (X.b1 (F.e 11 rfl)) (Try.bs93_1 _ _ _ _)) ?_;clear F ac;intro ac F
 have g := Gr.alloc w3 (.cells #[.slice fa fn fc] 118)
 have hb := heap_alloc_new w3 (.cells #[.slice fa fn fc] 118)
 have hbl : w3.heap.size < (w3.alloc (.cells #[.slice fa fn fc] 118)).heap.size := by simp
 have hC2 : RCells (w3.alloc (.cells #[.slice fa fn fc] 118)) [(Ad w.heap.size 0, .slice oa on oc), (Ad w.heap.size 1, .slice (some ⟨lb, 0, none⟩) 1 lc), (Ad w3.heap.size 0, .slice fa fn fc)] := hC.box (b := w3.heap.size) #[.slice fa fn fc] 118 rfl
 generalize w3.alloc (.cells #[.slice fa fn fc] 118) = w4 at *
 replace G := G.trans g
 replace hC := hC2
 clear hC2
 clear g hb hbl
 refine Y.pcall F (X.w0 rfl) rfl (X.enter (F := 105) rfl (X.kc (.func (.func 105) #[] #[]) rfl) (X.a2 (F.e 10 rfl) (F.e 12 rfl)) (enters_of Try.func105 (by kernel_rfl) rfl _)) (fbegin_any m oa on oc lb lc f0a f0n f0c f0 sv F1 r1 (some ⟨w3.heap.size, 0, none⟩) 1 1 [f] w4 (hT.gr G) ((G.cell (lt_cell hc0)).trans hc0) (hf0.gr G) (fun ad e => Nat.lt_of_lt_of_le (hfb ad e) G.size) hfn hnm hdn hon hoc hv0 (rows_one (hC.at 2 rfl) (hf.gr G)) (val_one hv) h1) ?_
 clear F ac
 rintro e w5 ⟨t, T, rfl, hF1, hT1, g⟩
 refine ⟨_, rfl, ?_⟩
 intro ac F
 replace hT1 : ∀ b, T b → w.heap.size ≤ b := fun b e => Nat.le_trans G.size (hT1 b e)
 replace G := G.trans g
 replace hC := hC.gr g
 clear g
 refine Y.pv F (X.move rfl (F.e 13 rfl)) ?_;clear F ac;intro ac F
 refine Y.pv F (X.extract rfl (F.e 9 rfl) rfl) ?_;clear F ac;intro ac F
 refine Y.pv F (X.extract rfl (F.e 9 rfl) rfl) ?_;clear F ac;intro ac F
 refine Y.pv F (X.extract rfl (F.e 9 rfl) rfl) ?_;clear F ac;intro ac F
 refine Y.pv F (X.assign rfl (F.e 14 rfl)) ?_;clear F ac;intro ac F
 refine Y.pv F (X.assign rfl (F.e 15 rfl)) ?_;clear F ac;intro ac F
 refine Y.pv F (X.assign rfl (F.e 16 rfl)) ?_;clear F ac;intro ac F
 refine Y.nil ?_
 replace F : Fr ac 30 [(1, .slice fa fn fc), (6, Vp t), (7, Vi r1), (8, Vi 0)] := F.sub _
 refine X.thenN ?_
 refine Y.seq ?_
 refine Y.seq ?_
 refine Y.lit (by kernel_rfl) ?_
 refine Y.pv F (X.move rfl (F.e 8 rfl)) ?_;clear F ac;intro ac F
 refine Y.pval F (X.w0 rfl) rfl (X.binop rfl (F.e 17 rfl) (X.kc (Vi 0) rfl) (X.neqI Try.underlying31 (show ((0 : Int) != 0) = false by simp))) ?_;clear F ac;intro ac F
 refine Y.nil ?_
 replace F : Fr ac 30 [(1, .slice fa fn fc), (6, Vp t), (7, Vi r1), (8, Vi 0), (18, .bool false)] := F.sub _
 refine X.thenN ?_
 refine Y.condF (F.e 18 rfl) ?_
 refine Y.skip ?_
 refine X.thenN ?_
 refine Y.seq ?_
 refine Y.lit (by kernel_rfl) ?_
 refine Y.pv F (X.move rfl (F.e 6 rfl)) ?_;clear F ac;intro ac F
 refine Y.pv F (X.move rfl (F.e 6 rfl)) ?_;clear F ac;intro ac F
 refine Y.pv F (X.move rfl (F.e 7 rfl)) ?_;clear F ac;intro ac F
 refine Y.pv F (X.move rfl (F.e 6 rfl)) ?_;clear F ac;intro ac F
 refine Y.pv F (X.move rfl (F.e 1 rfl)) ?_;clear F ac;intro ac F
 refine Y.pcall F (X.w0 rfl) rfl (X.enter (F := 108) rfl (X.kc (.func (.func 108) #[] #[]) rfl) (X.a2 (F.e 23 rfl) (F.e 24 rfl)) (enters_of Try.func108 (by kernel_rfl) rfl _)) (grow_any m t T F1 F2 gn fa fn fc f w5 (hF1.gr (Gr.refl _)) (hf.gr G) (fun ad e h => by have := hT1 _ h; have := hfb2 ad e; omega) hfn2 h2) ?_
 clear F ac hC
 rintro e w6 ⟨rfl, hF2, hon2⟩
 refine ⟨_, rfl, ?_⟩
 intro ac F
 obtain ⟨G2, hT2⟩ := fo_up G hT1 hon2
 clear G
 have G := Gr.refl w6
 have hl2 : ∀ b, Gw T w5 w6 b → b < w6.heap.size := fun b e => hF2.lt b e
 refine Y.pv F (X.bs rfl (X.b2 (F.e 22 rfl) (F.e 25 rfl)) (Try.bs34_2 r1 gn _)) ?_;clear F ac;intro ac F
 have g := Gr.alloc w6 (.cells #[Vi r1, Vi gn] 3)
 have hb := heap_alloc_new w6 (.cells #[Vi r1, Vi gn] 3)
 have hbl : w6.heap.size < (w6.alloc (.cells #[Vi r1, Vi gn] 3)).heap.size := by simp
 have hC2 : RCells (w6.alloc (.cells #[Vi r1, Vi gn] 3)) [(Ad w6.heap.size 0, Vi r1), (Ad w6.heap.size 1, Vi gn)] := (RCells.nil w6).box (b := w6.heap.size) #[Vi r1, Vi gn] 3 rfl
 generalize w6.alloc (.cells #[Vi r1, Vi gn] 3) = w7 at *
 replace G := G.trans g
 have hC := hC2
 clear hC2
 have hg9 := hb
 clear g hb hbl
 refine Y.pcall F (X.w0 rfl) rfl (X.enter (F := 107) rfl (X.kc (.func (.func 107) #[] #[]) rfl) (X.a2 (F.e 21 rfl) (F.e 26 rfl)) (enters_of Try.func107 (by kernel_rfl) rfl _)) (fand_any m t _ F2 F3 v3 (some ⟨w6.heap.size, 0, none⟩) 2 2 [r1, gn] w7 (hF2.gr G) (fints_two hg9) (fun ad e h => by injection e with e; subst e; have := hl2 _ h; simp only at this; omega) h3) ?_
 clear F ac hC
 rintro e w8 ⟨rfl, hF3, hon3⟩
 refine ⟨_, rfl, ?_⟩
 intro ac F
 obtain ⟨G3, hT3⟩ := fo_up (G2.trans G) hT2 hon3
 clear G
 have G := Gr.refl w8
 refine Y.pv F (Y.mm rfl (Try.mk129 _)) ?_;clear F ac;intro ac F
 have hK := mp_new (T := intT) (heap_alloc_new w8 (.map #[] 0))
 have g := Gr.alloc w8 (.map #[] 0)
 have hkl := hF3.lt
 generalize w8.alloc (.map #[] 0) = w9 at *
 replace G := G.trans g
 clear g
 refine Y.pcall F (X.w0 rfl) rfl (X.enter (F := 106) rfl (X.kc (.func (.func 106) #[] #[]) rfl) (X.a4 (F.e 20 rfl) (F.e 27 rfl) (X.kc (Vi 0) rfl) (F.e 28 rfl)) (enters_of Try.func106 (by kernel_rfl) rfl _)) (count_any m t _ F3 [] K w8.heap.size v3 0 c w9 (hF3.gr G) hK (fun e => by have := hkl _ e; omega) h4) ?_
 clear F ac
 rintro e w10 ⟨rfl, hK2, hon4⟩
 refine ⟨_, rfl, ?_⟩
 intro ac F
 replace G : Gr w w10 := (((G3.trans G).only _).trans hon4).gr (fun i hi e => by have : i = w8.heap.size := e; have := G3.size; omega)
 refine Y.pv F (X.assign rfl (F.e 29 rfl)) ?_;clear F ac;intro ac F
 refine Y.pv F (X.assign rfl (X.kc (Vi 0) rfl)) ?_;clear F ac;intro ac F
 refine Y.nil ?_
 replace F : Fr ac 30 [(4, Vi c), (5, Vi 0)] := F.sub _
 refine X.thenN ?_
 refine Y.ret ?_
 exact Y.ret0 (v := .tuple #[Vi c, Vi 0]) F (Y.rs2 F rfl (by kernel_rfl) (by kernel_rfl)) ⟨rfl, G⟩
end
section
open Go.RowKit

theorem counted_parts : ∃ F1 r1 F2 g F3 v K, Fo.all 40 (Fo.new ((2 : Nat) : Int)) 1 [[-5, 0, 1]] = some (F1, r1) ∧ Fo.grown 40 F1 [-1] = some (F2, g) ∧ Fo.and 40 F2 1 [r1, g] = some (F3, v) ∧ Fo.count F3 40 [] v 0 = some (K, 3) := by
  have h := counted_three
  unfold Fo.counted at h
  obtain ⟨⟨F1, r1⟩, h1, h⟩ := Option.bind_eq_some_iff.1 h
  obtain ⟨⟨F2, g⟩, h2, h⟩ := Option.bind_eq_some_iff.1 h
  obtain ⟨⟨F3, v⟩, h3, h⟩ := Option.bind_eq_some_iff.1 h
  obtain ⟨⟨K, c⟩, h4, h5⟩ := Option.map_eq_some_iff.1 h
  have h5 : c = 3 := h5
  subst h5
  exact ⟨F1, r1, F2, g, F3, v, K, h1, h2, h3, h4⟩
theorem sr_two {w : World} {b : Nat} {s0 s1 : ByteArray} (h0 : w.cell? ⟨b, 0, none⟩ = some (.string s0)) (h1 : w.cell? ⟨b, 1, none⟩ = some (.string s1)) : SrAt w (some ⟨b, 0, none⟩) 2 (fun i => if i = 0 then s0 else s1) := by
  refine ⟨by decide, fun j hj => ⟨_, rfl, lt_cell h0, ?_⟩⟩
  have : j = 0 ∨ j = 1 := by omega
  rcases this with rfl | rfl
  · exact h0
  · exact h1
theorem ints_c3 {w : World} {b : Nat} {x y z : Int} (h0 : w.cell? ⟨b, 0, none⟩ = some (.int .i64 x)) (h1 : w.cell? ⟨b, 1, none⟩ = some (.int .i64 y)) (h2 : w.cell? ⟨b, 2, none⟩ = some (.int .i64 z)) : Ints w (some ⟨b, 0, none⟩) 3 [x, y, z] := by
  refine ⟨rfl, by decide, fun j hj => ⟨_, rfl, lt_cell h0, ?_⟩⟩
  have : j = 0 ∨ j = 1 ∨ j = 2 := by omega
  rcases this with rfl | rfl | rfl
  · exact h0
  · exact h1
  · exact h2
theorem ints_c1 {w : World} {b : Nat} {x : Int} (h0 : w.cell? ⟨b, 0, none⟩ = some (.int .i64 x)) : Ints w (some ⟨b, 0, none⟩) 1 [x] := by
  refine ⟨rfl, by decide, fun j hj => ⟨_, rfl, lt_cell h0, ?_⟩⟩
  have : j = 0 := by omega
  subst this
  exact h0
def svT : Nat → ByteArray := fun i => if i = 0 then ByteArray.mk #[116, 111, 119] else ByteArray.mk #[104, 101, 97, 116]
theorem svT_low : ∀ i, i < 2 → ((∀ k, k < (svT i).size → 97 ≤ (((svT i)[k]?.getD 0).toNat : Int) ∧ (((svT i)[k]?.getD 0).toNat : Int) ≤ 122) ∧ 1 ≤ (svT i).size ∧ (svT i).size ≤ 8 ∧ ((svT i).toList == (ByteArray.mk #[121, 101, 115]).toList) = false ∧ ((svT i).toList == (ByteArray.mk #[110, 111]).toList) = false) := by
  intro i hi
  have : i = 0 ∨ i = 1 := by omega
  rcases this with rfl | rfl
  · refine ⟨fun k hk => ?_, by decide, by decide, by kernel_rfl, by kernel_rfl⟩
    have hk : k < 3 := hk
    have : k = 0 ∨ k = 1 ∨ k = 2 := by omega
    rcases this with rfl | rfl | rfl <;> exact of_decide_eq_true (by kernel_rfl)
  · refine ⟨fun k hk => ?_, by decide, by decide, by kernel_rfl, by kernel_rfl⟩
    have hk : k < 4 := hk
    have : k = 0 ∨ k = 1 ∨ k = 2 ∨ k = 3 := by omega
    rcases this with rfl | rfl | rfl | rfl <;> exact of_decide_eq_true (by kernel_rfl)
theorem svT_two : ∀ i j, j < i → i < 2 → ((svT i).toList == (svT j).toList) = false := by
  intro i j h k
  obtain rfl : i = 1 := by omega
  obtain rfl : j = 0 := by omega
  kernel_rfl
theorem Try.bd95 (a b : Option Addr) (n c n2 c2 : Nat) (W : World) : (Instr.build 121 #[(0, .slice a n c), (1, .slice b n2 c2)]).run Try.prog W = .ok (.agg #[.slice a n c, .slice b n2 c2]) W := by kernel_rfl
set_option maxRecDepth 100000 in
set_option maxHeartbeats 400000 in
theorem counts_any (w : World) :
  Calls Try.prog 46 #[] w fun e w' => e = .returned (.bool true) ∧ Gr w w' := by
 have G := Gr.refl w
 obtain ⟨F1, r1, F2, gn, F3, v3, K, h1, h2, h3, h4⟩ := counted_parts
 refine Y.calls 18 Try.func46 rfl rfl ?_
 intro ac F0
 have F : Fr ac 18 [] := F0.sub _
 clear F0
 refine Y.seq ?_
 refine Y.lit (by kernel_rfl) ?_
 refine Y.pv F (X.assign rfl (X.kc (.bool false) rfl)) ?_;clear F ac;intro ac F
 refine Y.nil ?_
 replace F : Fr ac 18 [] := F.sub _
 refine X.thenN ?_
 refine Y.seq ?_
 refine Y.lit (by kernel_rfl) ?_
 refine Y.pv F (X.bs rfl (X.b2 (X.kc (.string (ByteArray.mk #[116, 111, 119])) rfl) (X.kc (.string (ByteArray.mk #[104, 101, 97, 116])) rfl)) (Try.bs91_2 _ _ _)) ?_;clear F ac;intro ac F
 have g := Gr.alloc w (.cells #[.string (ByteArray.mk #[116, 111, 119]), .string (ByteArray.mk #[104, 101, 97, 116])] 9)
 have hb := heap_alloc_new w (.cells #[.string (ByteArray.mk #[116, 111, 119]), .string (ByteArray.mk #[104, 101, 97, 116])] 9)
 have hbl : w.heap.size < (w.alloc (.cells #[.string (ByteArray.mk #[116, 111, 119]), .string (ByteArray.mk #[104, 101, 97, 116])] 9)).heap.size := by simp
 have hC2 : RCells (w.alloc (.cells #[.string (ByteArray.mk #[116, 111, 119]), .string (ByteArray.mk #[104, 101, 97, 116])] 9)) [(Ad w.heap.size 0, .string (ByteArray.mk #[116, 111, 119])), (Ad w.heap.size 1, .string (ByteArray.mk #[104, 101, 97, 116]))] := (RCells.nil w).box (b := w.heap.size) #[.string (ByteArray.mk #[116, 111, 119]), .string (ByteArray.mk #[104, 101, 97, 116])] 9 rfl
 generalize w.alloc (.cells #[.string (ByteArray.mk #[116, 111, 119]), .string (ByteArray.mk #[104, 101, 97, 116])] 9) = w3 at *
 replace G := G.trans g
 have hC := hC2
 clear hC2
 clear g hb hbl
 refine Y.pv F (X.bs rfl (Y.b3 (X.kc (Vi (-5)) rfl) (X.kc (Vi 0) rfl) (X.kc (Vi 1) rfl)) (Try.bs92_3 _ _ _ _)) ?_;clear F ac;intro ac F
 have g := Gr.alloc w3 (.cells #[Vi (-5), Vi 0, Vi 1] 3)
 have hb := heap_alloc_new w3 (.cells #[Vi (-5), Vi 0, Vi 1] 3)
 have hbl : w3.heap.size < (w3.alloc (.cells #[Vi (-5), Vi 0, Vi 1] 3)).heap.size := by simp
 have hC2 : RCells (w3.alloc (.cells #[Vi (-5), Vi 0, Vi 1] 3)) [(Ad w.heap.size 0, .string (ByteArray.mk #[116, 111, 119])), (Ad w.heap.size 1, .string (ByteArray.mk #[104, 101, 97, 116])), (Ad w3.heap.size 0, Vi (-5)), (Ad w3.heap.size 1, Vi 0), (Ad w3.heap.size 2, Vi 1)] := hC.box (b := w3.heap.size) #[Vi (-5), Vi 0, Vi 1] 3 rfl
 generalize w3.alloc (.cells #[Vi (-5), Vi 0, Vi 1] 3) = w4 at *
 replace G := G.trans g
 replace hC := hC2
 clear hC2
 clear g hb hbl
 refine Y.pv F (X.bs rfl (X.b1 (F.e 5 rfl)) (Try.bs93_1 _ _ _ _)) ?_;clear F ac;intro ac F
 have g := Gr.alloc w4 (.cells #[.slice (some ⟨w3.heap.size, 0, none⟩) 3 3] 118)
 have hb := heap_alloc_new w4 (.cells #[.slice (some ⟨w3.heap.size, 0, none⟩) 3 3] 118)
 have hbl : w4.heap.size < (w4.alloc (.cells #[.slice (some ⟨w3.heap.size, 0, none⟩) 3 3] 118)).heap.size := by simp
 have hC2 : RCells (w4.alloc (.cells #[.slice (some ⟨w3.heap.size, 0, none⟩) 3 3] 118)) [(Ad w.heap.size 0, .string (ByteArray.mk #[116, 111, 119])), (Ad w.heap.size 1, .string (ByteArray.mk #[104, 101, 97, 116])), (Ad w3.heap.size 0, Vi (-5)), (Ad w3.heap.size 1, Vi 0), (Ad w3.heap.size 2, Vi 1), (Ad w4.heap.size 0, .slice (some ⟨w3.heap.size, 0, none⟩) 3 3)] := hC.box (b := w4.heap.size) #[.slice (some ⟨w3.heap.size, 0, none⟩) 3 3] 118 rfl
 generalize w4.alloc (.cells #[.slice (some ⟨w3.heap.size, 0, none⟩) 3 3] 118) = w5 at *
 replace G := G.trans g
 replace hC := hC2
 clear hC2
 clear g hb hbl
 refine Y.pv F (Y.bd rfl (X.b2 (F.e 4 rfl) (F.e 6 rfl)) (Try.bd95 _ _ _ _ _ _ _)) ?_;clear F ac;intro ac F
 refine Y.pv F (X.bs rfl (X.b1 (X.kc (Vi (-1)) rfl)) (Try.bs92_1 _ _)) ?_;clear F ac;intro ac F
 have g := Gr.alloc w5 (.cells #[Vi (-1)] 3)
 have hb := heap_alloc_new w5 (.cells #[Vi (-1)] 3)
 have hbl : w5.heap.size < (w5.alloc (.cells #[Vi (-1)] 3)).heap.size := by simp
 have hC2 : RCells (w5.alloc (.cells #[Vi (-1)] 3)) [(Ad w.heap.size 0, .string (ByteArray.mk #[116, 111, 119])), (Ad w.heap.size 1, .string (ByteArray.mk #[104, 101, 97, 116])), (Ad w3.heap.size 0, Vi (-5)), (Ad w3.heap.size 1, Vi 0), (Ad w3.heap.size 2, Vi 1), (Ad w4.heap.size 0, .slice (some ⟨w3.heap.size, 0, none⟩) 3 3), (Ad w5.heap.size 0, Vi (-1))] := hC.box (b := w5.heap.size) #[Vi (-1)] 3 rfl
 generalize w5.alloc (.cells #[Vi (-1)] 3) = w6 at *
 replace G := G.trans g
 replace hC := hC2
 clear hC2
 clear g hb hbl
 refine Y.pcall F (X.w0 rfl) rfl (X.enter (F := 92) rfl (X.kc (.func (.func 92) #[] #[]) rfl) (X.a2 (F.e 7 rfl) (F.e 8 rfl)) (enters_of Try.func92 (by kernel_rfl) rfl _)) (Count_any 40 (some ⟨w.heap.size, 0, none⟩) 2 2 w4.heap.size 1 (some ⟨w3.heap.size, 0, none⟩) 3 3 [-5, 0, 1] svT F1 F2 F3 r1 gn v3 3 K (some ⟨w5.heap.size, 0, none⟩) 1 1 [-1] w6 (sr_two (hC.at 0 rfl) (hC.at 1 rfl)) (hC.at 5 rfl) (ints_c3 (hC.at 2 rfl) (hC.at 3 rfl) (hC.at 4 rfl)) (fun ad e => by injection e with e; subst e; exact lt_cell (hC.at 2 rfl)) (by decide) svT_low svT_two (by decide) (by decide) (by kernel_rfl) (ints_c1 (hC.at 6 rfl)) (fun ad e => by injection e with e; subst e; exact lt_cell (hC.at 6 rfl)) (by decide) (by kernel_rfl) h1 h2 h3 h4) ?_
 clear F ac
 rintro e w7 ⟨rfl, g⟩
 refine ⟨_, rfl, ?_⟩
 intro ac F
 replace G := G.trans g
 replace hC := hC.gr g
 clear g
 refine Y.pv F (X.move rfl (F.e 9 rfl)) ?_;clear F ac;intro ac F
 refine Y.pv F (X.extract rfl (F.e 3 rfl) rfl) ?_;clear F ac;intro ac F
 refine Y.pv F (X.extract rfl (F.e 3 rfl) rfl) ?_;clear F ac;intro ac F
 refine Y.pv F (X.assign rfl (F.e 10 rfl)) ?_;clear F ac;intro ac F
 refine Y.pv F (X.assign rfl (F.e 11 rfl)) ?_;clear F ac;intro ac F
 refine Y.nil ?_
 replace F : Fr ac 18 [(1, Vi 3), (2, Vi 0)] := F.sub _
 refine X.thenN ?_
 refine Y.seq ?_
 refine Y.lit (by kernel_rfl) ?_
 refine Y.pv F (X.move rfl (F.e 1 rfl)) ?_;clear F ac;intro ac F
 refine Y.pval F (X.w0 rfl) rfl (X.binop rfl (F.e 12 rfl) (X.kc (Vi 3) rfl) (X.eqlI Try.underlying3 (show ((3 : Int) == 3) = true by simp))) ?_;clear F ac;intro ac F
 refine Y.pv F (X.move rfl (F.e 13 rfl)) ?_;clear F ac;intro ac F
 refine Y.pval F (X.w1 rfl (F.yl (j := 2) (d := 14) (b := true) rfl (by kernel_rfl))) rfl (X.move rfl (F.e 2 rfl)) ?_;clear F ac;intro ac F
 refine Y.pval F (X.w1 rfl (F.yl (j := 2) (d := 14) (b := true) rfl (by kernel_rfl))) rfl (X.binop rfl (F.e 15 rfl) (X.kc (Vi 0) rfl) (X.eqlI Try.underlying31 (show ((0 : Int) == 0) = true by simp))) ?_;clear F ac;intro ac F
 refine Y.pv F (X.pickT rfl (F.e 14 rfl) (F.e 16 rfl)) ?_;clear F ac;intro ac F
 refine Y.pv F (X.assign rfl (F.e 17 rfl)) ?_;clear F ac;intro ac F
 refine Y.nil ?_
 replace F : Fr ac 18 [(0, .bool true)] := F.sub _
 refine X.thenN ?_
 refine Y.ret ?_
 exact Y.ret0 (v := .bool true) F (Y.rs1 F rfl (by kernel_rfl)) ⟨rfl, G⟩
end
section
open Go.RowKit
set_option linter.unusedVariables false
set_option linter.unusedSimpArgs false
/-- a region with a call (a), a block (b), an append (c) and a store (d) -/
structure R5 (w : World) (a b c d : Nat) (Ta Tb Tc : Value → World → Prop) (Td : World → Prop) (done : Nat → Bool) (u : Nat → Value) (W : World) : Prop where
  g : done c = false → done d = false → Gr w W
  ga : done a = true → done b = false → done c = false → done d = false → Ta (u a) W
  gb : done b = true → done c = false → done d = false → Tb (u b) W
  gc : done c = true → done d = false → Tc (u c) W
  gd : done d = true → Td W
section
variable {w W W' : World} {a b c d i : Nat} {Ta Tb Tc : Value → World → Prop} {Td : World → Prop} {done : Nat → Bool} {u : Nat → Value} {v : Value}
theorem R5.start {u : Nat → Value} (g : Gr w W) : R5 w a b c d Ta Tb Tc Td (fun _ => false) u W := ⟨fun _ _ => g, fun h => by simp at h, fun h => by simp at h, fun h => by simp at h, fun h => by simp at h⟩
theorem R5.quiet (h : R5 w a b c d Ta Tb Tc Td done u W) (hi : (i == a || i == b || i == c || i == d) = false) : R5 w a b c d Ta Tb Tc Td (upd done i) (fun j => if j = i then v else u j) W := by
  simp only [Bool.or_eq_false_iff, beq_eq_false_iff_ne] at hi
  obtain ⟨⟨⟨h1, h2⟩, h3⟩, h4⟩ := hi
  have e1 := upd_ne (done := done) (Ne.symm h1)
  have e2 := upd_ne (done := done) (Ne.symm h2)
  have e3 := upd_ne (done := done) (Ne.symm h3)
  have e4 := upd_ne (done := done) (Ne.symm h4)
  refine ⟨fun k1 k2 => h.g (e3 ▸ k1) (e4 ▸ k2), fun k0 k1 k2 k3 => ?_, fun k0 k1 k2 => ?_, fun k0 k1 => ?_, fun k => h.gd (e4 ▸ k)⟩
  · have := h.ga (e1 ▸ k0) (e2 ▸ k1) (e3 ▸ k2) (e4 ▸ k3)
    simpa [Ne.symm h1] using this
  · have := h.gb (e2 ▸ k0) (e3 ▸ k1) (e4 ▸ k2)
    simpa [Ne.symm h2] using this
  · have := h.gc (e3 ▸ k0) (e4 ▸ k1)
    simpa [Ne.symm h3] using this
theorem R5.sa (h : R5 w a b c d Ta Tb Tc Td done u W) (hn : (a == b || a == c || a == d) = false) (hb : done b = false) (hc : done c = false) (hd : done d = false) (g : Gr W W') (ht : Ta v W') : R5 w a b c d Ta Tb Tc Td (upd done a) (fun j => if j = a then v else u j) W' := by
  simp only [Bool.or_eq_false_iff, beq_eq_false_iff_ne] at hn
  obtain ⟨⟨h2, h3⟩, h4⟩ := hn
  have e2 := upd_ne (done := done) (Ne.symm h2)
  have e3 := upd_ne (done := done) (Ne.symm h3)
  have e4 := upd_ne (done := done) (Ne.symm h4)
  exact ⟨fun _ _ => (h.g hc hd).trans g, fun _ _ _ _ => by simpa using ht, fun k => (by rw [e2, hb] at k; cases k), fun k => (by rw [e3, hc] at k; cases k), fun k => (by rw [e4, hd] at k; cases k)⟩
theorem R5.sb (h : R5 w a b c d Ta Tb Tc Td done u W) (hn : (b == c || b == d) = false) (hc : done c = false) (hd : done d = false) (g : Gr W W') (ht : Tb v W') : R5 w a b c d Ta Tb Tc Td (upd done b) (fun j => if j = b then v else u j) W' := by
  simp only [Bool.or_eq_false_iff, beq_eq_false_iff_ne] at hn
  have e3 := upd_ne (done := done) (Ne.symm hn.1)
  have e4 := upd_ne (done := done) (Ne.symm hn.2)
  exact ⟨fun _ _ => (h.g hc hd).trans g, fun _ k => (by rw [upd_self] at k; cases k), fun _ _ _ => by simpa using ht, fun k => (by rw [e3, hc] at k; cases k), fun k => (by rw [e4, hd] at k; cases k)⟩
theorem R5.sc (hn : (c == d) = false) (hd : done d = false) (ht : Tc v W') : R5 w a b c d Ta Tb Tc Td (upd done c) (fun j => if j = c then v else u j) W' := by
  have e4 := upd_ne (done := done) (i := c) (j := d) (by intro e; simp [e] at hn)
  exact ⟨fun k => (by rw [upd_self] at k; cases k), fun _ _ k => (by rw [upd_self] at k; cases k), fun _ k => (by rw [upd_self] at k; cases k), fun _ _ => by simpa using ht, fun k => (by rw [e4, hd] at k; cases k)⟩
theorem R5.sd' (ht : Td W') : R5 w a b c d Ta Tb Tc Td (upd done d) u W' :=
  ⟨fun _ k => (by rw [upd_self] at k; cases k), fun _ _ _ k => (by rw [upd_self] at k; cases k), fun _ _ k => (by rw [upd_self] at k; cases k), fun _ k => (by rw [upd_self] at k; cases k), fun _ => ht⟩
end
theorem Gr.own {wb W W' : World} {v : Value} (g : Gr wb W) (h : Only (fun b => v.ownBlock = some b) W W') (hb : ∀ b, v.ownBlock = some b → wb.heap.size ≤ b) : Gr wb W' :=
  ((g.only (fun x => wb.heap.size ≤ x)).trans (h.mono' (fun i e => hb i e))).gr (fun i hi e => by omega)
theorem OutR.onlyT {S : Nat → Prop} {W W' : World} {B : Nat} {v : Value} {L : List (List Int)} (h : OutR W B v L) (g : Only S W W') (h1 : ∀ b, v.ownBlock = some b → ¬ S b) (h2 : ∀ b, S b → ¬ Is3 W b) : OutR W' B v L := by
  obtain ⟨xs, k1, k2⟩ := h
  refine ⟨xs, ⟨k1.1, ?_⟩, fun j hj => ?_⟩
  · rcases k1.2 with k | ⟨b, cap, cur, e1, e2, e3, e4⟩
    · exact .inl k
    · subst e1
      exact .inr ⟨b, cap, cur, rfl, e2, (g.block b (Array.getElem?_eq_some_iff.1 e3).1 (h1 b (by simp [Value.ownBlock]))).trans e3, e4⟩
  · obtain ⟨ad, n, c, x1, x2, x3⟩ := k2 j hj
    have hs : ¬ S ad.block := fun e => h2 _ e x3
    exact ⟨ad, n, c, x1, x2.onlyAt g (fun ad2 e he => by cases e; exact hs he), x3.only g hs⟩
theorem OutR.one {W : World} {B : Nat} {v : Value} {L : List (List Int)} (h : OutR W B v L) : v.cells = #[v] ∧ v.oneCell' = true := by
  obtain ⟨xs, k1, _⟩ := h
  rcases k1.2 with ⟨rfl, _⟩ | ⟨b, cap, cur, rfl, _⟩
  · exact ⟨rfl, rfl⟩
  · exact ⟨rfl, rfl⟩
/-- a fleet's variable, laid behind wB: the rows so far, and the clashes -/
structure FgI (wB W : World) (v cl : Value) (L : List (List Int)) : Prop where
  g : Gr wB W
  b : W.heap[wB.heap.size]? = some (.cells #[v, cl] 25 (0, 0))
  o : OutR W (wB.heap.size + 1) v L
/-- the same, while the new rows are not stored yet -/
structure FgT (wB W : World) (v cl v2 : Value) (L : List (List Int)) : Prop where
  g : Gr wB W
  b : W.heap[wB.heap.size]? = some (.cells #[v, cl] 25 (0, 0))
  o : OutR W (wB.heap.size + 1) v2 L
section
variable {wB W W' : World} {v cl v2 : Value} {L L2 : List (List Int)}
theorem FgI.gr (h : FgI wB W v cl L) (g : Gr W W') : FgI wB W' v cl L := ⟨h.g.trans g, (Below.block g _ (Array.getElem?_eq_some_iff.1 h.b).1).trans h.b, h.o.gr g⟩
theorem FgI.lt (h : FgI wB W v cl L) : wB.heap.size + 1 ≤ W.heap.size := (Array.getElem?_eq_some_iff.1 h.b).1
theorem FgI.c0 (h : FgI wB W v cl L) : W.cell? ⟨wB.heap.size, 0, none⟩ = some v := cell_at h.b rfl
theorem FgI.c1 (h : FgI wB W v cl L) : W.cell? ⟨wB.heap.size, 1, none⟩ = some cl := cell_at h.b rfl
theorem FgI.push (h : FgI wB W v cl L) (hO : OutR W' (wB.heap.size + 1) v2 L2) (hon : Only (fun b => v.ownBlock = some b) W W') (hge : ∀ b, v.ownBlock = some b → wB.heap.size + 1 ≤ b) : FgT wB W' v cl v2 L2 :=
  ⟨Gr.own h.g hon (fun b e => by have := hge b e; omega), (hon.block _ h.lt (fun e => by have := hge _ e; omega)).trans h.b, hO⟩
theorem FgT.store (h : FgT wB W v cl v2 L) : ∃ W2, (Instr.storeAt 22 (.pointer (some ⟨wB.heap.size, 0, none⟩)) v2).run Try.prog W = .ok () W2 ∧ FgI wB W2 v2 cl L := by
  have hfz : W.frozen? ⟨wB.heap.size, 0, none⟩ = false := by
    unfold World.frozen?
    simp [h.b]
  have hon := Y.set_only W wB.heap.size 0 v2
  refine ⟨_, Y.st1 (Try.siz22 _) h.o.one.1 h.o.one.2 (cell_at h.b rfl) hfz, Y.Only.up h.g hon (Nat.le_refl _), ?_, h.o.onlyT hon ?_ ?_⟩
  · have := heap_setCell_same W wB.heap.size 0 _ 25 v2 h.b
    simpa using this
  · intro b e hS
    obtain ⟨xs, k1, _⟩ := h.o
    have := (own_block k1 e).1
    have hS : b = wB.heap.size := hS
    omega
  · rintro b rfl ⟨c2, fr, h3⟩
    rw [h.b] at h3
    cases h3
theorem FgI.done (h : FgI wB W v cl L) (hl : L.length < 1152921504606846976) : ∃ a c, v = .slice a L.length c ∧ RowsAt W a L.length L ∧ L.length ≤ c := h.o.rows hl
end
theorem Try.bs23_0 (w : World) : (Instr.buildSlice 23 0 #[]).run Try.prog w = .ok (.slice (some ⟨w.heap.size, 0, none⟩) 0 0) (w.alloc (.cells #[] 107)) := by kernel_rfl
theorem Try.bs22_v (a : Option Addr) (n c : Nat) (w : World) : (Instr.buildSlice 22 1 #[(0, .slice a n c)]).run Try.prog w = .ok (.slice (some ⟨w.heap.size, 0, none⟩) 1 1) (w.alloc (.cells #[.slice a n c] 26)) := by kernel_rfl
theorem Try.bs53_v (c v tg : Int) (d : ByteArray) (W : World) : (Instr.buildSlice 53 1 #[(0, .agg #[.int .i64 c, .int .i64 v, .string d, .int .i64 tg])]).run Try.prog W = .ok (.slice (some ⟨W.heap.size, 0, none⟩) 1 1) (W.alloc (.cells #[.int .i64 c, .int .i64 v, .string d, .int .i64 tg] 46)) := by kernel_rfl
theorem Try.bd25_v (a : Option Addr) (n c : Nat) (W : World) : (Instr.build 25 #[(1, .slice a n c)]).run Try.prog W = .ok (.agg #[.slice none 0 0, .slice a n c]) W := by kernel_rfl
theorem Try.bd46_v (a b : Int) (d : ByteArray) (W : World) : (Instr.build 46 #[(0, .int .i64 a), (1, .int .i64 b), (2, .string d)]).run Try.prog W = .ok (.agg #[.int .i64 a, .int .i64 b, .string d, .int .i64 0]) W := by kernel_rfl
theorem Try.new25v (w : World) : (Instr.alloc 25 true (.tuple #[])).run Try.prog w = .ok (.pointer (some ⟨w.heap.size, 0, none⟩)) (w.alloc (.cells #[.slice none 0 0, .slice none 0 0] 25)) := by kernel_rfl
theorem Try.new46v (w : World) : (Instr.alloc 46 true (.tuple #[])).run Try.prog w = .ok (.pointer (some ⟨w.heap.size, 0, none⟩)) (w.alloc (.cells #[.int .i64 0, .int .i64 0, .string ByteArray.empty, .int .i64 0] 46)) := by kernel_rfl
theorem Y.bAt1 {ρ : Operand → Value} {x : Operand} {v : Value} (h : ρ x = v) : [(1, x)].map (fun p : Nat × Operand => (p.1, ρ p.2)) = [(1, v)] := by simp [h]
theorem Y.bAt012 {ρ : Operand → Value} {x y z : Operand} {v1 v2 v3 : Value} (h1 : ρ x = v1) (h2 : ρ y = v2) (h3 : ρ z = v3) : [(0, x), (1, y), (2, z)].map (fun p : Nat × Operand => (p.1, ρ p.2)) = [(0, v1), (1, v2), (2, v3)] := by simp [h1, h2, h3]
end
section
open Go.RowKit

theorem inter1_any (n : Int) (w : World) : Calls Try.prog 75 #[.int .i64 n] w fun e w' => e = .returned (.bool (decide (n < 0))) ∧ Gr w w' := by
  go_enter Try.func75, Try.ntmps75
  go_wp2_with fail
  go_ret
  exact ⟨rfl, Gr.refl _⟩

set_option maxHeartbeats 1000000 in
theorem indexFunc72 (a : Option Addr) (n c : Nat) (xs : List Int) (w : World) (hx : Ints w a n xs) :
    Calls Try.prog 97 #[.slice a n c, .func (.func 75) #[] #[]] w (IdxPost (xs.any fun n => decide (n < 0)) w) := by
  have hn := hx.lt
  go_enter Try.func97, Try.ntmps97
  go_wp2
  go_loopw [8] (fun i wr => ∃ k : Nat, k ≤ n ∧ i = .int .i64 k ∧ Gr w wr ∧ Hid (∀ j, j < k → (decide (xs[j]?.getD 0 < 0)) = false)) (fun i _ => n - (intOf i).toNat)
  case atStart => exact ⟨0, Nat.zero_le _, rfl, Gr.refl _, Lib.hid (by intros; omega)⟩
  case round =>
    obtain ⟨k, hk, rfl, hg, hall⟩ := hrel
    by_cases hlt : k < n
    · obtain ⟨aa, rfl, hab, hac⟩ := (hx.gr hg).at hlt
      have HI := Lib.hid (inter1_any (xs[k]?.getD 0) wr)
      cases hb : (decide (xs[k]?.getD 0 < 0)) with
      | true =>
        rw [hb] at HI
        go_wp2_with (go_at_call 75; refine HI.out.mono ?_; rintro e w' ⟨rfl, hg2⟩)
        go_ret
        exact ⟨k, rfl, by rw [any_hit (p := fun n => decide (n < 0)) (by rw [hx.len]; exact hlt) hb]; simp, hg.trans hg2⟩
      | false =>
        rw [hb] at HI
        go_wp2_with (go_at_call 75; refine HI.out.mono ?_; rintro e w' ⟨rfl, hg2⟩)
        go_roundw
        case rel => exact ⟨k + 1, by omega, by go_num, hg.trans hg2, Lib.hid (fun j hj => by
          by_cases e : j = k
          · subst e; exact hb
          · exact hall.out j (by omega))⟩
        case measure => simp [intOf]; omega
    · obtain rfl : k = n := by omega
      go_wp2
      go_ret
      exact ⟨-1, rfl, by rw [any_none (p := fun n => decide (n < 0)) (fun j hj => hall.out j (by rw [← hx.len]; exact hj))]; simp, hg⟩

theorem containsFunc72 (a : Option Addr) (n c : Nat) (xs : List Int) (w : World) (hx : Ints w a n xs) :
    Calls Try.prog 74 #[.slice a n c, .func (.func 75) #[] #[]] w fun e w' => e = .returned (.bool (xs.any fun n => decide (n < 0))) ∧ Gr w w' := by
  go_enter Try.func74, Try.ntmps74
  go_wp2_with (go_at_call 97; refine (indexFunc72 _ _ _ _ _ hx).mono ?_; rintro e w' ⟨r, rfl, hr, hg⟩)
  go_ret
  exact ⟨rfl, by assumption⟩

theorem drop_at {ms : List Int} {k : Nat} (h : k < ms.length) : ms.drop k = (ms[k]?.getD 0) :: ms.drop (k + 1) := by
  rw [List.drop_eq_getElem_cons h]; simp [h]

set_option maxRecDepth 100000 in
set_option maxHeartbeats 4000000 in
theorem interrupt_any (ta ca a pa ma : Option Addr) (tn tc cn cc n c pn pc mn mc : Nat) (f : Fl) (xs ms : List Int) (L : List (List Int)) (bu : Int) (w : World) (hf : FlAt w ta tn ca cn f) (hx : Ints w a n xs) (hL : RowsAt w pa pn L) (hpc : pn ≤ pc) (hm : Ints w ma mn ms) :
    Calls Try.prog 30 #[.agg #[.slice ta tn tc, .slice ca cn cc], .slice a n c, .slice pa pn pc, .int .i64 bu, .slice ma mn mc] w (PlanPost w (intV f xs L bu ms) (intE f xs L bu ms)) := by
  have g1 := Gr.alloc w (.cells #[.slice ta tn tc, .slice ca cn cc] 25)
  have c0 := cell_new (w := w) (t := 25) (cs := #[.slice ta tn tc, .slice ca cn cc]) (j := 0) rfl
  have c1 := cell_new (w := w) (t := 25) (cs := #[.slice ta tn tc, .slice ca cn cc]) (j := 1) rfl
  obtain ⟨w1, hw1⟩ : ∃ w1, w.alloc (.cells #[.slice ta tn tc, .slice ca cn cc] 25) = w1 := ⟨_, rfl⟩
  rw [hw1] at g1 c0 c1
  have HC := Lib.hid (checkPlan_any ta ca a pa tn tc cn cc n c pn pc f xs L bu w1 (hf.gr g1) (hx.gr g1) (hL.gr g1))
  have hml := hm.lt
  by_cases he : (cpR f xs L bu).2 = 0
  · have heb : ((cpR f xs L bu).2 != 0) = false := by simp [he]
    have hpl := cpR_pl he
    have HE : Hid (intE f xs L bu ms = (if 64 < ms.length then 1 else if ms.any (fun n => decide (n < 0)) then 1 else 0)) := Lib.hid (by unfold intE; rw [if_pos he])
    have HPL := Lib.hid hpl
    have hn1 : 0 < n := by have := hpl.ok.n1; have := hpl.a.len; have := hx.len; omega
    have hn6 : n ≤ 6 := by have := hpl.ok.n6; have := hpl.a.len; have := hx.len; omega
    clear he hpl
    by_cases h64 : 64 < mn
    · have HP : Hid (intE f xs L bu ms = 1 ∧ intV f xs L bu ms = []) := Lib.hid (by
        have : intE f xs L bu ms = 1 := by rw [HE.out, hm.len, if_pos h64]
        exact ⟨this, by unfold intV; rw [this]; rfl⟩)
      have h64' : (64 : Int) < mn := by omega
      go_enter Try.func30, Try.ntmps30
      go_wp2_with fail
      refine HC.out.mono ?_
      rintro e w3 ⟨rfl, g3⟩
      go_wp2_with fail
      go_ret2
      exact ⟨none, 0, 0, by rw [HP.out.1]; rfl, by rw [HP.out.2]; exact RowsAt.nil _, g1.trans g3, Nat.le_refl _⟩
    have h64' : ¬ (64 : Int) < mn := by omega
    go_enter Try.func30, Try.ntmps30
    go_wp2_with fail
    refine HC.out.mono ?_
    rintro e w2 ⟨rfl, g2⟩
    have G2 := g1.trans g2
    have d0 := (g2.cell (lt_cell c0)).trans c0
    have d1 := (g2.cell (lt_cell c1)).trans c1
    clear hw1 c0 c1 HC g1 g2
    have HCF := Lib.hid (containsFunc72 ma mn mc ms w2 (hm.gr G2))
    go_wp2_with fail
    refine HCF.out.mono ?_
    rintro e w3 ⟨rfl, g3⟩
    have G3 := G2.trans g3
    have e0 := (g3.cell (lt_cell d0)).trans d0
    have e1 := (g3.cell (lt_cell d1)).trans d1
    clear d0 d1 HCF g3
    cases hany : ms.any (fun n => decide (n < 0)) with
    | true =>
      have HP : Hid (intE f xs L bu ms = 1 ∧ intV f xs L bu ms = []) := Lib.hid (by
        have : intE f xs L bu ms = 1 := by rw [HE.out, hm.len, if_neg h64, hany]; rfl
        exact ⟨this, by unfold intV; rw [this]; rfl⟩)
      go_wp2_with fail
      go_ret2
      exact ⟨none, 0, 0, by rw [HP.out.1]; rfl, by rw [HP.out.2]; exact RowsAt.nil _, G3, Nat.le_refl _⟩
    | false =>
      have HP : Hid (intE f xs L bu ms = 0 ∧ intV f xs L bu ms = intr f.times xs L ms) := Lib.hid (by
        have : intE f xs L bu ms = 0 := by rw [HE.out, hm.len, if_neg h64, hany]; rfl
        exact ⟨this, by unfold intV; rw [this]; rfl⟩)
      clear hany HE
      have hm3 := hm.gr G3
      have hf3 := hf.gr G3
      have HML := Lib.hid hm.len
      go_wp2_with fail
      go_loopw [1, 2, 10, 36] (fun s p o i wr => ∃ (k : Nat) (cur : List Int) (qa : Option Addr) (qc : Nat) (P : List (List Int)) (ra : Option Addr) (rn rc : Nat) (Lo : List (List Int)), k ≤ mn ∧ i = .int .i64 k ∧ s = .slice qa n qc ∧ p = .slice ra rn rc ∧ rn ≤ rc ∧ Gr w3 wr ∧ Ints w3 qa n cur ∧ RowsAt w3 ra rn P ∧ OutR wr w3.heap.size o Lo ∧ Lo.length = k ∧ Hid (PlOk f bu cur P) ∧ Hid (Lo ++ intr f.times cur P (ms.drop k) = intr f.times xs L ms)) (fun _ _ _ i _ => mn - (intOf i).toNat)
      case atStart => exact ⟨0, xs, a, c, L, pa, pn, pc, [], Nat.zero_le _, rfl, rfl, rfl, hpc, Gr.refl _, hx.gr G3, hL.gr G3, OutR.nil _ _, rfl, HPL, Lib.hid (by simp)⟩
      case round =>
        obtain ⟨k, cur, qa, qc, P, ra, rn, rc, Lo, hk, rfl, rfl, rfl, hrc, gr, hq, hP, hO, hlo, HPL, HT⟩ := hrel
        have m0 := (gr.cell (lt_cell e0)).trans e0
        have m1 := (gr.cell (lt_cell e1)).trans e1
        by_cases hlt : k < mn
        · obtain ⟨md, rfl, hmb, hmc⟩ := (hm3.gr gr).at hlt
          have hdr : Hid (ms.drop k = (ms[k]?.getD 0) :: ms.drop (k + 1)) := Lib.hid (drop_at (by rw [HML.out]; exact hlt))
          have wr_out := hO
          generalize hmi : ms[k]?.getD 0 = mi at *
          clear hmi
          cases P with
          | nil =>
            have hr0 : rn = 0 := by have := hP.len; simpa using this.symm
            subst hr0
            have HN : Hid ((Lo ++ [cur]) ++ intr f.times cur [] (ms.drop (k + 1)) = intr f.times xs L ms) := Lib.hid (by
              have := HT.out; rw [hdr.out] at this; simpa [intr] using this)
            go_wp2_with fail
            refine (wpIn_wide (n := 0)).1 ?_
            refine region_inv (F := Fence.wide) (by kernel_rfl) (by rfl) (by decide) (fun _ => trivial)
              (fun done' u W' => Kn [some (.slice ra 0 rc), some (.int .i64 0), some (.bool false), some (.bool false), none, none, none, none, none, none, none, none, some (.bool false)] done' u ∧ Gr wr W')
              (fun u => ⟨Kn.start _ _, Gr.drew wr⟩) ⟨?_, ?_, ?_, ?_, ?_, ?_, ?_, ?_, ?_, ?_, ?_, ?_, ?_, trivial⟩ ?_
            · rintro u done' W' hd hanc hclo ⟨hk, hg⟩
              refine op_plain (ro := none) rfl (fun c h => by cases h) fun K hK => ?_
              simp only [fillL, List.setIfInBounds_toArray, List.set_cons_zero, List.set_cons_succ, Nat.zero_add, Nat.reduceAdd] at hK ⊢
              go_simp
              exact hK _ _ ⟨hk.new rfl, hg⟩
            · rintro u done' W' hd hanc hclo ⟨hk, hg⟩
              have e0 := hk.get 0 rfl (hanc 0 (mem_of (by kernel_rfl)))
              refine op_plain (ro := none) rfl (fun c h => by cases h) fun K hK => ?_
              simp only [fillL, List.setIfInBounds_toArray, List.set_cons_zero, List.set_cons_succ, Nat.zero_add, Nat.reduceAdd, e0] at hK ⊢
              go_simp
              exact hK _ _ ⟨hk.new rfl, hg⟩
            · rintro u done' W' hd hanc hclo ⟨hk, hg⟩
              have e1 := hk.get 1 rfl (hanc 1 (mem_of (by kernel_rfl)))
              refine op_plain (ro := none) rfl (fun c h => by cases h) fun K hK => ?_
              simp only [fillL, List.setIfInBounds_toArray, List.set_cons_zero, List.set_cons_succ, Nat.zero_add, Nat.reduceAdd, e1] at hK ⊢
              go_simp
              exact hK _ _ ⟨hk.new rfl, hg⟩
            · rintro u done' W' hd hanc hclo ⟨hk, hg⟩
              have e2 := hk.get 2 rfl (hanc 2 (mem_of (by kernel_rfl)))
              refine op_plain (ro := none) rfl (fun c h => by cases h) fun K hK => ?_
              simp only [fillL, List.setIfInBounds_toArray, List.set_cons_zero, List.set_cons_succ, Nat.zero_add, Nat.reduceAdd, e2] at hK ⊢
              go_simp
              exact hK _ _ ⟨hk.new rfl, hg⟩
            · intro u done' W' hd hanc hclo hR
              have e3 := hR.1.get 3 rfl (hanc 3 (mem_of (by kernel_rfl)))
              with_reducible refine op_skip 3 true e3 rfl ?_ ?_ rfl ?_
              · decide
              · rfl
              · obtain ⟨hk, hg⟩ := hR
                exact ⟨hk.skip rfl, hg⟩
            · intro u done' W' hd hanc hclo hR
              have e3 := hR.1.get 3 rfl (hanc 3 (mem_of (by kernel_rfl)))
              with_reducible refine op_skip 3 true e3 rfl ?_ ?_ rfl ?_
              · decide
              · rfl
              · obtain ⟨hk, hg⟩ := hR
                exact ⟨hk.skip rfl, hg⟩
            · intro u done' W' hd hanc hclo hR
              have e3 := hR.1.get 3 rfl (hanc 3 (mem_of (by kernel_rfl)))
              with_reducible refine op_skip 3 true e3 rfl ?_ ?_ rfl ?_
              · decide
              · rfl
              · obtain ⟨hk, hg⟩ := hR
                exact ⟨hk.skip rfl, hg⟩
            · intro u done' W' hd hanc hclo hR
              have e3 := hR.1.get 3 rfl (hanc 3 (mem_of (by kernel_rfl)))
              with_reducible refine op_skip 3 true e3 rfl ?_ ?_ rfl ?_
              · decide
              · rfl
              · obtain ⟨hk, hg⟩ := hR
                exact ⟨hk.skip rfl, hg⟩
            · intro u done' W' hd hanc hclo hR
              have e3 := hR.1.get 3 rfl (hanc 3 (mem_of (by kernel_rfl)))
              with_reducible refine op_skip 3 true e3 rfl ?_ ?_ rfl ?_
              · decide
              · rfl
              · obtain ⟨hk, hg⟩ := hR
                exact ⟨hk.skip rfl, hg⟩
            · intro u done' W' hd hanc hclo hR
              have e3 := hR.1.get 3 rfl (hanc 3 (mem_of (by kernel_rfl)))
              with_reducible refine op_skip 3 true e3 rfl ?_ ?_ rfl ?_
              · decide
              · rfl
              · obtain ⟨hk, hg⟩ := hR
                exact ⟨hk.skip rfl, hg⟩
            · intro u done' W' hd hanc hclo hR
              have e3 := hR.1.get 3 rfl (hanc 3 (mem_of (by kernel_rfl)))
              with_reducible refine op_skip 3 true e3 rfl ?_ ?_ rfl ?_
              · decide
              · rfl
              · obtain ⟨hk, hg⟩ := hR
                exact ⟨hk.skip rfl, hg⟩
            · intro u done' W' hd hanc hclo hR
              have e3 := hR.1.get 3 rfl (hanc 3 (mem_of (by kernel_rfl)))
              with_reducible refine op_skip 3 true e3 rfl ?_ ?_ rfl ?_
              · decide
              · rfl
              · obtain ⟨hk, hg⟩ := hR
                exact ⟨hk.skip rfl, hg⟩
            · rintro u done' W' hd hanc hclo ⟨hk, hg⟩
              have e3 := hk.get 3 rfl (hanc 3 (mem_of (by kernel_rfl)))
              refine op_plain (ro := none) rfl (fun c h => by cases h) fun K hK => ?_
              simp only [fillL, List.setIfInBounds_toArray, List.set_cons_zero, List.set_cons_succ, Nat.zero_add, Nat.reduceAdd, e3] at hK ⊢
              go_simp
              exact hK _ _ ⟨hk.new rfl, hg⟩
            · rintro u W' ⟨done', hdn, hk, hg⟩
              have e12 := hk.get 12 rfl (hdn 12 (by decide))
              have W'_out := wr_out.gr hg
              clear hk hdn
              simp only [fillL, List.setIfInBounds_toArray, List.set_cons_zero, List.set_cons_succ, Nat.zero_add, Nat.reduceAdd, e12]
              obtain ⟨ad, rfl, _, _⟩ := (hq.gr (gr.trans hg)).at hn1
              have HCN := Lib.hid (clone_any (some ad) n qc cur W' (hq.gr (gr.trans hg)) hn1 (by omega))
              have hlc := (hq.gr (gr.trans hg)).len
              go_wp2_with fail
              refine HCN.out.mono ?_
              rintro e w9 ⟨g9, gc, rfl, hge9, hgi, hg9, hg3⟩
              rw [hlc] at hgi ⊢
              have G9 := (gr.trans hg).trans hg9
              have hO9 := (W'_out).gr (hg9.allocR (.cells #[.slice (some ⟨g9, 0, none⟩) n gc] 26))
              have hy9 := hgi.gr (Gr.alloc w9 (.cells #[.slice (some ⟨g9, 0, none⟩) n gc] 26))
              have h39 := hg3.gr (Gr.alloc w9 (.cells #[.slice (some ⟨g9, 0, none⟩) n gc] 26))
              have G10 := G9.allocR (.cells #[.slice (some ⟨g9, 0, none⟩) n gc] 26)
              have hg10 := heap_alloc_new w9 (.cells #[.slice (some ⟨g9, 0, none⟩) n gc] 26)
              clear HCN hgi hg3 hg9
              go_wp2_with (at_builtin; refine wpList_push rfl rfl rfl rfl hg10 hO9 G10 hy9 h39 (by omega) ?_; intro v' w11 hO11 G11 _)
              clear hO9 hy9 h39 G10 hg10
              go_wp2_with fail
              go_roundw
              case rel => exact ⟨k + 1, cur, some ad, qc, [], ra, 0, rc, Lo ++ [cur], by omega, by go_num, rfl, rfl, hrc, G11, hq, hP, hO11, by simp [hlo], HPL, HN⟩
              case measure => simp [intOf]; omega
          | cons s P =>
            obtain ⟨rn, rfl⟩ : ∃ m, rn = m + 1 := ⟨P.length, by have := hP.len; simpa using this.symm⟩
            obtain ⟨pd, ya, yn, yc, rfl, hpb, hpcell, hyi⟩ := hP.at (j := 0) (by omega)
            have hst := HPL.out.step
            have hyn : yn = n := by rw [← hyi.len]; simp; rw [hst.2.len, ← HPL.out.a.len, hq.len]
            subst hyn
            obtain ⟨n, hnn⟩ : ∃ n, n = yn := ⟨_, rfl⟩
            subst hnn
            have hyi : Ints w3 ya n s := by simpa using hyi
            have hadd0 : pd.add 0 = pd := by unfold Addr.add; rfl
            rw [hadd0] at hpcell
            have pcell := (gr.cell (lt_cell hpcell)).trans hpcell
            obtain ⟨ra2, hra2, hP2⟩ : ∃ ra2, (if rc = 1 then some pd else some ⟨pd.block, pd.off + 1, none⟩) = ra2 ∧ RowsAt w3 ra2 rn P := by
              refine ⟨_, rfl, ?_⟩
              split
              · obtain rfl : rn = 0 := by omega
                have hPl := hP.len
                obtain rfl : P = [] := List.eq_nil_of_length_eq_zero (by simpa using hPl)
                exact ⟨rfl, by omega, fun j hj => by omega⟩
              · have hp1 : pd.add 1 = ⟨pd.block, pd.off + 1, none⟩ := by unfold Addr.add; rfl
                rw [← hp1]; exact hP.tail1
            have HDU : Hid (∀ W, Gr wr W → Calls Try.prog 61 #[.agg #[.slice ta tn tc, .slice ca cn cc], .slice qa n qc, .slice ya n yc] W fun e w' => e = .returned (.int .i64 (dur f.times cur s)) ∧ Gr W w') := Lib.hid (fun W g => duration_any ta ca qa ya tn tc cn cc n qc yc f cur s W (hf3.gr (gr.trans g)) HPL.out.ok (hq.gr (gr.trans g)) (hyi.gr (gr.trans g)) (fun c hc => (HPL.out.a.ver c hc).1) hst.2 (fun c hc => aboveV_le (stepsB_true hst.1).1 c (by rw [hst.2.len]; exact hc)))
            obtain ⟨tb, htb, HTB⟩ : ∃ tb, decide (dur f.times cur s ≤ mi) = tb ∧ Hid (tb = decide (dur f.times cur s ≤ mi)) := ⟨_, rfl, Lib.hid rfl⟩
            have HTL := Lib.hid HPL.out.tail
            clear hpb hpcell hst
            go_wp2_with fail
            refine (wpIn_wide (n := 0)).1 ?_
            refine region_inv (F := Fence.wide) (by kernel_rfl) (by rfl) (by decide) (fun _ => trivial)
              (fun done' u W' => Kn [some (.slice (some pd) (rn + 1) rc), some (.int .i64 ((rn + 1 : Nat) : Int)), some (.bool true), some (.bool true), some (.agg #[.slice ta tn tc, .slice ca cn cc]), some (.slice qa n qc), some (.slice (some pd) (rn + 1) rc), some (.pointer (some pd)), some (.slice ya n yc), some (.int .i64 (dur f.times cur s)), some (.int .i64 mi), some (.bool tb), some (.bool tb)] done' u ∧ Gr wr W')
              (fun u => ⟨Kn.start _ _, Gr.drew wr⟩) ⟨?_, ?_, ?_, ?_, ?_, ?_, ?_, ?_, ?_, ?_, ?_, ?_, ?_, trivial⟩ ?_
            · rintro u done' W' hd hanc hclo ⟨hk, hg⟩
              refine op_plain (ro := none) rfl (fun c h => by cases h) fun K hK => ?_
              simp only [fillL, List.setIfInBounds_toArray, List.set_cons_zero, List.set_cons_succ, Nat.zero_add, Nat.reduceAdd] at hK ⊢
              go_simp
              exact hK _ _ ⟨hk.new rfl, hg⟩
            · rintro u done' W' hd hanc hclo ⟨hk, hg⟩
              have e0 := hk.get 0 rfl (hanc 0 (mem_of (by kernel_rfl)))
              refine op_plain (ro := none) rfl (fun c h => by cases h) fun K hK => ?_
              simp only [fillL, List.setIfInBounds_toArray, List.set_cons_zero, List.set_cons_succ, Nat.zero_add, Nat.reduceAdd, e0] at hK ⊢
              go_simp
              exact hK _ _ ⟨hk.new rfl, hg⟩
            · rintro u done' W' hd hanc hclo ⟨hk, hg⟩
              have e1 := hk.get 1 rfl (hanc 1 (mem_of (by kernel_rfl)))
              refine op_plain (ro := none) rfl (fun c h => by cases h) fun K hK => ?_
              simp only [fillL, List.setIfInBounds_toArray, List.set_cons_zero, List.set_cons_succ, Nat.zero_add, Nat.reduceAdd, e1] at hK ⊢
              go_simp
              exact hK _ _ ⟨hk.new rfl, hg⟩
            · rintro u done' W' hd hanc hclo ⟨hk, hg⟩
              have e2 := hk.get 2 rfl (hanc 2 (mem_of (by kernel_rfl)))
              refine op_plain (ro := none) rfl (fun c h => by cases h) fun K hK => ?_
              simp only [fillL, List.setIfInBounds_toArray, List.set_cons_zero, List.set_cons_succ, Nat.zero_add, Nat.reduceAdd, e2] at hK ⊢
              go_simp
              exact hK _ _ ⟨hk.new rfl, hg⟩
            · intro u done' W' hd hanc hclo hR
              have hk := hR.1
              have e3 := hk.get 3 rfl (hanc 3 (mem_of (by kernel_rfl)))
              with_reducible refine op_meetIn 3 true e3 ?_ ?_ ?_ ?_
              · decide
              · rfl
              · rfl
              refine op_in (ro := none) ?_ ?_
              · intro c h; cases h
              intro K hK
              have hg := hR.2
              have c_m0 := (hg.cell (lt_cell m0)).trans m0
              have c_m1 := (hg.cell (lt_cell m1)).trans m1
              simp only [fillL, List.setIfInBounds_toArray, List.set_cons_zero, List.set_cons_succ, Nat.zero_add, Nat.reduceAdd, e3] at hK ⊢
              go_simp
              exact hK _ _ ⟨hk.new rfl, hg⟩
            · intro u done' W' hd hanc hclo hR
              have hk := hR.1
              have e3 := hk.get 3 rfl (hanc 3 (mem_of (by kernel_rfl)))
              with_reducible refine op_meetIn 3 true e3 ?_ ?_ ?_ ?_
              · decide
              · rfl
              · rfl
              refine op_in (ro := none) ?_ ?_
              · intro c h; cases h
              intro K hK
              have hg := hR.2
              simp only [fillL, List.setIfInBounds_toArray, List.set_cons_zero, List.set_cons_succ, Nat.zero_add, Nat.reduceAdd, e3] at hK ⊢
              go_simp
              exact hK _ _ ⟨hk.new rfl, hg⟩
            · intro u done' W' hd hanc hclo hR
              have hk := hR.1
              have e3 := hk.get 3 rfl (hanc 3 (mem_of (by kernel_rfl)))
              with_reducible refine op_meetIn 3 true e3 ?_ ?_ ?_ ?_
              · decide
              · rfl
              · rfl
              refine op_in (ro := none) ?_ ?_
              · intro c h; cases h
              intro K hK
              have hg := hR.2
              simp only [fillL, List.setIfInBounds_toArray, List.set_cons_zero, List.set_cons_succ, Nat.zero_add, Nat.reduceAdd, e3] at hK ⊢
              go_simp
              exact hK _ _ ⟨hk.new rfl, hg⟩
            · intro u done' W' hd hanc hclo hR
              have hk := hR.1
              have e3 := hk.get 3 rfl (hanc 3 (mem_of (by kernel_rfl)))
              have e6 := hk.get 6 rfl (hanc 6 (mem_of (by kernel_rfl)))
              with_reducible refine op_meetIn 3 true e3 ?_ ?_ ?_ ?_
              · decide
              · rfl
              · rfl
              refine op_in (ro := none) ?_ ?_
              · intro c h; cases h
              intro K hK
              have hg := hR.2
              simp only [fillL, List.setIfInBounds_toArray, List.set_cons_zero, List.set_cons_succ, Nat.zero_add, Nat.reduceAdd, e3, e6] at hK ⊢
              go_simp
              exact hK _ _ ⟨hk.new rfl, hg⟩
            · intro u done' W' hd hanc hclo hR
              have hk := hR.1
              have e3 := hk.get 3 rfl (hanc 3 (mem_of (by kernel_rfl)))
              have e7 := hk.get 7 rfl (hanc 7 (mem_of (by kernel_rfl)))
              with_reducible refine op_meetIn 3 true e3 ?_ ?_ ?_ ?_
              · decide
              · rfl
              · rfl
              refine op_in (ro := none) ?_ ?_
              · intro c h; cases h
              intro K hK
              have hg := hR.2
              have c_pcell := (hg.cell (lt_cell pcell)).trans pcell
              simp only [fillL, List.setIfInBounds_toArray, List.set_cons_zero, List.set_cons_succ, Nat.zero_add, Nat.reduceAdd, e3, e7] at hK ⊢
              go_simp
              exact hK _ _ ⟨hk.new rfl, hg⟩
            · intro u done' W' hd hanc hclo hR
              have hk := hR.1
              have e3 := hk.get 3 rfl (hanc 3 (mem_of (by kernel_rfl)))
              have e4 := hk.get 4 rfl (hanc 4 (mem_of (by kernel_rfl)))
              have e5 := hk.get 5 rfl (hanc 5 (mem_of (by kernel_rfl)))
              have e8 := hk.get 8 rfl (hanc 8 (mem_of (by kernel_rfl)))
              with_reducible refine op_meetIn 3 true e3 ?_ ?_ ?_ ?_
              · decide
              · rfl
              · rfl
              refine op_in (ro := none) ?_ ?_
              · intro c h; cases h
              intro K hK
              have hg := hR.2
              have HCON := Lib.hid (HDU.out W' hg)
              simp only [fillL, List.setIfInBounds_toArray, List.set_cons_zero, List.set_cons_succ, Nat.zero_add, Nat.reduceAdd, e3, e4, e5, e8] at hK ⊢
              go_simp
              refine HCON.out.mono ?_
              rintro e w7 ⟨rfl, hg6⟩
              exact hK _ _ ⟨hk.new rfl, hg.trans hg6⟩
            · intro u done' W' hd hanc hclo hR
              have hk := hR.1
              have e3 := hk.get 3 rfl (hanc 3 (mem_of (by kernel_rfl)))
              with_reducible refine op_meetIn 3 true e3 ?_ ?_ ?_ ?_
              · decide
              · rfl
              · rfl
              refine op_in (ro := none) ?_ ?_
              · intro c h; cases h
              intro K hK
              have hg := hR.2
              simp only [fillL, List.setIfInBounds_toArray, List.set_cons_zero, List.set_cons_succ, Nat.zero_add, Nat.reduceAdd, e3] at hK ⊢
              go_simp
              exact hK _ _ ⟨hk.new rfl, hg⟩
            · intro u done' W' hd hanc hclo hR
              have hk := hR.1
              have e3 := hk.get 3 rfl (hanc 3 (mem_of (by kernel_rfl)))
              have e9 := hk.get 9 rfl (hanc 9 (mem_of (by kernel_rfl)))
              have e10 := hk.get 10 rfl (hanc 10 (mem_of (by kernel_rfl)))
              with_reducible refine op_meetIn 3 true e3 ?_ ?_ ?_ ?_
              · decide
              · rfl
              · rfl
              refine op_in (ro := none) ?_ ?_
              · intro c h; cases h
              intro K hK
              have hg := hR.2
              simp only [fillL, List.setIfInBounds_toArray, List.set_cons_zero, List.set_cons_succ, Nat.zero_add, Nat.reduceAdd, e3, e9, e10] at hK ⊢
              go_simp
              try rw [htb]
              exact hK _ _ ⟨hk.new rfl, hg⟩
            · rintro u done' W' hd hanc hclo ⟨hk, hg⟩
              have e3 := hk.get 3 rfl (hanc 3 (mem_of (by kernel_rfl)))
              have e11 := hk.get 11 rfl (hanc 11 (mem_of (by kernel_rfl)))
              refine op_plain (ro := none) rfl (fun c h => by cases h) fun K hK => ?_
              simp only [fillL, List.setIfInBounds_toArray, List.set_cons_zero, List.set_cons_succ, Nat.zero_add, Nat.reduceAdd, e3, e11] at hK ⊢
              go_simp
              exact hK _ _ ⟨hk.new rfl, hg⟩
            · rintro u W' ⟨done', hdn, hk, hg⟩
              have e12 := hk.get 12 rfl (hdn 12 (by decide))
              have W'_out := wr_out.gr hg
              clear hk hdn
              simp only [fillL, List.setIfInBounds_toArray, List.set_cons_zero, List.set_cons_succ, Nat.zero_add, Nat.reduceAdd, e12]
              have G7 := gr.trans hg
              have pcell := (hg.cell (lt_cell pcell)).trans pcell
              obtain ⟨w7, hw7⟩ : ∃ w7, w7 = W' := ⟨_, rfl⟩
              subst hw7
              have w7_out := W'_out
              clear hg m0 m1
              cases tb with
              | true =>
                have hle : dur f.times cur s ≤ mi := by simpa using HTB.out
                have HN : Hid ((Lo ++ [s]) ++ intr f.times s P (ms.drop (k + 1)) = intr f.times xs L ms) := Lib.hid (by
                  have := HT.out; rw [hdr.out] at this; simpa [intr, hle] using this)
                clear hle htb
                go_wp2_with fail
                go_region
                have hg := Gr.drew w7
                try simp only [hra2]
                obtain ⟨w8, hw8⟩ : ∃ w8, w7.drew = w8 := ⟨_, rfl⟩
                rw [hw8] at hg ⊢
                clear hw8
                have w8_out := w7_out.gr hg
                obtain ⟨ad, rfl, _, _⟩ := (hyi.gr (G7.trans hg)).at hn1
                have HCN := Lib.hid (clone_any (some ad) n yc s w8 (hyi.gr (G7.trans hg)) hn1 (by omega))
                have hlc := (hyi.gr (G7.trans hg)).len
                go_wp2_with fail
                refine HCN.out.mono ?_
                rintro e w9 ⟨g9, gc, rfl, hge9, hgi, hg9, hg3⟩
                rw [hlc] at hgi ⊢
                have G9 := (G7.trans hg).trans hg9
                have hO9 := (w8_out).gr (hg9.allocR (.cells #[.slice (some ⟨g9, 0, none⟩) n gc] 26))
                have hy9 := hgi.gr (Gr.alloc w9 (.cells #[.slice (some ⟨g9, 0, none⟩) n gc] 26))
                have h39 := hg3.gr (Gr.alloc w9 (.cells #[.slice (some ⟨g9, 0, none⟩) n gc] 26))
                have G10 := G9.allocR (.cells #[.slice (some ⟨g9, 0, none⟩) n gc] 26)
                have hg10 := heap_alloc_new w9 (.cells #[.slice (some ⟨g9, 0, none⟩) n gc] 26)
                clear HCN hgi hg3 hg9
                go_wp2_with (at_builtin; refine wpList_push rfl rfl rfl rfl hg10 hO9 G10 hy9 h39 (by omega) ?_; intro v' w11 hO11 G11 _)
                clear hO9 hy9 h39 G10 hg10
                go_wp2_with fail
                go_roundw
                case rel => exact ⟨k + 1, s, some ad, yc, P, ra2, rn, rc - 1, Lo ++ [s], by omega, by go_num, rfl, rfl, by omega, G11, hyi, hP2, hO11, by simp [hlo], HTL, HN⟩
                case measure => simp [intOf]; omega
              | false =>
                have hle : ¬ dur f.times cur s ≤ mi := by simpa using HTB.out
                have HN : Hid ((Lo ++ [cur]) ++ intr f.times cur (s :: P) (ms.drop (k + 1)) = intr f.times xs L ms) := Lib.hid (by
                  have := HT.out; rw [hdr.out] at this; simpa [intr, hle] using this)
                clear hle htb
                obtain ⟨ad, rfl, _, _⟩ := (hq.gr G7).at hn1
                have HCN := Lib.hid (clone_any (some ad) n qc cur w7 (hq.gr G7) hn1 (by omega))
                have hlc := (hq.gr G7).len
                go_wp2_with fail
                refine HCN.out.mono ?_
                rintro e w9 ⟨g9, gc, rfl, hge9, hgi, hg9, hg3⟩
                rw [hlc] at hgi ⊢
                have G9 := (G7).trans hg9
                have hO9 := (w7_out).gr (hg9.allocR (.cells #[.slice (some ⟨g9, 0, none⟩) n gc] 26))
                have hy9 := hgi.gr (Gr.alloc w9 (.cells #[.slice (some ⟨g9, 0, none⟩) n gc] 26))
                have h39 := hg3.gr (Gr.alloc w9 (.cells #[.slice (some ⟨g9, 0, none⟩) n gc] 26))
                have G10 := G9.allocR (.cells #[.slice (some ⟨g9, 0, none⟩) n gc] 26)
                have hg10 := heap_alloc_new w9 (.cells #[.slice (some ⟨g9, 0, none⟩) n gc] 26)
                clear HCN hgi hg3 hg9
                go_wp2_with (at_builtin; refine wpList_push rfl rfl rfl rfl hg10 hO9 G10 hy9 h39 (by omega) ?_; intro v' w11 hO11 G11 _)
                clear hO9 hy9 h39 G10 hg10
                go_wp2_with fail
                go_roundw
                case rel => exact ⟨k + 1, cur, some ad, qc, s :: P, some pd, rn + 1, rc, Lo ++ [cur], by omega, by go_num, rfl, rfl, hrc, G11, hq, hP, hO11, by simp [hlo], HPL, HN⟩
                case measure => simp [intOf]; omega
        · obtain rfl : k = mn := by omega
          have HF : Hid (Lo = intV f xs L bu ms) := Lib.hid (by
            have := HT.out; rw [List.drop_eq_nil_of_le (by rw [HML.out]; exact Nat.le_refl _)] at this
            rw [HP.out.2, ← this]; cases P <;> simp [intr])
          go_wp2_with fail
          go_ret2
          rw [← HF.out, HP.out.1]
          exact hO.post (G3.trans gr) (by omega)
  · have heb : ((cpR f xs L bu).2 != 0) = true := by simp [he]
    have HP : Hid (intE f xs L bu ms = (cpR f xs L bu).2 ∧ intV f xs L bu ms = []) := Lib.hid (by
      have : intE f xs L bu ms = (cpR f xs L bu).2 := by unfold intE; rw [if_neg he]
      exact ⟨this, by unfold intV; rw [this, if_neg he]⟩)
    clear he
    go_enter Try.func30, Try.ntmps30
    go_wp2_with fail
    refine HC.out.mono ?_
    rintro e w3 ⟨rfl, g3⟩
    go_wp2_with fail
    go_ret2
    exact ⟨none, 0, 0, by rw [HP.out.1]; rfl, by rw [HP.out.2]; exact RowsAt.nil _, g1.trans g3, Nat.le_refl _⟩
end
end Go.Proofs.Ytaidcocjcidggaa
