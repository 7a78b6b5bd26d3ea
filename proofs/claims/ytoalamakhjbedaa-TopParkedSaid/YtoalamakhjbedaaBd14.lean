/- Several texts of this claim in one file. (1) Contract: Count. (2) Contract: counts returns true. (3) Contract: TopParked returns true. (4) An argument that came in: two numbers in a row. Nothing of the program is proved here. -/
import Derived.Test.YtoalamakhjbedaaBd13
import Derived.Test.YtoalamakhjbedaaBd11
import Derived.Test.YtoalamakhjbedaaBd7
import Derived.Test.YtoalamakhjbedaaBd3
import Derived.WideKeyArr2
namespace Go.Proofs.Ytoalamakhjbedaa
set_option linter.unusedSimpArgs false
set_option linter.unusedVariables false
section
open Go.RowKit

theorem Try.mk129 (w : World) : (Instr.makeMap 129 none).run Try.prog w = .ok (.map (some w.heap.size)) (w.alloc (.map #[] 0)) := by kernel_rfl

set_option maxRecDepth 100000 in
set_option maxHeartbeats 400000 in
theorem Count_any (m : Nat) (oa : Option Addr) (on oc lb lc : Nat) (f0a : Option Addr) (f0n f0c : Nat) (f0 : List Int) (sv : Nat → ByteArray) (F1 F2 F3 : Fo) (r1 gn v3 c : Int) (K : List (Int × Int)) (fa : Option Addr) (fn fc : Nat) (f : List Int) (w : World) (hT : SrAt w oa on sv) (hc0 : w.cell? ⟨lb, 0, none⟩ = some (.slice f0a f0n f0c)) (hf0 : Ints w f0a f0n f0) (hfb : ∀ ad, f0a = some ad → ad.block < w.heap.size) (hfn : f0n ≤ 1000) (hnm : ∀ i, i < on → ((∀ k, k < (sv i).size → 97 ≤ (((sv i)[k]?.getD 0).toNat : Int) ∧ (((sv i)[k]?.getD 0).toNat : Int) ≤ 122) ∧ 1 ≤ (sv i).size ∧ (sv i).size ≤ 8 ∧ ((sv i).toList == (ByteArray.mk #[121, 101, 115]).toList) = false ∧ ((sv i).toList == (ByteArray.mk #[110, 111]).toList) = false)) (hdn : ∀ i j, j < i → i < on → ((sv i).toList == (sv j).toList) = false) (hon : on ≤ 40) (hoc : on ≤ oc) (hv0 : validB on f0 = true) (hf : Ints w fa fn f) (hfb2 : ∀ ad, fa = some ad → ad.block < w.heap.size) (hfn2 : fn ≤ 1000) (hv : validB on f = true) (h1 : Fo.all m (Fo.new on) 1 [f0] = some (F1, r1)) (h2 : Fo.grown m F1 f = some (F2, gn)) (h3 : Fo.and m F2 1 [r1, gn] = some (F3, v3)) (h4 : Fo.count F3 m [] v3 0 = some (K, c)) :
  Calls Try.prog 66 #[.agg #[.slice oa on oc, .slice (some ⟨lb, 0, none⟩) 1 lc], .slice fa fn fc] w fun e w' => e = .returned (.tuple #[Vi c, Vi 0]) ∧ Gr w w' := by
 have G := Gr.refl w
 have hlb := lt_cell hc0
 refine Y.calls 30 Try.func66 rfl rfl ?_
 intro ac F0
 have F : Fr ac 30 [(0, .agg #[.slice oa on oc, .slice (some ⟨lb, 0, none⟩) 1 lc]), (1, .slice fa fn fc)] := F0.sub _
 clear F0
 refine Y.seq ?_
 refine Y.lit (by kernel_rfl) ?_
 refine Y.pv F (X.box rfl (F.e 0 rfl) X.bx) ?_;clear F ac;intro ac F
 have g := Gr.alloc w (.cells #[.slice oa on oc, .slice (some ⟨lb, 0, none⟩) 1 lc] 95)
 have hb := heap_alloc_new w (.cells #[.slice oa on oc, .slice (some ⟨lb, 0, none⟩) 1 lc] 95)
 have hbl : w.heap.size < (w.alloc (.cells #[.slice oa on oc, .slice (some ⟨lb, 0, none⟩) 1 lc] 95)).heap.size := by simp
 have hC2 : RCells (w.alloc (.cells #[.slice oa on oc, .slice (some ⟨lb, 0, none⟩) 1 lc] 95)) [(Ad w.heap.size 0, .slice oa on oc), (Ad w.heap.size 1, .slice (some ⟨lb, 0, none⟩) 1 lc)] := (RCells.nil w).box (b := w.heap.size) #[.slice oa on oc, .slice (some ⟨lb, 0, none⟩) 1 lc] 95 rfl
 generalize w.alloc (.cells #[.slice oa on oc, .slice (some ⟨lb, 0, none⟩) 1 lc] 95) = w3 at *
 replace G := G.trans g
 have hC := hC2
 clear hC2
 clear g hb hbl
 refine Y.pv F (X.assign rfl (X.kc (Vi 0) rfl)) ?_;clear F ac;intro ac F
 refine Y.pv F (X.assign rfl (X.kc (Vi 0) rfl)) ?_;clear F ac;intro ac F
 refine Y.nil ?_
 replace F : Fr ac 30 [(1, .slice fa fn fc), (2, Vp w.heap.size)] := F.sub _
 refine X.thenN ?_
 refine Y.seq ?_
 refine Y.lit (by kernel_rfl) ?_
 refine Y.pv F (X.load rfl (F.e 2 rfl) (X.ldN (Try.agg95 _) (Try.siz95 _) (Y.atz (⟨w.heap.size, 0, none⟩) (Y.AtFrom.cons (hC.at 0 rfl) (Y.AtFrom.cons (hC.at 1 rfl) (Y.AtFrom.nil _ _ _)))))) ?_;clear F ac;intro ac F
 refine Y.pv F (X.move rfl (F.e 1 rfl)) ?_;clear F ac;intro ac F
 refine Y.pv F (X.bs rfl (X.b1 (F.e 11 rfl)) (Try.bs93_1 _ _ _ _)) ?_;clear F ac;intro ac F
 have g := Gr.alloc w3 (.cells #[.slice fa fn fc] 92)
 have hb := heap_alloc_new w3 (.cells #[.slice fa fn fc] 92)
 have hbl : w3.heap.size < (w3.alloc (.cells #[.slice fa fn fc] 92)).heap.size := by simp
 have hC2 : RCells (w3.alloc (.cells #[.slice fa fn fc] 92)) [(Ad w.heap.size 0, .slice oa on oc), (Ad w.heap.size 1, .slice (some ⟨lb, 0, none⟩) 1 lc), (Ad w3.heap.size 0, .slice fa fn fc)] := hC.box (b := w3.heap.size) #[.slice fa fn fc] 92 rfl
 generalize w3.alloc (.cells #[.slice fa fn fc] 92) = w4 at *
 replace G := G.trans g
 replace hC := hC2
 clear hC2
 clear g hb hbl
 refine Y.pcall F (X.w0 rfl) rfl (X.enter (F := 79) rfl (X.kc (.func (.func 79) #[] #[]) rfl) (X.a2 (F.e 10 rfl) (F.e 12 rfl)) (enters_of Try.func79 (by kernel_rfl) rfl _)) (fbegin_any m oa on oc lb lc f0a f0n f0c f0 sv F1 r1 (some ⟨w3.heap.size, 0, none⟩) 1 1 [f] w4 (hT.gr G) ((G.cell (lt_cell hc0)).trans hc0) (hf0.gr G) (fun ad e => Nat.lt_of_lt_of_le (hfb ad e) G.size) hfn hnm hdn hon hoc hv0 (rows_one (hC.at 2 rfl) (hf.gr G)) (val_one hv) h1) ?_
 clear F ac
 rintro e w5 ⟨t, T, rfl, hF1, hT1, g⟩
 refine ⟨_, rfl, ?_⟩
 intro ac F
 replace hT1 : ∀ b, T b → w.heap.size ≤ b := fun b e => Nat.le_trans G.size (hT1 b e)
 replace G := G.trans g
 replace hC := hC.gr g
 clear g
 refine Y.pv F (X.move rfl (F.e 13 rfl)) ?_;clear F ac;intro ac F
 refine Y.pv F (X.extract rfl (F.e 9 rfl) rfl) ?_;clear F ac;intro ac F
 refine Y.pv F (X.extract rfl (F.e 9 rfl) rfl) ?_;clear F ac;intro ac F
 refine Y.pv F (X.extract rfl (F.e 9 rfl) rfl) ?_;clear F ac;intro ac F
 refine Y.pv F (X.assign rfl (F.e 14 rfl)) ?_;clear F ac;intro ac F
 refine Y.pv F (X.assign rfl (F.e 15 rfl)) ?_;clear F ac;intro ac F
 refine Y.pv F (X.assign rfl (F.e 16 rfl)) ?_;clear F ac;intro ac F
 refine Y.nil ?_
 replace F : Fr ac 30 [(1, .slice fa fn fc), (6, Vp t), (7, Vi r1), (8, Vi 0)] := F.sub _
 refine X.thenN ?_
 refine Y.seq ?_
 refine Y.seq ?_
 refine Y.lit (by kernel_rfl) ?_
 refine Y.pv F (X.move rfl (F.e 8 rfl)) ?_;clear F ac;intro ac F
 refine Y.pval F (X.w0 rfl) rfl (X.binop rfl (F.e 17 rfl) (X.kc (Vi 0) rfl) (X.neqI Try.underlying26 (show ((0 : Int) != 0) = false by simp))) ?_;clear F ac;intro ac F
 refine Y.nil ?_
 replace F : Fr ac 30 [(1, .slice fa fn fc), (6, Vp t), (7, Vi r1), (8, Vi 0), (18, .bool false)] := F.sub _
 refine X.thenN ?_
 refine Y.condF (F.e 18 rfl) ?_
 refine Y.skip ?_
 refine X.thenN ?_
 refine Y.seq ?_
 refine Y.lit (by kernel_rfl) ?_
 refine Y.pv F (X.move rfl (F.e 6 rfl)) ?_;clear F ac;intro ac F
 refine Y.pv F (X.move rfl (F.e 6 rfl)) ?_;clear F ac;intro ac F
 refine Y.pv F (X.move rfl (F.e 7 rfl)) ?_;clear F ac;intro ac F
 refine Y.pv F (X.move rfl (F.e 6 rfl)) ?_;clear F ac;intro ac F
 refine Y.pv F (X.move rfl (F.e 1 rfl)) ?_;clear F ac;intro ac F
 refine Y.pcall F (X.w0 rfl) rfl (X.enter (F := 82) rfl (X.kc (.func (.func 82) #[] #[]) rfl) (X.a2 (F.e 23 rfl) (F.e 24 rfl)) (enters_of Try.func82 (by kernel_rfl) rfl _)) (grow_any m t T F1 F2 gn fa fn fc f w5 (hF1.gr (Gr.refl _)) (hf.gr G) (fun ad e h => by have := hT1 _ h; have := hfb2 ad e; omega) hfn2 h2) ?_
 clear F ac hC
 rintro e w6 ⟨rfl, hF2, hon2⟩
 refine ⟨_, rfl, ?_⟩
 intro ac F
 obtain ⟨G2, hT2⟩ := fo_up G hT1 hon2
 clear G
 have G := Gr.refl w6
 have hl2 : ∀ b, Gw T w5 w6 b → b < w6.heap.size := fun b e => hF2.lt b e
 refine Y.pv F (X.bs rfl (X.b2 (F.e 22 rfl) (F.e 25 rfl)) (Try.bs34_2 r1 gn _)) ?_;clear F ac;intro ac F
 have g := Gr.alloc w6 (.cells #[Vi r1, Vi gn] 3)
 have hb := heap_alloc_new w6 (.cells #[Vi r1, Vi gn] 3)
 have hbl : w6.heap.size < (w6.alloc (.cells #[Vi r1, Vi gn] 3)).heap.size := by simp
 have hC2 : RCells (w6.alloc (.cells #[Vi r1, Vi gn] 3)) [(Ad w6.heap.size 0, Vi r1), (Ad w6.heap.size 1, Vi gn)] := (RCells.nil w6).box (b := w6.heap.size) #[Vi r1, Vi gn] 3 rfl
 generalize w6.alloc (.cells #[Vi r1, Vi gn] 3) = w7 at *
 replace G := G.trans g
 have hC := hC2
 clear hC2
 have hg9 := hb
 clear g hb hbl
 refine Y.pcall F (X.w0 rfl) rfl (X.enter (F := 81) rfl (X.kc (.func (.func 81) #[] #[]) rfl) (X.a2 (F.e 21 rfl) (F.e 26 rfl)) (enters_of Try.func81 (by kernel_rfl) rfl _)) (fand_any m t _ F2 F3 v3 (some ⟨w6.heap.size, 0, none⟩) 2 2 [r1, gn] w7 (hF2.gr G) (fints_two hg9) (fun ad e h => by injection e with e; subst e; have := hl2 _ h; simp only at this; omega) h3) ?_
 clear F ac hC
 rintro e w8 ⟨rfl, hF3, hon3⟩
 refine ⟨_, rfl, ?_⟩
 intro ac F
 obtain ⟨G3, hT3⟩ := fo_up (G2.trans G) hT2 hon3
 clear G
 have G := Gr.refl w8
 refine Y.pv F (Y.mm rfl (Try.mk129 _)) ?_;clear F ac;intro ac F
 have hK := mp_new (T := intT) (heap_alloc_new w8 (.map #[] 0))
 have g := Gr.alloc w8 (.map #[] 0)
 have hkl := hF3.lt
 generalize w8.alloc (.map #[] 0) = w9 at *
 replace G := G.trans g
 clear g
 refine Y.pcall F (X.w0 rfl) rfl (X.enter (F := 80) rfl (X.kc (.func (.func 80) #[] #[]) rfl) (X.a4 (F.e 20 rfl) (F.e 27 rfl) (X.kc (Vi 0) rfl) (F.e 28 rfl)) (enters_of Try.func80 (by kernel_rfl) rfl _)) (count_any m t _ F3 [] K w8.heap.size v3 0 c w9 (hF3.gr G) hK (fun e => by have := hkl _ e; omega) h4) ?_
 clear F ac
 rintro e w10 ⟨rfl, hK2, hon4⟩
 refine ⟨_, rfl, ?_⟩
 intro ac F
 replace G : Gr w w10 := (((G3.trans G).only _).trans hon4).gr (fun i hi e => by have : i = w8.heap.size := e; have := G3.size; omega)
 refine Y.pv F (X.assign rfl (F.e 29 rfl)) ?_;clear F ac;intro ac F
 refine Y.pv F (X.assign rfl (X.kc (Vi 0) rfl)) ?_;clear F ac;intro ac F
 refine Y.nil ?_
 replace F : Fr ac 30 [(4, Vi c), (5, Vi 0)] := F.sub _
 refine X.thenN ?_
 refine Y.ret ?_
 exact Y.ret0 (v := .tuple #[Vi c, Vi 0]) F (Y.rs2 F rfl (by kernel_rfl) (by kernel_rfl)) ⟨rfl, G⟩
end
section
open Go.RowKit

theorem counted_parts : ∃ F1 r1 F2 g F3 v K, Fo.all 40 (Fo.new ((2 : Nat) : Int)) 1 [[-5, 0, 1]] = some (F1, r1) ∧ Fo.grown 40 F1 [-1] = some (F2, g) ∧ Fo.and 40 F2 1 [r1, g] = some (F3, v) ∧ Fo.count F3 40 [] v 0 = some (K, 3) := by
  have h := counted_three
  unfold Fo.counted at h
  obtain ⟨⟨F1, r1⟩, h1, h⟩ := Option.bind_eq_some_iff.1 h
  obtain ⟨⟨F2, g⟩, h2, h⟩ := Option.bind_eq_some_iff.1 h
  obtain ⟨⟨F3, v⟩, h3, h⟩ := Option.bind_eq_some_iff.1 h
  obtain ⟨⟨K, c⟩, h4, h5⟩ := Option.map_eq_some_iff.1 h
  have h5 : c = 3 := h5
  subst h5
  exact ⟨F1, r1, F2, g, F3, v, K, h1, h2, h3, h4⟩
theorem sr_two {w : World} {b : Nat} {s0 s1 : ByteArray} (h0 : w.cell? ⟨b, 0, none⟩ = some (.string s0)) (h1 : w.cell? ⟨b, 1, none⟩ = some (.string s1)) : SrAt w (some ⟨b, 0, none⟩) 2 (fun i => if i = 0 then s0 else s1) := by
  refine ⟨by decide, fun j hj => ⟨_, rfl, lt_cell h0, ?_⟩⟩
  have : j = 0 ∨ j = 1 := by omega
  rcases this with rfl | rfl
  · exact h0
  · exact h1
theorem ints_c3 {w : World} {b : Nat} {x y z : Int} (h0 : w.cell? ⟨b, 0, none⟩ = some (.int .i64 x)) (h1 : w.cell? ⟨b, 1, none⟩ = some (.int .i64 y)) (h2 : w.cell? ⟨b, 2, none⟩ = some (.int .i64 z)) : Ints w (some ⟨b, 0, none⟩) 3 [x, y, z] := by
  refine ⟨rfl, by decide, fun j hj => ⟨_, rfl, lt_cell h0, ?_⟩⟩
  have : j = 0 ∨ j = 1 ∨ j = 2 := by omega
  rcases this with rfl | rfl | rfl
  · exact h0
  · exact h1
  · exact h2
theorem ints_c1 {w : World} {b : Nat} {x : Int} (h0 : w.cell? ⟨b, 0, none⟩ = some (.int .i64 x)) : Ints w (some ⟨b, 0, none⟩) 1 [x] := by
  refine ⟨rfl, by decide, fun j hj => ⟨_, rfl, lt_cell h0, ?_⟩⟩
  have : j = 0 := by omega
  subst this
  exact h0
def svT : Nat → ByteArray := fun i => if i = 0 then ByteArray.mk #[116, 111, 119] else ByteArray.mk #[104, 101, 97, 116]
theorem svT_low : ∀ i, i < 2 → ((∀ k, k < (svT i).size → 97 ≤ (((svT i)[k]?.getD 0).toNat : Int) ∧ (((svT i)[k]?.getD 0).toNat : Int) ≤ 122) ∧ 1 ≤ (svT i).size ∧ (svT i).size ≤ 8 ∧ ((svT i).toList == (ByteArray.mk #[121, 101, 115]).toList) = false ∧ ((svT i).toList == (ByteArray.mk #[110, 111]).toList) = false) := by
  intro i hi
  have : i = 0 ∨ i = 1 := by omega
  rcases this with rfl | rfl
  · refine ⟨fun k hk => ?_, by decide, by decide, by kernel_rfl, by kernel_rfl⟩
    have hk : k < 3 := hk
    have : k = 0 ∨ k = 1 ∨ k = 2 := by omega
    rcases this with rfl | rfl | rfl <;> exact of_decide_eq_true (by kernel_rfl)
  · refine ⟨fun k hk => ?_, by decide, by decide, by kernel_rfl, by kernel_rfl⟩
    have hk : k < 4 := hk
    have : k = 0 ∨ k = 1 ∨ k = 2 ∨ k = 3 := by omega
    rcases this with rfl | rfl | rfl | rfl <;> exact of_decide_eq_true (by kernel_rfl)
theorem svT_two : ∀ i j, j < i → i < 2 → ((svT i).toList == (svT j).toList) = false := by
  intro i j h k
  obtain rfl : i = 1 := by omega
  obtain rfl : j = 0 := by omega
  kernel_rfl
theorem Try.bd95 (a b : Option Addr) (n c n2 c2 : Nat) (W : World) : (Instr.build 95 #[(0, .slice a n c), (1, .slice b n2 c2)]).run Try.prog W = .ok (.agg #[.slice a n c, .slice b n2 c2]) W := by kernel_rfl
set_option maxRecDepth 100000 in
set_option maxHeartbeats 400000 in
theorem counts_any (w : World) :
  Calls Try.prog 41 #[] w fun e w' => e = .returned (.bool true) ∧ Gr w w' := by
 have G := Gr.refl w
 obtain ⟨F1, r1, F2, gn, F3, v3, K, h1, h2, h3, h4⟩ := counted_parts
 refine Y.calls 18 Try.func41 rfl rfl ?_
 intro ac F0
 have F : Fr ac 18 [] := F0.sub _
 clear F0
 refine Y.seq ?_
 refine Y.lit (by kernel_rfl) ?_
 refine Y.pv F (X.assign rfl (X.kc (.bool false) rfl)) ?_;clear F ac;intro ac F
 refine Y.nil ?_
 replace F : Fr ac 18 [] := F.sub _
 refine X.thenN ?_
 refine Y.seq ?_
 refine Y.lit (by kernel_rfl) ?_
 refine Y.pv F (X.bs rfl (X.b2 (X.kc (.string (ByteArray.mk #[116, 111, 119])) rfl) (X.kc (.string (ByteArray.mk #[104, 101, 97, 116])) rfl)) (Try.bs91_2 _ _ _)) ?_;clear F ac;intro ac F
 have g := Gr.alloc w (.cells #[.string (ByteArray.mk #[116, 111, 119]), .string (ByteArray.mk #[104, 101, 97, 116])] 9)
 have hb := heap_alloc_new w (.cells #[.string (ByteArray.mk #[116, 111, 119]), .string (ByteArray.mk #[104, 101, 97, 116])] 9)
 have hbl : w.heap.size < (w.alloc (.cells #[.string (ByteArray.mk #[116, 111, 119]), .string (ByteArray.mk #[104, 101, 97, 116])] 9)).heap.size := by simp
 have hC2 : RCells (w.alloc (.cells #[.string (ByteArray.mk #[116, 111, 119]), .string (ByteArray.mk #[104, 101, 97, 116])] 9)) [(Ad w.heap.size 0, .string (ByteArray.mk #[116, 111, 119])), (Ad w.heap.size 1, .string (ByteArray.mk #[104, 101, 97, 116]))] := (RCells.nil w).box (b := w.heap.size) #[.string (ByteArray.mk #[116, 111, 119]), .string (ByteArray.mk #[104, 101, 97, 116])] 9 rfl
 generalize w.alloc (.cells #[.string (ByteArray.mk #[116, 111, 119]), .string (ByteArray.mk #[104, 101, 97, 116])] 9) = w3 at *
 replace G := G.trans g
 have hC := hC2
 clear hC2
 clear g hb hbl
 refine Y.pv F (X.bs rfl (Y.b3 (X.kc (Vi (-5)) rfl) (X.kc (Vi 0) rfl) (X.kc (Vi 1) rfl)) (Try.bs92_3 _ _ _ _)) ?_;clear F ac;intro ac F
 have g := Gr.alloc w3 (.cells #[Vi (-5), Vi 0, Vi 1] 3)
 have hb := heap_alloc_new w3 (.cells #[Vi (-5), Vi 0, Vi 1] 3)
 have hbl : w3.heap.size < (w3.alloc (.cells #[Vi (-5), Vi 0, Vi 1] 3)).heap.size := by simp
 have hC2 : RCells (w3.alloc (.cells #[Vi (-5), Vi 0, Vi 1] 3)) [(Ad w.heap.size 0, .string (ByteArray.mk #[116, 111, 119])), (Ad w.heap.size 1, .string (ByteArray.mk #[104, 101, 97, 116])), (Ad w3.heap.size 0, Vi (-5)), (Ad w3.heap.size 1, Vi 0), (Ad w3.heap.size 2, Vi 1)] := hC.box (b := w3.heap.size) #[Vi (-5), Vi 0, Vi 1] 3 rfl
 generalize w3.alloc (.cells #[Vi (-5), Vi 0, Vi 1] 3) = w4 at *
 replace G := G.trans g
 replace hC := hC2
 clear hC2
 clear g hb hbl
 refine Y.pv F (X.bs rfl (X.b1 (F.e 5 rfl)) (Try.bs93_1 _ _ _ _)) ?_;clear F ac;intro ac F
 have g := Gr.alloc w4 (.cells #[.slice (some ⟨w3.heap.size, 0, none⟩) 3 3] 92)
 have hb := heap_alloc_new w4 (.cells #[.slice (some ⟨w3.heap.size, 0, none⟩) 3 3] 92)
 have hbl : w4.heap.size < (w4.alloc (.cells #[.slice (some ⟨w3.heap.size, 0, none⟩) 3 3] 92)).heap.size := by simp
 have hC2 : RCells (w4.alloc (.cells #[.slice (some ⟨w3.heap.size, 0, none⟩) 3 3] 92)) [(Ad w.heap.size 0, .string (ByteArray.mk #[116, 111, 119])), (Ad w.heap.size 1, .string (ByteArray.mk #[104, 101, 97, 116])), (Ad w3.heap.size 0, Vi (-5)), (Ad w3.heap.size 1, Vi 0), (Ad w3.heap.size 2, Vi 1), (Ad w4.heap.size 0, .slice (some ⟨w3.heap.size, 0, none⟩) 3 3)] := hC.box (b := w4.heap.size) #[.slice (some ⟨w3.heap.size, 0, none⟩) 3 3] 92 rfl
 generalize w4.alloc (.cells #[.slice (some ⟨w3.heap.size, 0, none⟩) 3 3] 92) = w5 at *
 replace G := G.trans g
 replace hC := hC2
 clear hC2
 clear g hb hbl
 refine Y.pv F (Y.bd rfl (X.b2 (F.e 4 rfl) (F.e 6 rfl)) (Try.bd95 _ _ _ _ _ _ _)) ?_;clear F ac;intro ac F
 refine Y.pv F (X.bs rfl (X.b1 (X.kc (Vi (-1)) rfl)) (Try.bs92_1 _ _)) ?_;clear F ac;intro ac F
 have g := Gr.alloc w5 (.cells #[Vi (-1)] 3)
 have hb := heap_alloc_new w5 (.cells #[Vi (-1)] 3)
 have hbl : w5.heap.size < (w5.alloc (.cells #[Vi (-1)] 3)).heap.size := by simp
 have hC2 : RCells (w5.alloc (.cells #[Vi (-1)] 3)) [(Ad w.heap.size 0, .string (ByteArray.mk #[116, 111, 119])), (Ad w.heap.size 1, .string (ByteArray.mk #[104, 101, 97, 116])), (Ad w3.heap.size 0, Vi (-5)), (Ad w3.heap.size 1, Vi 0), (Ad w3.heap.size 2, Vi 1), (Ad w4.heap.size 0, .slice (some ⟨w3.heap.size, 0, none⟩) 3 3), (Ad w5.heap.size 0, Vi (-1))] := hC.box (b := w5.heap.size) #[Vi (-1)] 3 rfl
 generalize w5.alloc (.cells #[Vi (-1)] 3) = w6 at *
 replace G := G.trans g
 replace hC := hC2
 clear hC2
 clear g hb hbl
 refine Y.pcall F (X.w0 rfl) rfl (X.enter (F := 66) rfl (X.kc (.func (.func 66) #[] #[]) rfl) (X.a2 (F.e 7 rfl) (F.e 8 rfl)) (enters_of Try.func66 (by kernel_rfl) rfl _)) (Count_any 40 (some ⟨w.heap.size, 0, none⟩) 2 2 w4.heap.size 1 (some ⟨w3.heap.size, 0, none⟩) 3 3 [-5, 0, 1] svT F1 F2 F3 r1 gn v3 3 K (some ⟨w5.heap.size, 0, none⟩) 1 1 [-1] w6 (sr_two (hC.at 0 rfl) (hC.at 1 rfl)) (hC.at 5 rfl) (ints_c3 (hC.at 2 rfl) (hC.at 3 rfl) (hC.at 4 rfl)) (fun ad e => by injection e with e; subst e; exact lt_cell (hC.at 2 rfl)) (by decide) svT_low svT_two (by decide) (by decide) (by kernel_rfl) (ints_c1 (hC.at 6 rfl)) (fun ad e => by injection e with e; subst e; exact lt_cell (hC.at 6 rfl)) (by decide) (by kernel_rfl) h1 h2 h3 h4) ?_
 clear F ac
 rintro e w7 ⟨rfl, g⟩
 refine ⟨_, rfl, ?_⟩
 intro ac F
 replace G := G.trans g
 replace hC := hC.gr g
 clear g
 refine Y.pv F (X.move rfl (F.e 9 rfl)) ?_;clear F ac;intro ac F
 refine Y.pv F (X.extract rfl (F.e 3 rfl) rfl) ?_;clear F ac;intro ac F
 refine Y.pv F (X.extract rfl (F.e 3 rfl) rfl) ?_;clear F ac;intro ac F
 refine Y.pv F (X.assign rfl (F.e 10 rfl)) ?_;clear F ac;intro ac F
 refine Y.pv F (X.assign rfl (F.e 11 rfl)) ?_;clear F ac;intro ac F
 refine Y.nil ?_
 replace F : Fr ac 18 [(1, Vi 3), (2, Vi 0)] := F.sub _
 refine X.thenN ?_
 refine Y.seq ?_
 refine Y.lit (by kernel_rfl) ?_
 refine Y.pv F (X.move rfl (F.e 1 rfl)) ?_;clear F ac;intro ac F
 refine Y.pval F (X.w0 rfl) rfl (X.binop rfl (F.e 12 rfl) (X.kc (Vi 3) rfl) (X.eqlI Try.underlying3 (show ((3 : Int) == 3) = true by simp))) ?_;clear F ac;intro ac F
 refine Y.pv F (X.move rfl (F.e 13 rfl)) ?_;clear F ac;intro ac F
 refine Y.pval F (X.w1 rfl (F.yl (j := 2) (d := 14) (b := true) rfl (by kernel_rfl))) rfl (X.move rfl (F.e 2 rfl)) ?_;clear F ac;intro ac F
 refine Y.pval F (X.w1 rfl (F.yl (j := 2) (d := 14) (b := true) rfl (by kernel_rfl))) rfl (X.binop rfl (F.e 15 rfl) (X.kc (Vi 0) rfl) (X.eqlI Try.underlying26 (show ((0 : Int) == 0) = true by simp))) ?_;clear F ac;intro ac F
 refine Y.pv F (X.pickT rfl (F.e 14 rfl) (F.e 16 rfl)) ?_;clear F ac;intro ac F
 refine Y.pv F (X.assign rfl (F.e 17 rfl)) ?_;clear F ac;intro ac F
 refine Y.nil ?_
 replace F : Fr ac 18 [(0, .bool true)] := F.sub _
 refine X.thenN ?_
 refine Y.ret ?_
 exact Y.ret0 (v := .bool true) F (Y.rs1 F rfl (by kernel_rfl)) ⟨rfl, G⟩
end
section
open Go.RowKit

theorem en_few {gr hold t : Int} {nd l : List (List Int)} {n en i : Nat} (hT : ticksE gr hold nd t = 0) (hel : (playEn gr hold nd t l).length = en) (hi : i < en) (hn : nd.length = n) (h6 : n ≤ 1000) : i ≤ 1000 := by
  by_cases hE : playE gr hold nd t l = 0
  · have := playEn_len hE; omega
  · unfold playEn at hel; rw [if_neg hE] at hel; have : 0 = en := hel; omega
theorem st_only2 {S : Nat → Prop} {w w' : World} {k : Nat} {a : Option Addr} {n : Nat} {L : List (List Int)} (h : StAt w k a n L) (g : Only S w w') (hn : 0 < n → ∀ ad, a = some ad → ¬ S ad.block) : StAt w' k a n L := by
  by_cases h0 : n = 0
  · subst h0; exact ⟨h.1, h.2.1, fun j hj => absurd hj (Nat.not_lt_zero _)⟩
  · exact st_only h g (hn (by omega))
theorem clu_apart {W : World} {g b n : Nat} {nd : List (List Int)} (h : StAt W 5 (some ⟨g, 0, none⟩) n nd) (k : OwnP W b 3 (VL [.int .i64 0, .int .i64 0, .slice none 0 0])) (h0 : 0 < n) (e : g = b) : False := by
  subst e
  obtain ⟨ad, e, _, _, hc⟩ := h.at (j := 0) h0
  injection e with e
  subst e
  have h1 := hc 2 (by decide)
  have h2 := k.cell (k := 2) (by decide)
  rw [Nat.zero_mul, Y.add_zero, addr_add0] at h1
  rw [h1] at h2
  cases h2

set_option maxRecDepth 100000 in
set_option maxHeartbeats 1000000 in
theorem topparked_any (na la : Option Addr) (n nc m lc : Nat) (gr hold ch tk : Int) (nd l : List (List Int)) (w : World) (hnd : StAt w 5 na n nd) (hl : StAt w 4 la m l) :
  Calls Try.prog 14 #[.agg #[.int .i64 gr, .int .i64 hold, .slice na n nc], .slice la m lc, .agg #[.int .i64 ch, .int .i64 tk]] w fun e w' => e = .returned (.bool true) ∧ Gr w w' := by
 have G := Gr.refl w
 have hl4 : ∀ x ∈ l, x.length = 4 := fun x hx => by obtain ⟨i, hi, rfl⟩ := List.getElem_of_mem hx; have hm9 := hl.len; have := (hl.at (j := i) (by omega)); obtain ⟨_, _, _, h4, _⟩ := this; rwa [List.getElem?_eq_getElem hi] at h4
 have hlen := hnd.len
 have hll := hl.len
 have hlt := hnd.lt
 have hlt2 := hl.lt
 refine Y.calls 169 Try.func14 rfl rfl ?_
 intro ac F0
 have F : Fr ac 169 [(0, .agg #[.int .i64 gr, .int .i64 hold, .slice na n nc]), (1, .slice la m lc), (2, .agg #[.int .i64 ch, .int .i64 tk])] := F0.sub _
 clear F0
 refine Y.seq ?_
 refine Y.lit (by kernel_rfl) ?_
 refine Y.pval F (X.w0 rfl) rfl (X.box rfl (F.ev 0 (.agg #[.int .i64 gr, .int .i64 hold, .slice na n nc])) X.bx) ?_
 clear F ac
 intro ac F
 have g := Gr.alloc w (.cells #[.int .i64 gr, .int .i64 hold, .slice na n nc] 24)
 have hb := heap_alloc_new w (.cells #[.int .i64 gr, .int .i64 hold, .slice na n nc] 24)
 have hbl : w.heap.size < (w.alloc (.cells #[.int .i64 gr, .int .i64 hold, .slice na n nc] 24)).heap.size := by simp
 have hC2 : RCells (w.alloc (.cells #[.int .i64 gr, .int .i64 hold, .slice na n nc] 24)) [(⟨w.heap.size, 0, none⟩, .int .i64 gr), (⟨w.heap.size, 1, none⟩, .int .i64 hold), (⟨w.heap.size, 2, none⟩, .slice na n nc)] := (RCells.nil w).box (b := w.heap.size) #[.int .i64 gr, .int .i64 hold, .slice na n nc] 24 rfl
 generalize w.alloc (.cells #[.int .i64 gr, .int .i64 hold, .slice na n nc] 24) = w3 at *
 replace G := G.trans g
 have hC := hC2
 clear hC2
 replace hnd := hnd.gr g
 replace hl := hl.gr g
 clear g hb hbl
 refine Y.pval F (X.w0 rfl) rfl (X.box rfl (F.ev 2 (.agg #[.int .i64 ch, .int .i64 tk])) X.bx) ?_
 clear F ac
 intro ac F
 have g := Gr.alloc w3 (.cells #[.int .i64 ch, .int .i64 tk] 56)
 have hb := heap_alloc_new w3 (.cells #[.int .i64 ch, .int .i64 tk] 56)
 have hbl : w3.heap.size < (w3.alloc (.cells #[.int .i64 ch, .int .i64 tk] 56)).heap.size := by simp
 have hC2 : RCells (w3.alloc (.cells #[.int .i64 ch, .int .i64 tk] 56)) [(⟨w.heap.size, 0, none⟩, .int .i64 gr), (⟨w.heap.size, 1, none⟩, .int .i64 hold), (⟨w.heap.size, 2, none⟩, .slice na n nc), (⟨w3.heap.size, 0, none⟩, .int .i64 ch), (⟨w3.heap.size, 1, none⟩, .int .i64 tk)] := hC.box (b := w3.heap.size) #[.int .i64 ch, .int .i64 tk] 56 rfl
 generalize w3.alloc (.cells #[.int .i64 ch, .int .i64 tk] 56) = w4 at *
 replace G := G.trans g
 replace hC := hC2
 clear hC2
 replace hnd := hnd.gr g
 replace hl := hl.gr g
 clear g hb hbl
 refine Y.pval F (X.w0 rfl) rfl (X.assign rfl (X.kc (.bool false) rfl)) ?_
 clear F ac
 intro ac F
 refine Y.nil ?_
 replace F : Fr ac 169 [(1, .slice la m lc), (3, .pointer (some ⟨w.heap.size, 0, none⟩)), (5, .pointer (some ⟨w3.heap.size, 0, none⟩))] := F.sub _
 refine X.thenN ?_
 refine Y.seq ?_
 refine Y.lit (by kernel_rfl) ?_
 refine Y.pval F (X.w0 rfl) rfl (X.index rfl (F.ev 5 (.pointer (some ⟨w3.heap.size, 0, none⟩))) (X.kc (.int .i64 1) rfl) (Y.idxA (k := 1) Try.underlying56 (Try.siz3 _) (by decide) (by omega) (by omega) rfl)) ?_
 clear F ac
 intro ac F
 refine Y.pval F (X.w0 rfl) rfl (X.load rfl (F.ev 24 (.pointer (some ⟨w3.heap.size, 1, none⟩))) (X.ld1 (Try.agg3 _) (hC.at 4 rfl))) ?_
 clear F ac
 intro ac F
 refine Y.pval F (X.w0 rfl) rfl (X.assign rfl (F.ev 25 (.int .i64 tk))) ?_
 clear F ac
 intro ac F
 refine Y.nil ?_
 replace F : Fr ac 169 [(1, .slice la m lc), (3, .pointer (some ⟨w.heap.size, 0, none⟩)), (5, .pointer (some ⟨w3.heap.size, 0, none⟩)), (7, .int .i64 tk)] := F.sub _
 refine X.thenN ?_
 refine Y.seq ?_
 refine Y.seq ?_
 refine Y.lit (by kernel_rfl) ?_
 refine Y.pval F (X.w0 rfl) rfl (X.field rfl (F.ev 3 (.pointer (some ⟨w.heap.size, 0, none⟩))) (X.fld Try.underlying24 rfl (Try.siz22 _) rfl rfl)) ?_
 clear F ac
 intro ac F
 refine Y.pval F (X.w0 rfl) rfl (X.load rfl (F.ev 26 (.pointer (some ⟨w.heap.size, 2, none⟩))) (X.ld1 (Try.agg22 _) (hC.at 2 rfl))) ?_
 clear F ac
 intro ac F
 refine Y.pval F (X.w0 rfl) rfl (X.len1 Try.underlying22 rfl (F.ev 27 (.slice na n nc))) ?_
 clear F ac
 intro ac F
 refine Y.pval F (X.w0 rfl) rfl (X.binop rfl (F.ev 28 (.int .i64 n)) (X.kc (.int .i64 6) rfl) (X.gtrI Try.underlying3 rfl)) ?_
 clear F ac
 intro ac F
 refine Y.pval F (X.w0 rfl) rfl (X.move rfl (F.ev 29 (.bool (decide ((6 : Int) < n))))) ?_
 clear F ac
 intro ac F
 cases h5 : decide ((6 : Int) < n) with
 | false =>
  try rw [h5] at F
  have h5p : ¬ ((6 : Int) < n) := of_decide_eq_false h5
  refine Y.pval F (X.w1 rfl (F.yl (j := 4) (d := 30) (b := false) rfl (by kernel_rfl))) rfl (X.move rfl (F.ev 1 (.slice la m lc))) ?_
  clear F ac
  intro ac F
  refine Y.pval F (X.w1 rfl (F.yl (j := 4) (d := 30) (b := false) rfl (by kernel_rfl))) rfl (X.len1 Try.underlying25 rfl (F.ev 31 (.slice la m lc))) ?_
  clear F ac
  intro ac F
  refine Y.pval F (X.w1 rfl (F.yl (j := 4) (d := 30) (b := false) rfl (by kernel_rfl))) rfl (X.binop rfl (F.ev 32 (.int .i64 m)) (X.kc (.int .i64 60) rfl) (X.gtrI Try.underlying3 rfl)) ?_
  clear F ac
  intro ac F
  refine Y.pval F (X.w0 rfl) rfl (X.pickF rfl (F.ev 30 (.bool false)) (F.ev 33 (.bool (decide ((60 : Int) < m))))) ?_
  clear F ac
  intro ac F
  refine Y.pval F (X.w0 rfl) rfl (X.move rfl (F.ev 34 (.bool (decide ((60 : Int) < m))))) ?_
  clear F ac
  intro ac F
  cases h6 : decide ((60 : Int) < m) with
  | false =>
   try rw [h6] at F
   have h6p : ¬ ((60 : Int) < m) := of_decide_eq_false h6
   refine Y.pval F (X.w1 rfl (F.yl (j := 9) (d := 35) (b := false) rfl (by kernel_rfl))) rfl (X.move rfl (F.ev 7 (.int .i64 tk))) ?_
   clear F ac
   intro ac F
   refine Y.pval F (X.w1 rfl (F.yl (j := 9) (d := 35) (b := false) rfl (by kernel_rfl))) rfl (X.binop rfl (F.ev 36 (.int .i64 tk)) (X.kc (.int .i64 60) rfl) (X.gtrI Try.underlying3 rfl)) ?_
   clear F ac
   intro ac F
   refine Y.pval F (X.w0 rfl) rfl (X.pickF rfl (F.ev 35 (.bool false)) (F.ev 37 (.bool (decide ((60 : Int) < tk))))) ?_
   clear F ac
   intro ac F
   refine Y.nil ?_
   replace F : Fr ac 169 [(1, .slice la m lc), (3, .pointer (some ⟨w.heap.size, 0, none⟩)), (5, .pointer (some ⟨w3.heap.size, 0, none⟩)), (7, .int .i64 tk), (38, .bool (decide ((60 : Int) < tk)))] := F.sub _
   refine X.thenN ?_
   cases h7 : decide ((60 : Int) < tk) with
   | false =>
    try rw [h7] at F
    have h7p : ¬ ((60 : Int) < tk) := of_decide_eq_false h7
    refine Y.condF (F.ev 38 (.bool false)) ?_
    refine Y.skip ?_
    refine X.thenN ?_
    refine Y.seq ?_
    refine Y.regionS F [some (.pointer (some ⟨w.heap.size, 0, none⟩)), some (.int .i64 gr), some (.pointer (some ⟨w.heap.size, 1, none⟩)), some (.int .i64 hold), none, some (.pointer (some ⟨w.heap.size, 2, none⟩)), some (.slice na n nc), none, none, none, none] [(4, MP.e0), (7, MP.st5 n nd), (8, MP.clu gr hold n nd), (9, MP.var24 w4.heap.size)] 10 (fun u W => ∃ b g c, u 9 = Vp b ∧ OwnP W b 3 (VL [.int .i64 gr, .int .i64 hold, .slice (some ⟨g, 0, none⟩) n c]) ∧ StAt W 5 (some ⟨g, 0, none⟩) n nd ∧ Gr w4 W) rfl ⟨by kernel_rfl, of_decide_eq_true (by kernel_rfl), by kernel_rfl, by kernel_rfl, by kernel_rfl⟩ (of_decide_eq_true (by kernel_rfl)) ⟨?_, ?_, ?_, ?_, ?_, ?_, ?_, ?_, ?_, ?_, ?_, trivial⟩ ?_
    ·intro ac done u W Sx hT
     have hs := Sx.no 10 (by kernel_rfl)
     have hR := hT.1 hs
     exact X.val (X.w0 rfl) rfl (X.field rfl (Sx.ev 3 (.pointer (some ⟨w.heap.size, 0, none⟩))) (X.fld Try.underlying24 rfl (Try.siz3 _) rfl rfl)) (Y.RT.of hs rfl (hR.step (Gr.refl _) rfl))
    ·intro ac done u W Sx hT
     have hs := Sx.no 10 (by kernel_rfl)
     have hR := hT.1 hs
     have g : Gr w4 W := hR.1
     exact X.val (X.w0 rfl) rfl (X.load rfl (Sx.ev 40 (.pointer (some ⟨w.heap.size, 0, none⟩))) (X.ld1 (Try.agg3 _) ((hC.gr g).at 0 rfl))) (Y.RT.of hs rfl (hR.step (Gr.refl _) rfl))
    ·intro ac done u W Sx hT
     have hs := Sx.no 10 (by kernel_rfl)
     have hR := hT.1 hs
     exact X.val (X.w0 rfl) rfl (X.field rfl (Sx.ev 3 (.pointer (some ⟨w.heap.size, 0, none⟩))) (X.fld Try.underlying24 rfl (Try.siz3 _) rfl rfl)) (Y.RT.of hs rfl (hR.step (Gr.refl _) rfl))
    ·intro ac done u W Sx hT
     have hs := Sx.no 10 (by kernel_rfl)
     have hR := hT.1 hs
     have g : Gr w4 W := hR.1
     exact X.val (X.w0 rfl) rfl (X.load rfl (Sx.ev 42 (.pointer (some ⟨w.heap.size, 1, none⟩))) (X.ld1 (Try.agg3 _) ((hC.gr g).at 1 rfl))) (Y.RT.of hs rfl (hR.step (Gr.refl _) rfl))
    ·intro ac done u W Sx hT
     have hs := Sx.no 10 (by kernel_rfl)
     have hR := hT.1 hs
     exact X.valN (X.w0 rfl) rfl (X.bs rfl rfl (Try.bs22_0 _)) (Y.RT.of hs rfl (hR.new (q := MP.e0) (Gr.alloc _ _) rfl ⟨_, rfl⟩))
    ·intro ac done u W Sx hT
     have hs := Sx.no 10 (by kernel_rfl)
     have hR := hT.1 hs
     exact X.val (X.w0 rfl) rfl (X.field rfl (Sx.ev 3 (.pointer (some ⟨w.heap.size, 0, none⟩))) (X.fld Try.underlying24 rfl (Try.siz22 _) rfl rfl)) (Y.RT.of hs rfl (hR.step (Gr.refl _) rfl))
    ·intro ac done u W Sx hT
     have hs := Sx.no 10 (by kernel_rfl)
     have hR := hT.1 hs
     have g : Gr w4 W := hR.1
     exact X.val (X.w0 rfl) rfl (X.load rfl (Sx.ev 45 (.pointer (some ⟨w.heap.size, 2, none⟩))) (X.ld1 (Try.agg22 _) ((hC.gr g).at 2 rfl))) (Y.RT.of hs rfl (hR.step (Gr.refl _) rfl))
    ·intro ac done u W Sx hT
     have hs := Sx.no 10 (by kernel_rfl)
     have hR := hT.1 hs
     have g : Gr w4 W := hR.1
     obtain ⟨b4, e4⟩ := hR.get (i := 4) MP.e0 rfl (Sx.an 4 (by kernel_rfl))
     exact X.law (X.w0 rfl) (fun K_ hK => wp_copy5 rfl ((Sx.own 4 44 rfl).trans e4) (Sx.ev 46 (.slice na n nc)) (hnd.gr g) (by omega) (fun v2 W2 hp g2 => hK v2 W2 (fun x hx => by cases hx) (Y.RT.of hs rfl (hR.new (q := MP.st5 n nd) g2 rfl hp))))
    ·intro ac done u W Sx hT
     have hs := Sx.no 10 (by kernel_rfl)
     have hR := hT.1 hs
     obtain ⟨g7, c7, e7, h7⟩ := hR.get (i := 7) (MP.st5 n nd) rfl (Sx.an 7 (by kernel_rfl))
     exact X.valN (X.w0 rfl) rfl (Y.bd rfl (Y.b3 (Sx.ev 41 (.int .i64 gr)) (Sx.ev 43 (.int .i64 hold)) ((Sx.own 7 47 rfl).trans e7)) (Try.exc _ _ _ _ _ _)) (Y.RT.of hs rfl (hR.new (q := MP.clu gr hold n nd) (Gr.refl _) rfl ⟨g7, c7, rfl, h7⟩))
    ·intro ac done u W Sx hT
     have hs := Sx.no 10 (by kernel_rfl)
     have hR := hT.1 hs
     have g : Gr w4 W := hR.1
     exact X.valN (X.w0 rfl) rfl (Y.al rfl (Try.new24 _)) (Y.RT.of hs rfl (hR.new (q := MP.var24 w4.heap.size) (Gr.alloc _ _) rfl ⟨_, rfl, ownP_3 (heap_alloc_new _ _), g.size⟩))
    ·intro ac done u W Sx hT
     have hR := hT.1 Sx.nd
     have g : Gr w4 W := hR.1
     obtain ⟨g8, c8, e8, h8⟩ := hR.get (i := 8) (MP.clu gr hold n nd) rfl (Sx.an 8 (by kernel_rfl))
     obtain ⟨b9, e9, h9, hb9⟩ := hR.get (i := 9) (MP.var24 w4.heap.size) rfl (Sx.an 9 (by kernel_rfl))
     obtain ⟨W2, hrun, hS2, hon⟩ := h9.stL (P := Try.prog) (t := 24) [.int .i64 gr, .int .i64 hold, .slice (some ⟨g8, 0, none⟩) n c8] rfl (fun W => Try.siz24 W) rfl
     refine X.unit (X.w0 rfl) rfl (X.store rfl ((Sx.own 9 8 rfl).trans e9) ((Sx.own 8 48 rfl).trans e8) hrun) (Y.RT.fin ⟨b9, g8, c8, e9, hS2, st_only2 h8 hon (fun h0 ad e h => ?_), Y.Only.up g hon hb9⟩)
     injection e with e
     subst e
     exact clu_apart h8 h9 h0 h
    rintro ac u w8 hs hd hl_ ho ⟨mb, go, gc, e9, hM, hnd2, g⟩
    replace F : Fr ac 169 [(1, .slice la m lc), (3, .pointer (some ⟨w.heap.size, 0, none⟩)), (5, .pointer (some ⟨w3.heap.size, 0, none⟩)), (7, .int .i64 tk)] := X.fr hs hd hl_ _ (by kernel_rfl)
    replace F := F.add (ho 9 8 rfl) e9
    replace F : Fr ac 169 [(1, .slice la m lc), (3, .pointer (some ⟨w.heap.size, 0, none⟩)), (5, .pointer (some ⟨w3.heap.size, 0, none⟩)), (7, .int .i64 tk), (8, .pointer (some ⟨mb, 0, none⟩))] := F.sub _
    clear hs hd hl_ ho e9 u
    replace G := G.trans g
    replace hC := hC.gr g
    replace hnd := hnd.gr g
    replace hl := hl.gr g
    clear g
    replace hC : RCells w8 [(⟨w.heap.size, 0, none⟩, .int .i64 gr), (⟨w.heap.size, 1, none⟩, .int .i64 hold), (⟨w.heap.size, 2, none⟩, .slice na n nc), (⟨w3.heap.size, 0, none⟩, .int .i64 ch), (⟨w3.heap.size, 1, none⟩, .int .i64 tk), (⟨mb, 0, none⟩, .int .i64 gr), (⟨mb, 1, none⟩, .int .i64 hold), (⟨mb, 2, none⟩, .slice (some ⟨go, 0, none⟩) n gc)] := hC.append ((RCells.cons (hM.cell (k := 0) (by decide)) (RCells.cons (hM.cell (k := 1) (by decide)) (RCells.cons (hM.cell (k := 2) (by decide)) (RCells.nil _)))))
    clear hM
    refine X.thenN ?_
    refine Y.seq ?_
    refine Y.lit (by kernel_rfl) ?_
    refine Y.pval F (X.w0 rfl) rfl (X.assign rfl (X.kc (.slice none 0 0) rfl)) ?_
    clear F ac
    intro ac F
    refine Y.nil ?_
    replace F : Fr ac 169 [(1, .slice la m lc), (3, .pointer (some ⟨w.heap.size, 0, none⟩)), (5, .pointer (some ⟨w3.heap.size, 0, none⟩)), (7, .int .i64 tk), (8, .pointer (some ⟨mb, 0, none⟩)), (9, .slice none 0 0)] := F.sub _
    refine X.thenN ?_
    refine Y.seq ?_
    refine Y.seq ?_
    have hO := OwnR.nil w8 w8.heap.size 33 4
    have hnd0 := hnd
    have hl0 := hl
    have hnd20 := hnd2
    have hC0 := hC
    have G0_ := G
    have GW := Gr.refl w8
    refine Y.lit (by kernel_rfl) ?_
    refine Y.pval F (X.w0 rfl) rfl (X.assign rfl (X.kc (.int .i64 0) rfl)) ?_
    clear F ac
    intro ac F
    refine Y.nil ?_
    replace F : Fr ac 169 [(1, .slice la m lc), (3, .pointer (some ⟨w.heap.size, 0, none⟩)), (5, .pointer (some ⟨w3.heap.size, 0, none⟩)), (7, .int .i64 tk), (8, .pointer (some ⟨mb, 0, none⟩)), (9, (.slice none 0 0)), (10, .int .i64 0)] := F.sub _
    refine X.thenN ?_
    refine Y.block ?_
    refine Y.loop (fun me_ ac wr => ∃ (i : Nat), ∃ v : Value, me_ = m - i ∧ Gr w8 wr ∧ i ≤ m ∧ OwnR wr w8.heap.size 33 4 v (withoutL (l.take i) 1).length (flat4 (withoutL (l.take i) 1)) ∧ Fr ac 169 [(1, .slice la m lc), (3, .pointer (some ⟨w.heap.size, 0, none⟩)), (5, .pointer (some ⟨w3.heap.size, 0, none⟩)), (7, .int .i64 tk), (8, .pointer (some ⟨mb, 0, none⟩)), (9, v), (10, .int .i64 i)]) _ ⟨0, _, rfl, GW, Nat.zero_le _, hO, F.sub _⟩ ?_
    clear F GW hnd hl hnd2 hO
    intro me_ ac w9 hI
    obtain ⟨i, v, rfl, GW, hi, hO, F⟩ := hI
    replace G := G0_.trans GW
    have hnd := hnd0.gr GW
    have hl := hl0.gr GW
    have hnd2 := hnd20.gr GW
    replace hC := hC0.gr GW
    refine Y.seq ?_
    refine Y.seq ?_
    refine Y.lit (by kernel_rfl) ?_
    refine Y.pval F (X.w0 rfl) rfl (X.move rfl (F.ev 10 (.int .i64 i))) ?_
    clear F ac
    intro ac F
    refine Y.pval F (X.w0 rfl) rfl (X.move rfl (F.ev 1 (.slice la m lc))) ?_
    clear F ac
    intro ac F
    refine Y.pval F (X.w0 rfl) rfl (X.len1 Try.underlying25 rfl (F.ev 50 (.slice la m lc))) ?_
    clear F ac
    intro ac F
    refine Y.pval F (X.w0 rfl) rfl (X.binop rfl (F.ev 49 (.int .i64 i)) (F.ev 51 (.int .i64 m)) (X.lssI Try.underlying3 rfl)) ?_
    clear F ac
    intro ac F
    refine Y.nil ?_
    replace F : Fr ac 169 [(1, .slice la m lc), (3, .pointer (some ⟨w.heap.size, 0, none⟩)), (5, .pointer (some ⟨w3.heap.size, 0, none⟩)), (7, .int .i64 tk), (8, .pointer (some ⟨mb, 0, none⟩)), (9, v), (10, .int .i64 i), (52, .bool (decide ((i : Int) < m)))] := F.sub _
    refine X.thenN ?_
    cases h10 : decide ((i : Int) < m) with
    | false =>
     try rw [h10] at F
     have h10p : ¬ ((i : Int) < m) := of_decide_eq_false h10
     obtain rfl : m = i := by omega
     refine Y.condF (F.ev 52 (.bool false)) ?_
     refine Y.exit ?_
     refine X.thenX ?_
     refine X.thenX ?_
     refine X.blockX ?_
     refine X.thenN ?_
     refine Y.seq ?_
     rw [List.take_of_length_le (show l.length ≤ m by omega)] at hO
     obtain ⟨al, alc, rfl, hal⟩ := hO.nudges rfl (fun x hx => hl4 x (List.mem_filter.1 hx).1) (by have := List.length_filter_le (fun x : List Int => nv x 1 != 1) l; unfold withoutL; omega)
     obtain ⟨N, hN⟩ : ∃ N, (withoutL l 1).length = N := ⟨_, rfl⟩
     rw [hN] at hal F
     clear hO GW
     refine Y.lit (by kernel_rfl) ?_
     refine Y.pval F (X.w0 rfl) rfl (X.load rfl (F.ev 8 (.pointer (some ⟨mb, 0, none⟩))) (X.ldN (Try.agg24 _) (Try.siz24 _) (Y.atz (⟨mb, 0, none⟩) (Y.AtFrom.cons (hC.at 5 rfl) (Y.AtFrom.cons (hC.at 6 rfl) (Y.AtFrom.cons (hC.at 7 rfl) (Y.AtFrom.nil _ _ _))))))) ?_
     clear F ac
     intro ac F
     refine Y.pval F (X.w0 rfl) rfl (X.move rfl (F.ev 7 (.int .i64 tk))) ?_
     clear F ac
     intro ac F
     refine Y.pval F (X.w0 rfl) rfl (X.move rfl (F.ev 9 (.slice al N alc))) ?_
     clear F ac
     intro ac F
     refine Y.pcall F (X.w0 rfl) rfl (X.enter (F := 18) rfl (X.kc (.func (.func 18) #[] #[]) rfl) (X.a3 (F.ev 69 (.agg #[.int .i64 gr, .int .i64 hold, .slice (some ⟨go, 0, none⟩) n gc])) (F.ev 70 (.int .i64 tk)) (F.ev 71 (.slice al N alc))) (enters_of Try.func18 (by kernel_rfl) rfl _)) (play_any (some ⟨go, 0, none⟩) al n gc N alc gr hold tk nd (withoutL l 1) w9 hnd2 hal) ?_
     clear F ac
     rintro e w12 ⟨ra11, rn11, rc11, ea11, en11, ec11, rfl, hr11, he11, g⟩
     refine ⟨_, rfl, ?_⟩
     intro ac F
     replace G := G.trans g
     replace hC := hC.gr g
     replace hnd := hnd.gr g
     replace hl := hl.gr g
     replace hnd2 := hnd2.gr g
     replace hal := hal.gr g
     clear g
     have hel := he11.len
     have hlt11 := he11.lt
     refine Y.pval F (X.w0 rfl) rfl (X.move rfl (F.ev 72 (.tuple #[.slice ra11 rn11 rc11, .slice ea11 en11 ec11, .int .i64 (playE gr hold nd tk (withoutL l 1))]))) ?_
     clear F ac
     intro ac F
     refine Y.pval F (X.w0 rfl) rfl (X.extract rfl (F.ev 68 (.tuple #[.slice ra11 rn11 rc11, .slice ea11 en11 ec11, .int .i64 (playE gr hold nd tk (withoutL l 1))])) rfl) ?_
     clear F ac
     intro ac F
     refine Y.pval F (X.w0 rfl) rfl (X.extract rfl (F.ev 68 (.tuple #[.slice ra11 rn11 rc11, .slice ea11 en11 ec11, .int .i64 (playE gr hold nd tk (withoutL l 1))])) rfl) ?_
     clear F ac
     intro ac F
     refine Y.pval F (X.w0 rfl) rfl (X.extract rfl (F.ev 68 (.tuple #[.slice ra11 rn11 rc11, .slice ea11 en11 ec11, .int .i64 (playE gr hold nd tk (withoutL l 1))])) rfl) ?_
     clear F ac
     intro ac F
     refine Y.pval F (X.w0 rfl) rfl (X.assign rfl (F.ev 73 (.slice ra11 rn11 rc11))) ?_
     clear F ac
     intro ac F
     refine Y.pval F (X.w0 rfl) rfl (X.assign rfl (F.ev 74 (.slice ea11 en11 ec11))) ?_
     clear F ac
     intro ac F
     refine Y.pval F (X.w0 rfl) rfl (X.assign rfl (F.ev 75 (.int .i64 (playE gr hold nd tk (withoutL l 1))))) ?_
     clear F ac
     intro ac F
     refine Y.nil ?_
     replace F : Fr ac 169 [(3, .pointer (some ⟨w.heap.size, 0, none⟩)), (5, .pointer (some ⟨w3.heap.size, 0, none⟩)), (7, .int .i64 tk), (8, .pointer (some ⟨mb, 0, none⟩)), (12, .slice ea11 en11 ec11), (13, .int .i64 (playE gr hold nd tk (withoutL l 1)))] := F.sub _
     refine X.thenN ?_
     refine Y.seq ?_
     refine Y.lit (by kernel_rfl) ?_
     refine Y.pval F (X.w0 rfl) rfl (X.load rfl (F.ev 8 (.pointer (some ⟨mb, 0, none⟩))) (X.ldN (Try.agg24 _) (Try.siz24 _) (Y.atz (⟨mb, 0, none⟩) (Y.AtFrom.cons (hC.at 5 rfl) (Y.AtFrom.cons (hC.at 6 rfl) (Y.AtFrom.cons (hC.at 7 rfl) (Y.AtFrom.nil _ _ _))))))) ?_
     clear F ac
     intro ac F
     refine Y.pval F (X.w0 rfl) rfl (X.move rfl (F.ev 7 (.int .i64 tk))) ?_
     clear F ac
     intro ac F
     refine Y.pcall F (X.w0 rfl) rfl (X.enter (F := 21) rfl (X.kc (.func (.func 21) #[] #[]) rfl) (X.a2 (F.ev 77 (.agg #[.int .i64 gr, .int .i64 hold, .slice (some ⟨go, 0, none⟩) n gc])) (F.ev 78 (.int .i64 tk))) (enters_of Try.func21 (by kernel_rfl) rfl _)) (parked_any (some ⟨go, 0, none⟩) n gc gr hold tk nd w12 hnd2) ?_
     clear F ac
     rintro e w14 ⟨rfl, g⟩
     refine ⟨_, rfl, ?_⟩
     intro ac F
     replace G := G.trans g
     replace hC := hC.gr g
     replace hnd := hnd.gr g
     replace hl := hl.gr g
     replace hnd2 := hnd2.gr g
     replace hal := hal.gr g
     replace hr11 := hr11.gr g
     replace he11 := he11.gr g
     clear g
     refine Y.pval F (X.w0 rfl) rfl (X.move rfl (F.ev 79 (.tuple #[.int .i64 (parkV gr hold nd tk), .int .i64 (ticksE gr hold nd tk)]))) ?_
     clear F ac
     intro ac F
     refine Y.pval F (X.w0 rfl) rfl (X.extract rfl (F.ev 76 (.tuple #[.int .i64 (parkV gr hold nd tk), .int .i64 (ticksE gr hold nd tk)])) rfl) ?_
     clear F ac
     intro ac F
     refine Y.pval F (X.w0 rfl) rfl (X.extract rfl (F.ev 76 (.tuple #[.int .i64 (parkV gr hold nd tk), .int .i64 (ticksE gr hold nd tk)])) rfl) ?_
     clear F ac
     intro ac F
     refine Y.pval F (X.w0 rfl) rfl (X.assign rfl (F.ev 80 (.int .i64 (parkV gr hold nd tk)))) ?_
     clear F ac
     intro ac F
     refine Y.pval F (X.w0 rfl) rfl (X.assign rfl (F.ev 81 (.int .i64 (ticksE gr hold nd tk)))) ?_
     clear F ac
     intro ac F
     refine Y.nil ?_
     replace F : Fr ac 169 [(3, .pointer (some ⟨w.heap.size, 0, none⟩)), (5, .pointer (some ⟨w3.heap.size, 0, none⟩)), (7, .int .i64 tk), (8, .pointer (some ⟨mb, 0, none⟩)), (12, .slice ea11 en11 ec11), (13, .int .i64 (playE gr hold nd tk (withoutL l 1))), (14, .int .i64 (parkV gr hold nd tk)), (15, .int .i64 (ticksE gr hold nd tk))] := F.sub _
     refine X.thenN ?_
     refine Y.seq ?_
     refine Y.seq ?_
     refine Y.lit (by kernel_rfl) ?_
     refine Y.pval F (X.w0 rfl) rfl (X.move rfl (F.ev 15 (.int .i64 (ticksE gr hold nd tk)))) ?_
     clear F ac
     intro ac F
     refine Y.pval F (X.w0 rfl) rfl (X.binop rfl (F.ev 82 (.int .i64 (ticksE gr hold nd tk))) (X.kc (.int .i64 0) rfl) (X.neqI Try.underlying26 rfl)) ?_
     clear F ac
     intro ac F
     refine Y.nil ?_
     replace F : Fr ac 169 [(3, .pointer (some ⟨w.heap.size, 0, none⟩)), (5, .pointer (some ⟨w3.heap.size, 0, none⟩)), (7, .int .i64 tk), (8, .pointer (some ⟨mb, 0, none⟩)), (12, .slice ea11 en11 ec11), (13, .int .i64 (playE gr hold nd tk (withoutL l 1))), (14, .int .i64 (parkV gr hold nd tk)), (83, .bool ((ticksE gr hold nd tk : Int) != 0))] := F.sub _
     refine X.thenN ?_
     cases h15 : ((ticksE gr hold nd tk : Int) != 0) with
     | false =>
      try rw [h15] at F
      have h15p : (ticksE gr hold nd tk : Int) = 0 := by simpa using h15
      have hTk : ticksE gr hold nd tk = 0 := by simpa using h15p
      have ht0 := (ticksE_ok hTk).2.1
      have ht1 := (ticksE_ok hTk).2.2
      refine Y.condF (F.ev 83 (.bool false)) ?_
      refine Y.skip ?_
      refine X.thenN ?_
      refine Y.seq ?_
      refine Y.lit (by kernel_rfl) ?_
      refine Y.pval F (X.w0 rfl) rfl (X.assign rfl (X.kc (.int .i64 0) rfl)) ?_
      clear F ac
      intro ac F
      refine Y.nil ?_
      replace F : Fr ac 169 [(3, .pointer (some ⟨w.heap.size, 0, none⟩)), (5, .pointer (some ⟨w3.heap.size, 0, none⟩)), (7, .int .i64 tk), (8, .pointer (some ⟨mb, 0, none⟩)), (12, .slice ea11 en11 ec11), (13, .int .i64 (playE gr hold nd tk (withoutL l 1))), (14, .int .i64 (parkV gr hold nd tk)), (16, .int .i64 0)] := F.sub _
      refine X.thenN ?_
      refine Y.seq ?_
      refine Y.seq ?_
      refine Y.lit (by kernel_rfl) ?_
      refine Y.pval F (X.w0 rfl) rfl (X.assign rfl (X.kc (.int .i64 0) rfl)) ?_
      clear F ac
      intro ac F
      refine Y.nil ?_
      replace F : Fr ac 169 [(3, .pointer (some ⟨w.heap.size, 0, none⟩)), (5, .pointer (some ⟨w3.heap.size, 0, none⟩)), (7, .int .i64 tk), (8, .pointer (some ⟨mb, 0, none⟩)), (12, .slice ea11 en11 ec11), (13, .int .i64 (playE gr hold nd tk (withoutL l 1))), (14, .int .i64 (parkV gr hold nd tk)), (16, .int .i64 0), (17, .int .i64 0)] := F.sub _
      refine X.thenN ?_
      refine Y.block ?_
      have hndB := hnd
      have hlB := hl
      have hnd2B := hnd2
      have halB := hal
      have hr11B := hr11
      have he11B := he11
      have hCB := hC
      have GB := G
      refine Y.loop (fun me_ ac wr => ∃ (i : Nat), me_ = en11 - i ∧ Gr w14 wr ∧ i ≤ en11 ∧ Fr ac 169 [(3, .pointer (some ⟨w.heap.size, 0, none⟩)), (5, .pointer (some ⟨w3.heap.size, 0, none⟩)), (7, .int .i64 tk), (8, .pointer (some ⟨mb, 0, none⟩)), (12, .slice ea11 en11 ec11), (13, .int .i64 (playE gr hold nd tk (withoutL l 1))), (14, .int .i64 (parkV gr hold nd tk)), (16, .int .i64 (esum (playEn gr hold nd tk (withoutL l 1)) i)), (17, .int .i64 i)]) _ ⟨0, rfl, Gr.refl _, Nat.zero_le _, F.sub _⟩ ?_
      clear F
      intro me_ ac w16 hI
      obtain ⟨i, rfl, gr, hi, F⟩ := hI
      replace G := GB.trans gr
      replace hC := hCB.gr gr
      replace hnd := hndB.gr gr
      replace hl := hlB.gr gr
      replace hnd2 := hnd2B.gr gr
      replace hal := halB.gr gr
      replace hr11 := hr11B.gr gr
      replace he11 := he11B.gr gr
      have GB_ := gr
      clear gr
      refine Y.seq ?_
      refine Y.seq ?_
      refine Y.lit (by kernel_rfl) ?_
      refine Y.pval F (X.w0 rfl) rfl (X.move rfl (F.ev 17 (.int .i64 i))) ?_
      clear F ac
      intro ac F
      refine Y.pval F (X.w0 rfl) rfl (X.move rfl (F.ev 12 (.slice ea11 en11 ec11))) ?_
      clear F ac
      intro ac F
      refine Y.pval F (X.w0 rfl) rfl (X.len1 Try.underlying34 rfl (F.ev 86 (.slice ea11 en11 ec11))) ?_
      clear F ac
      intro ac F
      refine Y.pval F (X.w0 rfl) rfl (X.binop rfl (F.ev 85 (.int .i64 i)) (F.ev 87 (.int .i64 en11)) (X.lssI Try.underlying3 rfl)) ?_
      clear F ac
      intro ac F
      refine Y.nil ?_
      replace F : Fr ac 169 [(3, .pointer (some ⟨w.heap.size, 0, none⟩)), (5, .pointer (some ⟨w3.heap.size, 0, none⟩)), (7, .int .i64 tk), (8, .pointer (some ⟨mb, 0, none⟩)), (12, .slice ea11 en11 ec11), (13, .int .i64 (playE gr hold nd tk (withoutL l 1))), (14, .int .i64 (parkV gr hold nd tk)), (16, .int .i64 (esum (playEn gr hold nd tk (withoutL l 1)) i)), (17, .int .i64 i), (88, .bool (decide ((i : Int) < en11)))] := F.sub _
      refine X.thenN ?_
      cases h17 : decide ((i : Int) < en11) with
      | false =>
       try rw [h17] at F
       have h17p : ¬ ((i : Int) < en11) := of_decide_eq_false h17
       obtain rfl : en11 = i := by omega
       refine Y.condF (F.ev 88 (.bool false)) ?_
       refine Y.exit ?_
       refine X.thenX ?_
       refine X.thenX ?_
       refine X.blockX ?_
       refine X.thenN ?_
       obtain ⟨sm, hsm⟩ : ∃ z, z = esum (playEn gr hold nd tk (withoutL l 1)) en11 := ⟨_, rfl⟩
       have hsl : playE gr hold nd tk (withoutL l 1) = 0 → sm ≤ sumP nd hold tk := fun h => by have h1 := park_le hTk h; have h2 := playEn_len h; rw [hel, hlen] at h2; rw [hlen, ← h2, ← hsm] at h1; exact h1
       rw [← hsm] at F
       refine Y.seqJ (fun ac wr => w16 = wr ∧ Fr ac 169 [(5, .pointer (some ⟨w3.heap.size, 0, none⟩)), (7, .int .i64 tk), (8, .pointer (some ⟨mb, 0, none⟩)), (13, .int .i64 (playE gr hold nd tk (withoutL l 1))), (16, .int .i64 sm)]) ?_ ?_
       ·refine Y.seq ?_
        refine Y.lit (by kernel_rfl) ?_
        refine Y.pval F (X.w0 rfl) rfl (X.move rfl (F.ev 13 (.int .i64 (playE gr hold nd tk (withoutL l 1))))) ?_
        clear F ac
        intro ac F
        refine Y.pval F (X.w0 rfl) rfl (X.binop rfl (F.ev 97 (.int .i64 (playE gr hold nd tk (withoutL l 1)))) (X.kc (.int .i64 0) rfl) (X.eqlI Try.underlying26 rfl)) ?_
        clear F ac
        intro ac F
        refine Y.pval F (X.w0 rfl) rfl (X.move rfl (F.ev 98 (.bool ((playE gr hold nd tk (withoutL l 1) : Int) == 0)))) ?_
        clear F ac
        intro ac F
        cases h18 : ((playE gr hold nd tk (withoutL l 1) : Int) == 0) with
        | false =>
         try rw [h18] at F
         have h18p : ¬ (playE gr hold nd tk (withoutL l 1) : Int) = 0 := by simpa using h18
         refine Y.pskip F (X.w2 rfl (F.yl (j := 2) (d := 99) (b := false) rfl (by kernel_rfl)) rfl) rfl ?_
         clear F ac
         intro ac F
         refine Y.pskip F (X.w2 rfl (F.yl (j := 2) (d := 99) (b := false) rfl (by kernel_rfl)) rfl) rfl ?_
         clear F ac
         intro ac F
         refine Y.pskip F (X.w2 rfl (F.yl (j := 2) (d := 99) (b := false) rfl (by kernel_rfl)) rfl) rfl ?_
         clear F ac
         intro ac F
         refine Y.pskip F (X.w2 rfl (F.yl (j := 2) (d := 99) (b := false) rfl (by kernel_rfl)) rfl) rfl ?_
         clear F ac
         intro ac F
         refine Y.pskip F (Y.w3 rfl (F.yn (j := 6) (d := 103) rfl (by kernel_rfl))) rfl ?_
         clear F ac
         intro ac F
         refine Y.pskip F (Y.w3 rfl (F.yn (j := 6) (d := 103) rfl (by kernel_rfl))) rfl ?_
         clear F ac
         intro ac F
         refine Y.pskip F (Y.w3 rfl (F.yn (j := 6) (d := 103) rfl (by kernel_rfl))) rfl ?_
         clear F ac
         intro ac F
         refine Y.pskip F (Y.w3 rfl (F.yn (j := 6) (d := 103) rfl (by kernel_rfl))) rfl ?_
         clear F ac
         intro ac F
         refine Y.pskip F (Y.w3 rfl (F.yn (j := 6) (d := 103) rfl (by kernel_rfl))) rfl ?_
         clear F ac
         intro ac F
         refine Y.pskip F (Y.w3 rfl (F.yn (j := 6) (d := 103) rfl (by kernel_rfl))) rfl ?_
         clear F ac
         intro ac F
         refine Y.pskip F (X.w2 rfl (F.yl (j := 2) (d := 99) (b := false) rfl (by kernel_rfl)) rfl) rfl ?_
         clear F ac
         intro ac F
         refine Y.pval F (X.w0 rfl) rfl (X.pickF rfl (F.ev 99 (.bool false)) (X.kc (.bool false) rfl)) ?_
         clear F ac
         intro ac F
         refine Y.nil ?_
         replace F : Fr ac 169 [(5, .pointer (some ⟨w3.heap.size, 0, none⟩)), (7, .int .i64 tk), (8, .pointer (some ⟨mb, 0, none⟩)), (13, .int .i64 (playE gr hold nd tk (withoutL l 1))), (16, .int .i64 sm), (111, .bool false)] := F.sub _
         refine X.thenN ?_
         refine Y.condF (F.ev 111 (.bool false)) ?_
         refine Y.skip ?_
         refine X.thenN ?_
         exact ⟨rfl, F.sub _⟩
        | true =>
         try rw [h18] at F
         have h18p : (playE gr hold nd tk (withoutL l 1) : Int) = 0 := by simpa using h18
         have hpl := hsl h18p
         have hen := playEn_len h18p
         rw [hel, hlen] at hen
         obtain rfl : n = en11 := by omega
         have hpv : parkV gr hold nd tk = sumP nd hold tk := by unfold parkV; rw [if_pos hTk]
         refine Y.pval F (X.w1 rfl (F.yl (j := 2) (d := 99) (b := true) rfl (by kernel_rfl))) rfl (X.move rfl (F.ev 16 (.int .i64 sm))) ?_
         clear F ac
         intro ac F
         refine Y.pval F (X.w1 rfl (F.yl (j := 2) (d := 99) (b := true) rfl (by kernel_rfl))) rfl (X.move rfl (F.ev 14 (.int .i64 (parkV gr hold nd tk)))) ?_
         clear F ac
         intro ac F
         refine Y.pval F (X.w1 rfl (F.yl (j := 2) (d := 99) (b := true) rfl (by kernel_rfl))) rfl (X.binop rfl (F.ev 100 (.int .i64 sm)) (F.ev 101 (.int .i64 (parkV gr hold nd tk))) (X.gtrI Try.underlying3 rfl)) ?_
         clear F ac
         intro ac F
         refine Y.pval F (X.w1 rfl (F.yl (j := 2) (d := 99) (b := true) rfl (by kernel_rfl))) rfl (X.move rfl (F.ev 102 (.bool (decide ((parkV gr hold nd tk : Int) < sm))))) ?_
         clear F ac
         intro ac F
         have h20 : decide ((parkV gr hold nd tk : Int) < sm) = false := decide_eq_false (by omega)
         have h20p : ¬ ((parkV gr hold nd tk : Int) < sm) := of_decide_eq_false h20
         try rw [h20] at F
         refine Y.pval F (X.w1 rfl (F.yl (j := 6) (d := 103) (b := false) rfl (by kernel_rfl))) rfl (X.move rfl (F.ev 12 (.slice ea11 n ec11))) ?_
         clear F ac
         intro ac F
         refine Y.pval F (X.w1 rfl (F.yl (j := 6) (d := 103) (b := false) rfl (by kernel_rfl))) rfl (X.len1 Try.underlying34 rfl (F.ev 104 (.slice ea11 n ec11))) ?_
         clear F ac
         intro ac F
         refine Y.pval F (X.w1 rfl (F.yl (j := 6) (d := 103) (b := false) rfl (by kernel_rfl))) rfl (X.field rfl (F.ev 3 (.pointer (some ⟨w.heap.size, 0, none⟩))) (X.fld Try.underlying24 rfl (Try.siz22 _) rfl rfl)) ?_
         clear F ac
         intro ac F
         refine Y.pval F (X.w1 rfl (F.yl (j := 6) (d := 103) (b := false) rfl (by kernel_rfl))) rfl (X.load rfl (F.ev 106 (.pointer (some ⟨w.heap.size, 2, none⟩))) (X.ld1 (Try.agg22 _) (hC.at 2 rfl))) ?_
         clear F ac
         intro ac F
         refine Y.pval F (X.w1 rfl (F.yl (j := 6) (d := 103) (b := false) rfl (by kernel_rfl))) rfl (X.len1 Try.underlying22 rfl (F.ev 107 (.slice na n nc))) ?_
         clear F ac
         intro ac F
         refine Y.pval F (X.w1 rfl (F.yl (j := 6) (d := 103) (b := false) rfl (by kernel_rfl))) rfl (X.binop rfl (F.ev 105 (.int .i64 n)) (F.ev 108 (.int .i64 n)) (X.neqI Try.underlying3 (show ((n : Int) != n) = false by simp))) ?_
         clear F ac
         intro ac F
         refine Y.pval F (X.w1 rfl (F.yl (j := 2) (d := 99) (b := true) rfl (by kernel_rfl))) rfl (X.pickF rfl (F.ev 103 (.bool false)) (F.ev 109 (.bool false))) ?_
         clear F ac
         intro ac F
         refine Y.pval F (X.w0 rfl) rfl (X.pickT rfl (F.ev 99 (.bool true)) (F.ev 110 (.bool false))) ?_
         clear F ac
         intro ac F
         refine Y.nil ?_
         replace F : Fr ac 169 [(5, .pointer (some ⟨w3.heap.size, 0, none⟩)), (7, .int .i64 tk), (8, .pointer (some ⟨mb, 0, none⟩)), (13, .int .i64 (playE gr hold nd tk (withoutL l 1))), (16, .int .i64 sm), (111, .bool false)] := F.sub _
         refine X.thenN ?_
         refine Y.condF (F.ev 111 (.bool false)) ?_
         refine Y.skip ?_
         refine X.thenN ?_
         exact ⟨rfl, F.sub _⟩
       ·clear F ac
        rintro ac _ ⟨rfl, F⟩
        refine Y.seq ?_
        refine Y.lit (by kernel_rfl) ?_
        refine Y.pval F (X.w0 rfl) rfl (X.load rfl (F.ev 8 (.pointer (some ⟨mb, 0, none⟩))) (X.ldN (Try.agg24 _) (Try.siz24 _) (Y.atz (⟨mb, 0, none⟩) (Y.AtFrom.cons (hC.at 5 rfl) (Y.AtFrom.cons (hC.at 6 rfl) (Y.AtFrom.cons (hC.at 7 rfl) (Y.AtFrom.nil _ _ _))))))) ?_
        clear F ac
        intro ac F
        refine Y.pval F (X.w0 rfl) rfl (X.index rfl (F.ev 5 (.pointer (some ⟨w3.heap.size, 0, none⟩))) (X.kc (.int .i64 0) rfl) (Y.idxA (k := 0) Try.underlying56 (Try.siz3 _) (by decide) (by omega) (by omega) rfl)) ?_
        clear F ac
        intro ac F
        refine Y.pval F (X.w0 rfl) rfl (X.load rfl (F.ev 114 (.pointer (some ⟨w3.heap.size, 0, none⟩))) (X.ld1 (Try.agg3 _) (hC.at 3 rfl))) ?_
        clear F ac
        intro ac F
        refine Y.pcall F (X.w0 rfl) rfl (X.enter (F := 23) rfl (X.kc (.func (.func 23) #[] #[]) rfl) (X.a2 (F.ev 113 (.agg #[.int .i64 gr, .int .i64 hold, .slice (some ⟨go, 0, none⟩) n gc])) (F.ev 115 (.int .i64 ch))) (enters_of Try.func23 (by kernel_rfl) rfl _)) (lasts_any (some ⟨go, 0, none⟩) n gc gr hold ch nd w16 hnd2) ?_
        clear F ac
        rintro e w22 ⟨u, rfl, hL, hL0, g⟩
        refine ⟨_, rfl, ?_⟩
        intro ac F
        replace G := G.trans g
        replace hC := hC.gr g
        replace GB_ := GB_.trans g
        replace hnd := hnd.gr g
        replace hl := hl.gr g
        replace hnd2 := hnd2.gr g
        replace hal := hal.gr g
        replace hr11 := hr11.gr g
        replace he11 := he11.gr g
        clear g
        refine Y.pval F (X.w0 rfl) rfl (X.move rfl (F.ev 116 (.tuple #[.int .i64 u, .int .i64 (lastE gr hold nd ch)]))) ?_
        clear F ac
        intro ac F
        refine Y.pval F (X.w0 rfl) rfl (X.extract rfl (F.ev 112 (.tuple #[.int .i64 u, .int .i64 (lastE gr hold nd ch)])) rfl) ?_
        clear F ac
        intro ac F
        refine Y.pval F (X.w0 rfl) rfl (X.extract rfl (F.ev 112 (.tuple #[.int .i64 u, .int .i64 (lastE gr hold nd ch)])) rfl) ?_
        clear F ac
        intro ac F
        refine Y.pval F (X.w0 rfl) rfl (X.assign rfl (F.ev 117 (.int .i64 u))) ?_
        clear F ac
        intro ac F
        refine Y.pval F (X.w0 rfl) rfl (X.assign rfl (F.ev 118 (.int .i64 (lastE gr hold nd ch)))) ?_
        clear F ac
        intro ac F
        refine Y.nil ?_
        replace F : Fr ac 169 [(5, .pointer (some ⟨w3.heap.size, 0, none⟩)), (7, .int .i64 tk), (8, .pointer (some ⟨mb, 0, none⟩)), (13, .int .i64 (playE gr hold nd tk (withoutL l 1))), (16, .int .i64 sm), (18, .int .i64 u), (19, .int .i64 (lastE gr hold nd ch))] := F.sub _
        refine X.thenN ?_
        refine Y.seq ?_
        refine Y.seq ?_
        refine Y.lit (by kernel_rfl) ?_
        refine Y.pval F (X.w0 rfl) rfl (X.move rfl (F.ev 19 (.int .i64 (lastE gr hold nd ch)))) ?_
        clear F ac
        intro ac F
        refine Y.pval F (X.w0 rfl) rfl (X.binop rfl (F.ev 119 (.int .i64 (lastE gr hold nd ch))) (X.kc (.int .i64 0) rfl) (X.neqI Try.underlying26 rfl)) ?_
        clear F ac
        intro ac F
        refine Y.nil ?_
        replace F : Fr ac 169 [(5, .pointer (some ⟨w3.heap.size, 0, none⟩)), (7, .int .i64 tk), (8, .pointer (some ⟨mb, 0, none⟩)), (13, .int .i64 (playE gr hold nd tk (withoutL l 1))), (16, .int .i64 sm), (18, .int .i64 u), (120, .bool ((lastE gr hold nd ch : Int) != 0))] := F.sub _
        refine X.thenN ?_
        cases h23 : ((lastE gr hold nd ch : Int) != 0) with
        | false =>
         try rw [h23] at F
         have h23p : (lastE gr hold nd ch : Int) = 0 := by simpa using h23
         have hLk := hL (by simpa using h23p)
         obtain ⟨hu0, hu1, hu2, hu3⟩ := hLk
         have hTu := ticks_ok' (clu_ticks hTk) (t := u) hu0 (by omega)
         have hTv := ticks_ok' (clu_ticks hTk) (t := u + 1) (by omega) (by omega)
         have hpu : parkV gr hold nd u = sumP nd hold u := by unfold parkV; rw [if_pos hTu]
         have hpw : parkV gr hold nd (u + 1) = sumP nd hold (u + 1) := by unfold parkV; rw [if_pos hTv]
         refine Y.condF (F.ev 120 (.bool false)) ?_
         refine Y.skip ?_
         refine X.thenN ?_
         refine Y.seq ?_
         refine Y.lit (by kernel_rfl) ?_
         refine Y.pval F (X.w0 rfl) rfl (X.load rfl (F.ev 8 (.pointer (some ⟨mb, 0, none⟩))) (X.ldN (Try.agg24 _) (Try.siz24 _) (Y.atz (⟨mb, 0, none⟩) (Y.AtFrom.cons (hC.at 5 rfl) (Y.AtFrom.cons (hC.at 6 rfl) (Y.AtFrom.cons (hC.at 7 rfl) (Y.AtFrom.nil _ _ _))))))) ?_
         clear F ac
         intro ac F
         refine Y.pval F (X.w0 rfl) rfl (X.move rfl (F.ev 18 (.int .i64 u))) ?_
         clear F ac
         intro ac F
         refine Y.pcall F (X.w0 rfl) rfl (X.enter (F := 21) rfl (X.kc (.func (.func 21) #[] #[]) rfl) (X.a2 (F.ev 123 (.agg #[.int .i64 gr, .int .i64 hold, .slice (some ⟨go, 0, none⟩) n gc])) (F.ev 124 (.int .i64 u))) (enters_of Try.func21 (by kernel_rfl) rfl _)) (parked_any (some ⟨go, 0, none⟩) n gc gr hold u nd w22 hnd2) ?_
         clear F ac
         rintro e w25 ⟨rfl, g⟩
         refine ⟨_, rfl, ?_⟩
         intro ac F
         replace G := G.trans g
         replace hC := hC.gr g
         replace GB_ := GB_.trans g
         replace hnd := hnd.gr g
         replace hl := hl.gr g
         replace hnd2 := hnd2.gr g
         replace hal := hal.gr g
         replace hr11 := hr11.gr g
         replace he11 := he11.gr g
         clear g
         refine Y.pval F (X.w0 rfl) rfl (X.move rfl (F.ev 125 (.tuple #[.int .i64 (parkV gr hold nd u), .int .i64 (ticksE gr hold nd u)]))) ?_
         clear F ac
         intro ac F
         refine Y.pval F (X.w0 rfl) rfl (X.extract rfl (F.ev 122 (.tuple #[.int .i64 (parkV gr hold nd u), .int .i64 (ticksE gr hold nd u)])) rfl) ?_
         clear F ac
         intro ac F
         refine Y.pval F (X.w0 rfl) rfl (X.extract rfl (F.ev 122 (.tuple #[.int .i64 (parkV gr hold nd u), .int .i64 (ticksE gr hold nd u)])) rfl) ?_
         clear F ac
         intro ac F
         refine Y.pval F (X.w0 rfl) rfl (X.assign rfl (F.ev 126 (.int .i64 (parkV gr hold nd u)))) ?_
         clear F ac
         intro ac F
         refine Y.pval F (X.w0 rfl) rfl (X.assign rfl (F.ev 127 (.int .i64 (ticksE gr hold nd u)))) ?_
         clear F ac
         intro ac F
         refine Y.nil ?_
         replace F : Fr ac 169 [(5, .pointer (some ⟨w3.heap.size, 0, none⟩)), (7, .int .i64 tk), (8, .pointer (some ⟨mb, 0, none⟩)), (13, .int .i64 (playE gr hold nd tk (withoutL l 1))), (16, .int .i64 sm), (18, .int .i64 u), (20, .int .i64 (parkV gr hold nd u)), (21, .int .i64 (ticksE gr hold nd u))] := F.sub _
         refine X.thenN ?_
         refine Y.seq ?_
         refine Y.lit (by kernel_rfl) ?_
         refine Y.pval F (X.w0 rfl) rfl (X.load rfl (F.ev 8 (.pointer (some ⟨mb, 0, none⟩))) (X.ldN (Try.agg24 _) (Try.siz24 _) (Y.atz (⟨mb, 0, none⟩) (Y.AtFrom.cons (hC.at 5 rfl) (Y.AtFrom.cons (hC.at 6 rfl) (Y.AtFrom.cons (hC.at 7 rfl) (Y.AtFrom.nil _ _ _))))))) ?_
         clear F ac
         intro ac F
         refine Y.pval F (X.w0 rfl) rfl (X.move rfl (F.ev 18 (.int .i64 u))) ?_
         clear F ac
         intro ac F
         refine Y.pval F (X.w0 rfl) rfl (X.binop rfl (F.ev 130 (.int .i64 u)) (X.kc (.int .i64 1) rfl) (X.addI Try.underlying3 rfl (by omega) (by omega))) ?_
         clear F ac
         intro ac F
         refine Y.pcall F (X.w0 rfl) rfl (X.enter (F := 21) rfl (X.kc (.func (.func 21) #[] #[]) rfl) (X.a2 (F.ev 129 (.agg #[.int .i64 gr, .int .i64 hold, .slice (some ⟨go, 0, none⟩) n gc])) (F.ev 131 (.int .i64 ((u : Int) + 1)))) (enters_of Try.func21 (by kernel_rfl) rfl _)) (parked_any (some ⟨go, 0, none⟩) n gc gr hold ((u : Int) + 1) nd w25 hnd2) ?_
         clear F ac
         rintro e w27 ⟨rfl, g⟩
         refine ⟨_, rfl, ?_⟩
         intro ac F
         replace G := G.trans g
         replace hC := hC.gr g
         replace GB_ := GB_.trans g
         replace hnd := hnd.gr g
         replace hl := hl.gr g
         replace hnd2 := hnd2.gr g
         replace hal := hal.gr g
         replace hr11 := hr11.gr g
         replace he11 := he11.gr g
         clear g
         refine Y.pval F (X.w0 rfl) rfl (X.move rfl (F.ev 132 (.tuple #[.int .i64 (parkV gr hold nd ((u : Int) + 1)), .int .i64 (ticksE gr hold nd ((u : Int) + 1))]))) ?_
         clear F ac
         intro ac F
         refine Y.pval F (X.w0 rfl) rfl (X.extract rfl (F.ev 128 (.tuple #[.int .i64 (parkV gr hold nd ((u : Int) + 1)), .int .i64 (ticksE gr hold nd ((u : Int) + 1))])) rfl) ?_
         clear F ac
         intro ac F
         refine Y.pval F (X.w0 rfl) rfl (X.extract rfl (F.ev 128 (.tuple #[.int .i64 (parkV gr hold nd ((u : Int) + 1)), .int .i64 (ticksE gr hold nd ((u : Int) + 1))])) rfl) ?_
         clear F ac
         intro ac F
         refine Y.pval F (X.w0 rfl) rfl (X.assign rfl (F.ev 133 (.int .i64 (parkV gr hold nd ((u : Int) + 1))))) ?_
         clear F ac
         intro ac F
         refine Y.pval F (X.w0 rfl) rfl (X.assign rfl (F.ev 134 (.int .i64 (ticksE gr hold nd ((u : Int) + 1))))) ?_
         clear F ac
         intro ac F
         refine Y.nil ?_
         replace F : Fr ac 169 [(5, .pointer (some ⟨w3.heap.size, 0, none⟩)), (7, .int .i64 tk), (13, .int .i64 (playE gr hold nd tk (withoutL l 1))), (16, .int .i64 sm), (18, .int .i64 u), (20, .int .i64 (parkV gr hold nd u)), (21, .int .i64 (ticksE gr hold nd u)), (22, .int .i64 (parkV gr hold nd ((u : Int) + 1))), (23, .int .i64 (ticksE gr hold nd ((u : Int) + 1)))] := F.sub _
         refine X.thenN ?_
         refine Y.seq ?_
         refine Y.seq ?_
         refine Y.lit (by kernel_rfl) ?_
         refine Y.pval F (X.w0 rfl) rfl (X.move rfl (F.ev 21 (.int .i64 (ticksE gr hold nd u)))) ?_
         clear F ac
         intro ac F
         refine Y.pval F (X.w0 rfl) rfl (X.binop rfl (F.ev 135 (.int .i64 (ticksE gr hold nd u))) (X.kc (.int .i64 0) rfl) (X.neqI Try.underlying26 rfl)) ?_
         clear F ac
         intro ac F
         refine Y.pval F (X.w0 rfl) rfl (X.move rfl (F.ev 136 (.bool ((ticksE gr hold nd u : Int) != 0)))) ?_
         clear F ac
         intro ac F
         have h29 : ((ticksE gr hold nd u : Int) != 0) = false := by rw [hTu]; rfl
         try rw [h29] at F
         refine Y.pval F (X.w1 rfl (F.yl (j := 2) (d := 137) (b := false) rfl (by kernel_rfl))) rfl (X.move rfl (F.ev 23 (.int .i64 (ticksE gr hold nd ((u : Int) + 1))))) ?_
         clear F ac
         intro ac F
         refine Y.pval F (X.w1 rfl (F.yl (j := 2) (d := 137) (b := false) rfl (by kernel_rfl))) rfl (X.binop rfl (F.ev 138 (.int .i64 (ticksE gr hold nd ((u : Int) + 1)))) (X.kc (.int .i64 0) rfl) (X.neqI Try.underlying26 rfl)) ?_
         clear F ac
         intro ac F
         refine Y.pval F (X.w0 rfl) rfl (X.pickF rfl (F.ev 137 (.bool false)) (F.ev 139 (.bool ((ticksE gr hold nd ((u : Int) + 1) : Int) != 0)))) ?_
         clear F ac
         intro ac F
         refine Y.pval F (X.w0 rfl) rfl (X.move rfl (F.ev 140 (.bool ((ticksE gr hold nd ((u : Int) + 1) : Int) != 0)))) ?_
         clear F ac
         intro ac F
         have h31 : ((ticksE gr hold nd ((u : Int) + 1) : Int) != 0) = false := by rw [hTv]; rfl
         try rw [h31] at F
         refine Y.pval F (X.w1 rfl (F.yl (j := 6) (d := 141) (b := false) rfl (by kernel_rfl))) rfl (X.move rfl (F.ev 20 (.int .i64 (parkV gr hold nd u)))) ?_
         clear F ac
         intro ac F
         refine Y.pval F (X.w1 rfl (F.yl (j := 6) (d := 141) (b := false) rfl (by kernel_rfl))) rfl (X.index rfl (F.ev 5 (.pointer (some ⟨w3.heap.size, 0, none⟩))) (X.kc (.int .i64 0) rfl) (Y.idxA (k := 0) Try.underlying56 (Try.siz3 _) (by decide) (by omega) (by omega) rfl)) ?_
         clear F ac
         intro ac F
         refine Y.pval F (X.w1 rfl (F.yl (j := 6) (d := 141) (b := false) rfl (by kernel_rfl))) rfl (X.load rfl (F.ev 143 (.pointer (some ⟨w3.heap.size, 0, none⟩))) (X.ld1 (Try.agg3 _) (hC.at 3 rfl))) ?_
         clear F ac
         intro ac F
         refine Y.pval F (X.w1 rfl (F.yl (j := 6) (d := 141) (b := false) rfl (by kernel_rfl))) rfl (X.binop rfl (F.ev 142 (.int .i64 (parkV gr hold nd u))) (F.ev 144 (.int .i64 ch)) (X.gtrI Try.underlying3 rfl)) ?_
         clear F ac
         intro ac F
         refine Y.pval F (X.w0 rfl) rfl (X.pickF rfl (F.ev 141 (.bool false)) (F.ev 145 (.bool (decide ((ch : Int) < (parkV gr hold nd u)))))) ?_
         clear F ac
         intro ac F
         refine Y.pval F (X.w0 rfl) rfl (X.move rfl (F.ev 146 (.bool (decide ((ch : Int) < (parkV gr hold nd u)))))) ?_
         clear F ac
         intro ac F
         have h33 : decide ((ch : Int) < (parkV gr hold nd u)) = false := decide_eq_false (by omega)
         have h33p : ¬ ((ch : Int) < (parkV gr hold nd u)) := of_decide_eq_false h33
         try rw [h33] at F
         refine Y.pval F (X.w1 rfl (F.yl (j := 12) (d := 147) (b := false) rfl (by kernel_rfl))) rfl (X.move rfl (F.ev 22 (.int .i64 (parkV gr hold nd ((u : Int) + 1))))) ?_
         clear F ac
         intro ac F
         refine Y.pval F (X.w1 rfl (F.yl (j := 12) (d := 147) (b := false) rfl (by kernel_rfl))) rfl (X.index rfl (F.ev 5 (.pointer (some ⟨w3.heap.size, 0, none⟩))) (X.kc (.int .i64 0) rfl) (Y.idxA (k := 0) Try.underlying56 (Try.siz3 _) (by decide) (by omega) (by omega) rfl)) ?_
         clear F ac
         intro ac F
         refine Y.pval F (X.w1 rfl (F.yl (j := 12) (d := 147) (b := false) rfl (by kernel_rfl))) rfl (X.load rfl (F.ev 149 (.pointer (some ⟨w3.heap.size, 0, none⟩))) (X.ld1 (Try.agg3 _) (hC.at 3 rfl))) ?_
         clear F ac
         intro ac F
         refine Y.pval F (X.w1 rfl (F.yl (j := 12) (d := 147) (b := false) rfl (by kernel_rfl))) rfl (X.binop rfl (F.ev 148 (.int .i64 (parkV gr hold nd ((u : Int) + 1)))) (F.ev 150 (.int .i64 ch)) (X.leqI Try.underlying3 rfl)) ?_
         clear F ac
         intro ac F
         refine Y.pval F (X.w0 rfl) rfl (X.pickF rfl (F.ev 147 (.bool false)) (F.ev 151 (.bool (decide ((parkV gr hold nd ((u : Int) + 1) : Int) ≤ ch))))) ?_
         clear F ac
         intro ac F
         refine Y.nil ?_
         replace F : Fr ac 169 [(5, .pointer (some ⟨w3.heap.size, 0, none⟩)), (7, .int .i64 tk), (13, .int .i64 (playE gr hold nd tk (withoutL l 1))), (16, .int .i64 sm), (18, .int .i64 u), (152, .bool (decide ((parkV gr hold nd ((u : Int) + 1) : Int) ≤ ch)))] := F.sub _
         refine X.thenN ?_
         have h35 : decide ((parkV gr hold nd ((u : Int) + 1) : Int) ≤ ch) = false := decide_eq_false (by omega)
         have h35p : ¬ ((parkV gr hold nd ((u : Int) + 1) : Int) ≤ ch) := of_decide_eq_false h35
         try rw [h35] at F
         refine Y.condF (F.ev 152 (.bool false)) ?_
         refine Y.skip ?_
         refine X.thenN ?_
         refine Y.seq ?_
         refine Y.lit (by kernel_rfl) ?_
         refine Y.pval F (X.w0 rfl) rfl (X.move rfl (F.ev 13 (.int .i64 (playE gr hold nd tk (withoutL l 1))))) ?_
         clear F ac
         intro ac F
         refine Y.pval F (X.w0 rfl) rfl (X.binop rfl (F.ev 153 (.int .i64 (playE gr hold nd tk (withoutL l 1)))) (X.kc (.int .i64 0) rfl) (X.neqI Try.underlying26 rfl)) ?_
         clear F ac
         intro ac F
         refine Y.pval F (X.w0 rfl) rfl (X.move rfl (F.ev 154 (.bool ((playE gr hold nd tk (withoutL l 1) : Int) != 0)))) ?_
         clear F ac
         intro ac F
         cases h36 : ((playE gr hold nd tk (withoutL l 1) : Int) != 0) with
         | false =>
          try rw [h36] at F
          have h36p : (playE gr hold nd tk (withoutL l 1) : Int) = 0 := by simpa using h36
          have hpl := hsl h36p
          refine Y.pval F (X.w1 rfl (F.yl (j := 2) (d := 155) (b := false) rfl (by kernel_rfl))) rfl (X.move rfl (F.ev 7 (.int .i64 tk))) ?_
          clear F ac
          intro ac F
          refine Y.pval F (X.w1 rfl (F.yl (j := 2) (d := 155) (b := false) rfl (by kernel_rfl))) rfl (X.move rfl (F.ev 18 (.int .i64 u))) ?_
          clear F ac
          intro ac F
          refine Y.pval F (X.w1 rfl (F.yl (j := 2) (d := 155) (b := false) rfl (by kernel_rfl))) rfl (X.binop rfl (F.ev 156 (.int .i64 tk)) (F.ev 157 (.int .i64 u)) (X.gtrI Try.underlying3 rfl)) ?_
          clear F ac
          intro ac F
          refine Y.pval F (X.w0 rfl) rfl (X.pickF rfl (F.ev 155 (.bool false)) (F.ev 158 (.bool (decide ((u : Int) < tk))))) ?_
          clear F ac
          intro ac F
          refine Y.pval F (X.w0 rfl) rfl (X.move rfl (F.ev 159 (.bool (decide ((u : Int) < tk))))) ?_
          clear F ac
          intro ac F
          cases h37 : decide ((u : Int) < tk) with
          | false =>
           try rw [h37] at F
           have h37p : ¬ ((u : Int) < tk) := of_decide_eq_false h37
           refine Y.pval F (X.w1 rfl (F.yl (j := 7) (d := 160) (b := false) rfl (by kernel_rfl))) rfl (X.move rfl (F.ev 16 (.int .i64 sm))) ?_
           clear F ac
           intro ac F
           refine Y.pval F (X.w1 rfl (F.yl (j := 7) (d := 160) (b := false) rfl (by kernel_rfl))) rfl (X.index rfl (F.ev 5 (.pointer (some ⟨w3.heap.size, 0, none⟩))) (X.kc (.int .i64 0) rfl) (Y.idxA (k := 0) Try.underlying56 (Try.siz3 _) (by decide) (by omega) (by omega) rfl)) ?_
           clear F ac
           intro ac F
           refine Y.pval F (X.w1 rfl (F.yl (j := 7) (d := 160) (b := false) rfl (by kernel_rfl))) rfl (X.load rfl (F.ev 162 (.pointer (some ⟨w3.heap.size, 0, none⟩))) (X.ld1 (Try.agg3 _) (hC.at 3 rfl))) ?_
           clear F ac
           intro ac F
           refine Y.pval F (X.w1 rfl (F.yl (j := 7) (d := 160) (b := false) rfl (by kernel_rfl))) rfl (X.binop rfl (F.ev 161 (.int .i64 sm)) (F.ev 163 (.int .i64 ch)) (X.leqI Try.underlying3 rfl)) ?_
           clear F ac
           intro ac F
           refine Y.pval F (X.w0 rfl) rfl (X.pickF rfl (F.ev 160 (.bool false)) (F.ev 164 (.bool (decide ((sm : Int) ≤ ch))))) ?_
           clear F ac
           intro ac F
           refine Y.pval F (X.w0 rfl) rfl (X.move rfl (F.ev 165 (.bool (decide ((sm : Int) ≤ ch))))) ?_
           clear F ac
           intro ac F
           have h39 : decide ((sm : Int) ≤ ch) = true := decide_eq_true (by have := sumP_mono (clu_ticks hTk) ht0 (u - tk).toNat (by omega); rw [show tk + ((u - tk).toNat : Int) = u by omega] at this; omega)
           have h39p : ((sm : Int) ≤ ch) := of_decide_eq_true h39
           try rw [h39] at F
           refine Y.pcall F (X.w1 rfl (F.yl (j := 13) (d := 166) (b := true) rfl (by kernel_rfl))) rfl (X.enter (F := 41) rfl (X.kc (.func (.func 41) #[] #[]) rfl) rfl (enters_of Try.func41 (by kernel_rfl) rfl _)) (counts_any w27) ?_
           clear F ac
           rintro e w41 ⟨rfl, g⟩
           refine ⟨_, rfl, ?_⟩
           intro ac F
           replace G := G.trans g
           replace hC := hC.gr g
           replace GB_ := GB_.trans g
           replace hnd := hnd.gr g
           replace hl := hl.gr g
           replace hnd2 := hnd2.gr g
           replace hal := hal.gr g
           replace hr11 := hr11.gr g
           replace he11 := he11.gr g
           clear g
           refine Y.pval F (X.w0 rfl) rfl (X.pickT rfl (F.ev 166 (.bool true)) (F.ev 167 (.bool true))) ?_
           clear F ac
           intro ac F
           refine Y.pval F (X.w0 rfl) rfl (X.assign rfl (F.ev 168 (.bool true))) ?_
           clear F ac
           intro ac F
           refine Y.nil ?_
           replace F : Fr ac 169 [(6, .bool true)] := F.sub _
           refine X.thenN ?_
           refine Y.ret ?_
           exact Y.ret0 (v := .bool true) F (Y.rs1 F rfl (by kernel_rfl)) ⟨rfl, G⟩
          | true =>
           try rw [h37] at F
           have h37p : ((u : Int) < tk) := of_decide_eq_true h37
           refine Y.pskip F (X.w2 rfl (F.yl (j := 7) (d := 160) (b := true) rfl (by kernel_rfl)) rfl) rfl ?_
           clear F ac
           intro ac F
           refine Y.pskip F (X.w2 rfl (F.yl (j := 7) (d := 160) (b := true) rfl (by kernel_rfl)) rfl) rfl ?_
           clear F ac
           intro ac F
           refine Y.pskip F (X.w2 rfl (F.yl (j := 7) (d := 160) (b := true) rfl (by kernel_rfl)) rfl) rfl ?_
           clear F ac
           intro ac F
           refine Y.pskip F (X.w2 rfl (F.yl (j := 7) (d := 160) (b := true) rfl (by kernel_rfl)) rfl) rfl ?_
           clear F ac
           intro ac F
           refine Y.pval F (X.w0 rfl) rfl (X.pickT rfl (F.ev 160 (.bool true)) (X.kc (.bool true) rfl)) ?_
           clear F ac
           intro ac F
           refine Y.pval F (X.w0 rfl) rfl (X.move rfl (F.ev 165 (.bool true))) ?_
           clear F ac
           intro ac F
           refine Y.pcall F (X.w1 rfl (F.yl (j := 13) (d := 166) (b := true) rfl (by kernel_rfl))) rfl (X.enter (F := 41) rfl (X.kc (.func (.func 41) #[] #[]) rfl) rfl (enters_of Try.func41 (by kernel_rfl) rfl _)) (counts_any w27) ?_
           clear F ac
           rintro e w43 ⟨rfl, g⟩
           refine ⟨_, rfl, ?_⟩
           intro ac F
           replace G := G.trans g
           replace hC := hC.gr g
           replace GB_ := GB_.trans g
           replace hnd := hnd.gr g
           replace hl := hl.gr g
           replace hnd2 := hnd2.gr g
           replace hal := hal.gr g
           replace hr11 := hr11.gr g
           replace he11 := he11.gr g
           clear g
           refine Y.pval F (X.w0 rfl) rfl (X.pickT rfl (F.ev 166 (.bool true)) (F.ev 167 (.bool true))) ?_
           clear F ac
           intro ac F
           refine Y.pval F (X.w0 rfl) rfl (X.assign rfl (F.ev 168 (.bool true))) ?_
           clear F ac
           intro ac F
           refine Y.nil ?_
           replace F : Fr ac 169 [(6, .bool true)] := F.sub _
           refine X.thenN ?_
           refine Y.ret ?_
           exact Y.ret0 (v := .bool true) F (Y.rs1 F rfl (by kernel_rfl)) ⟨rfl, G⟩
         | true =>
          try rw [h36] at F
          have h36p : ¬ (playE gr hold nd tk (withoutL l 1) : Int) = 0 := by simpa using h36
          refine Y.pskip F (X.w2 rfl (F.yl (j := 2) (d := 155) (b := true) rfl (by kernel_rfl)) rfl) rfl ?_
          clear F ac
          intro ac F
          refine Y.pskip F (X.w2 rfl (F.yl (j := 2) (d := 155) (b := true) rfl (by kernel_rfl)) rfl) rfl ?_
          clear F ac
          intro ac F
          refine Y.pskip F (X.w2 rfl (F.yl (j := 2) (d := 155) (b := true) rfl (by kernel_rfl)) rfl) rfl ?_
          clear F ac
          intro ac F
          refine Y.pval F (X.w0 rfl) rfl (X.pickT rfl (F.ev 155 (.bool true)) (X.kc (.bool true) rfl)) ?_
          clear F ac
          intro ac F
          refine Y.pval F (X.w0 rfl) rfl (X.move rfl (F.ev 159 (.bool true))) ?_
          clear F ac
          intro ac F
          refine Y.pskip F (X.w2 rfl (F.yl (j := 7) (d := 160) (b := true) rfl (by kernel_rfl)) rfl) rfl ?_
          clear F ac
          intro ac F
          refine Y.pskip F (X.w2 rfl (F.yl (j := 7) (d := 160) (b := true) rfl (by kernel_rfl)) rfl) rfl ?_
          clear F ac
          intro ac F
          refine Y.pskip F (X.w2 rfl (F.yl (j := 7) (d := 160) (b := true) rfl (by kernel_rfl)) rfl) rfl ?_
          clear F ac
          intro ac F
          refine Y.pskip F (X.w2 rfl (F.yl (j := 7) (d := 160) (b := true) rfl (by kernel_rfl)) rfl) rfl ?_
          clear F ac
          intro ac F
          refine Y.pval F (X.w0 rfl) rfl (X.pickT rfl (F.ev 160 (.bool true)) (X.kc (.bool true) rfl)) ?_
          clear F ac
          intro ac F
          refine Y.pval F (X.w0 rfl) rfl (X.move rfl (F.ev 165 (.bool true))) ?_
          clear F ac
          intro ac F
          refine Y.pcall F (X.w1 rfl (F.yl (j := 13) (d := 166) (b := true) rfl (by kernel_rfl))) rfl (X.enter (F := 41) rfl (X.kc (.func (.func 41) #[] #[]) rfl) rfl (enters_of Try.func41 (by kernel_rfl) rfl _)) (counts_any w27) ?_
          clear F ac
          rintro e w45 ⟨rfl, g⟩
          refine ⟨_, rfl, ?_⟩
          intro ac F
          replace G := G.trans g
          replace hC := hC.gr g
          replace GB_ := GB_.trans g
          replace hnd := hnd.gr g
          replace hl := hl.gr g
          replace hnd2 := hnd2.gr g
          replace hal := hal.gr g
          replace hr11 := hr11.gr g
          replace he11 := he11.gr g
          clear g
          refine Y.pval F (X.w0 rfl) rfl (X.pickT rfl (F.ev 166 (.bool true)) (F.ev 167 (.bool true))) ?_
          clear F ac
          intro ac F
          refine Y.pval F (X.w0 rfl) rfl (X.assign rfl (F.ev 168 (.bool true))) ?_
          clear F ac
          intro ac F
          refine Y.nil ?_
          replace F : Fr ac 169 [(6, .bool true)] := F.sub _
          refine X.thenN ?_
          refine Y.ret ?_
          exact Y.ret0 (v := .bool true) F (Y.rs1 F rfl (by kernel_rfl)) ⟨rfl, G⟩
        | true =>
         try rw [h23] at F
         have h23p : ¬ (lastE gr hold nd ch : Int) = 0 := by simpa using h23
         refine Y.condT (F.ev 120 (.bool true)) ?_
         refine Y.seq ?_
         refine Y.lit (by kernel_rfl) ?_
         refine Y.pcall F (X.w0 rfl) rfl (X.enter (F := 41) rfl (X.kc (.func (.func 41) #[] #[]) rfl) rfl (enters_of Try.func41 (by kernel_rfl) rfl _)) (counts_any w22) ?_
         clear F ac
         rintro e w47 ⟨rfl, g⟩
         refine ⟨_, rfl, ?_⟩
         intro ac F
         replace G := G.trans g
         replace hC := hC.gr g
         replace GB_ := GB_.trans g
         replace hnd := hnd.gr g
         replace hl := hl.gr g
         replace hnd2 := hnd2.gr g
         replace hal := hal.gr g
         replace hr11 := hr11.gr g
         replace he11 := he11.gr g
         clear g
         refine Y.pval F (X.w0 rfl) rfl (X.assign rfl (F.ev 121 (.bool true))) ?_
         clear F ac
         intro ac F
         refine Y.nil ?_
         replace F : Fr ac 169 [(6, .bool true)] := F.sub _
         refine X.thenN ?_
         refine Y.ret ?_
         refine X.thenR ?_
         exact Y.ret0 (v := .bool true) F (Y.rs1 F rfl (by kernel_rfl)) ⟨rfl, G⟩
      | true =>
       try rw [h17] at F
       have h17p : ((i : Int) < en11) := of_decide_eq_true h17
       have hsb := esum_bd (en_bd (l := l) hTk) i (by omega)
       have hsb1 := en_bd (l := l) hTk i (by omega)
       have hi6 : i ≤ 1000 := en_few hTk hel (by omega) hlen (by omega)
       refine Y.condT (F.ev 88 (.bool true)) ?_
       refine Y.skip ?_
       refine X.thenN ?_
       refine Y.seq ?_
       refine Y.block ?_
       refine Y.lit (by kernel_rfl) ?_
       refine Y.pval F (X.w0 rfl) rfl (X.move rfl (F.ev 16 (.int .i64 (esum (playEn gr hold nd tk (withoutL l 1)) i)))) ?_
       clear F ac
       intro ac F
       refine Y.pval F (X.w0 rfl) rfl (X.move rfl (F.ev 12 (.slice ea11 en11 ec11))) ?_
       clear F ac
       intro ac F
       refine Y.pval F (X.w0 rfl) rfl (X.move rfl (F.ev 17 (.int .i64 i))) ?_
       clear F ac
       intro ac F
       obtain ⟨pd48, pe48, -, pc48⟩ := he11.at (j := i) (by omega)
       subst pe48
       replace hC : RCells w16 [(⟨w.heap.size, 0, none⟩, .int .i64 gr), (⟨w.heap.size, 1, none⟩, .int .i64 hold), (⟨w.heap.size, 2, none⟩, .slice na n nc), (⟨w3.heap.size, 0, none⟩, .int .i64 ch), (⟨w3.heap.size, 1, none⟩, .int .i64 tk), (⟨mb, 0, none⟩, .int .i64 gr), (⟨mb, 1, none⟩, .int .i64 hold), (⟨mb, 2, none⟩, .slice (some ⟨go, 0, none⟩) n gc), (pd48.add i, .int .i64 ((playEn gr hold nd tk (withoutL l 1))[i]?.getD 0))] := hC.append ((RCells.cons pc48 (RCells.nil _)))
       clear pc48
       refine Y.pval F (X.w0 rfl) rfl (X.index rfl (F.ev 92 (.slice (some pd48) en11 ec11)) (F.ev 93 (.int .i64 i)) (X.idx (k := i) Try.underlying34 (Try.siz3 _) (by omega) (by omega) (by rw [Nat.mul_one]))) ?_
       clear F ac
       intro ac F
       refine Y.pval F (X.w0 rfl) rfl (X.load rfl (F.ev 94 (.pointer (some (pd48.add i)))) (X.ld1 (Try.agg3 _) (hC.at 8 rfl))) ?_
       clear F ac
       intro ac F
       refine Y.pval F (X.w0 rfl) rfl (X.binop rfl (F.ev 91 (.int .i64 (esum (playEn gr hold nd tk (withoutL l 1)) i))) (F.ev 95 (.int .i64 ((playEn gr hold nd tk (withoutL l 1))[i]?.getD 0))) (X.addI Try.underlying3 rfl (by omega) (by omega))) ?_
       clear F ac
       intro ac F
       refine Y.pval F (X.w0 rfl) rfl (X.assign rfl (F.ev 96 (.int .i64 ((esum (playEn gr hold nd tk (withoutL l 1)) i : Int) + ((playEn gr hold nd tk (withoutL l 1))[i]?.getD 0))))) ?_
       clear F ac
       intro ac F
       refine Y.nil ?_
       replace F : Fr ac 169 [(3, .pointer (some ⟨w.heap.size, 0, none⟩)), (5, .pointer (some ⟨w3.heap.size, 0, none⟩)), (7, .int .i64 tk), (8, .pointer (some ⟨mb, 0, none⟩)), (12, .slice (some pd48) en11 ec11), (13, .int .i64 (playE gr hold nd tk (withoutL l 1))), (14, .int .i64 (parkV gr hold nd tk)), (16, .int .i64 ((esum (playEn gr hold nd tk (withoutL l 1)) i : Int) + ((playEn gr hold nd tk (withoutL l 1))[i]?.getD 0))), (17, .int .i64 i)] := F.sub _
       refine X.blockN ?_
       refine X.thenN ?_
       refine Y.lit (by kernel_rfl) ?_
       refine Y.pval F (X.w0 rfl) rfl (X.move rfl (F.ev 17 (.int .i64 i))) ?_
       clear F ac
       intro ac F
       refine Y.pval F (X.w0 rfl) rfl (X.binop rfl (F.ev 89 (.int .i64 i)) (X.kc (.int .i64 1) rfl) (X.addI Try.underlying3 rfl (by omega) (by omega))) ?_
       clear F ac
       intro ac F
       refine Y.pval F (X.w0 rfl) rfl (X.assign rfl (F.ev 90 (.int .i64 ((i : Int) + 1)))) ?_
       clear F ac
       intro ac F
       refine Y.nil ?_
       replace F : Fr ac 169 [(3, .pointer (some ⟨w.heap.size, 0, none⟩)), (5, .pointer (some ⟨w3.heap.size, 0, none⟩)), (7, .int .i64 tk), (8, .pointer (some ⟨mb, 0, none⟩)), (12, .slice (some pd48) en11 ec11), (13, .int .i64 (playE gr hold nd tk (withoutL l 1))), (14, .int .i64 (parkV gr hold nd tk)), (16, .int .i64 ((esum (playEn gr hold nd tk (withoutL l 1)) i : Int) + ((playEn gr hold nd tk (withoutL l 1))[i]?.getD 0))), (17, .int .i64 ((i : Int) + 1))] := F.sub _
       refine X.thenN ?_
       refine ⟨_, ?_, i + 1, rfl, GB_, by omega, F.sub _⟩
       omega
     | true =>
      try rw [h15] at F
      have h15p : ¬ (ticksE gr hold nd tk : Int) = 0 := by simpa using h15
      refine Y.condT (F.ev 83 (.bool true)) ?_
      refine Y.seq ?_
      refine Y.lit (by kernel_rfl) ?_
      refine Y.pcall F (X.w0 rfl) rfl (X.enter (F := 41) rfl (X.kc (.func (.func 41) #[] #[]) rfl) rfl (enters_of Try.func41 (by kernel_rfl) rfl _)) (counts_any w14) ?_
      clear F ac
      rintro e w50 ⟨rfl, g⟩
      refine ⟨_, rfl, ?_⟩
      intro ac F
      replace G := G.trans g
      replace hC := hC.gr g
      replace hnd := hnd.gr g
      replace hl := hl.gr g
      replace hnd2 := hnd2.gr g
      replace hal := hal.gr g
      replace hr11 := hr11.gr g
      replace he11 := he11.gr g
      clear g
      refine Y.pval F (X.w0 rfl) rfl (X.assign rfl (F.ev 84 (.bool true))) ?_
      clear F ac
      intro ac F
      refine Y.nil ?_
      replace F : Fr ac 169 [(6, .bool true)] := F.sub _
      refine X.thenN ?_
      refine Y.ret ?_
      refine X.thenR ?_
      exact Y.ret0 (v := .bool true) F (Y.rs1 F rfl (by kernel_rfl)) ⟨rfl, G⟩
    | true =>
     try rw [h10] at F
     have h10p : ((i : Int) < m) := of_decide_eq_true h10
     refine Y.condT (F.ev 52 (.bool true)) ?_
     refine Y.skip ?_
     refine X.thenN ?_
     refine Y.seq ?_
     refine Y.block ?_
     refine Y.seq ?_
     refine Y.lit (by kernel_rfl) ?_
     refine Y.pval F (X.w0 rfl) rfl (X.move rfl (F.ev 1 (.slice la m lc))) ?_
     clear F ac
     intro ac F
     refine Y.pval F (X.w0 rfl) rfl (X.move rfl (F.ev 10 (.int .i64 i))) ?_
     clear F ac
     intro ac F
     obtain ⟨pd51, pe51, -, -, pc51⟩ := hl.at (j := i) (by omega)
     subst pe51
     replace hC : RCells w9 [(⟨w.heap.size, 0, none⟩, .int .i64 gr), (⟨w.heap.size, 1, none⟩, .int .i64 hold), (⟨w.heap.size, 2, none⟩, .slice na n nc), (⟨w3.heap.size, 0, none⟩, .int .i64 ch), (⟨w3.heap.size, 1, none⟩, .int .i64 tk), (⟨mb, 0, none⟩, .int .i64 gr), (⟨mb, 1, none⟩, .int .i64 hold), (⟨mb, 2, none⟩, .slice (some ⟨go, 0, none⟩) n gc), (pd51.add (i * 4), .int .i64 (cv l i 0)), (⟨(pd51.add (i * 4)).block, (pd51.add (i * 4)).off + 1, none⟩, .int .i64 (cv l i 1)), (⟨(pd51.add (i * 4)).block, (pd51.add (i * 4)).off + 2, none⟩, .int .i64 (cv l i 2)), (⟨(pd51.add (i * 4)).block, (pd51.add (i * 4)).off + 3, none⟩, .int .i64 (cv l i 3))] := hC.append ((RCells.cons (pc51 0 (by decide)) (RCells.cons (pc51 1 (by decide)) (RCells.cons (pc51 2 (by decide)) (RCells.cons (pc51 3 (by decide)) (RCells.nil _))))))
     clear pc51
     refine Y.pval F (X.w0 rfl) rfl (X.index rfl (F.ev 55 (.slice (some pd51) m lc)) (F.ev 56 (.int .i64 i)) (X.idx (k := i) Try.underlying25 (Try.siz33 _) (by omega) (by omega) rfl)) ?_
     clear F ac
     intro ac F
     refine Y.pval F (X.w0 rfl) rfl (X.field rfl (F.ev 57 (.pointer (some (pd51.add (i * 4))))) (X.fld Try.underlying33 rfl (Try.siz3 _) rfl rfl)) ?_
     clear F ac
     intro ac F
     refine Y.pval F (X.w0 rfl) rfl (X.load rfl (F.ev 58 (.pointer (some (⟨(pd51.add (i * 4)).block, (pd51.add (i * 4)).off + 1, none⟩)))) (X.ld1 (Try.agg3 _) (hC.at 9 rfl))) ?_
     clear F ac
     intro ac F
     refine Y.pval F (X.w0 rfl) rfl (X.binop rfl (F.ev 59 (.int .i64 (cv l i 1))) (X.kc (.int .i64 1) rfl) (X.neqI Try.underlying3 rfl)) ?_
     clear F ac
     intro ac F
     refine Y.nil ?_
     replace F : Fr ac 169 [(1, .slice (some pd51) m lc), (3, .pointer (some ⟨w.heap.size, 0, none⟩)), (5, .pointer (some ⟨w3.heap.size, 0, none⟩)), (7, .int .i64 tk), (8, .pointer (some ⟨mb, 0, none⟩)), (9, v), (10, .int .i64 i), (60, .bool ((cv l i 1 : Int) != 1))] := F.sub _
     refine X.thenN ?_
     cases h52 : ((cv l i 1 : Int) != 1) with
     | false =>
      try rw [h52] at F
      have h52p : (cv l i 1 : Int) = 1 := by simpa using h52
      refine Y.condF (F.ev 60 (.bool false)) ?_
      refine Y.skip ?_
      refine X.blockN ?_
      refine X.thenN ?_
      refine Y.lit (by kernel_rfl) ?_
      refine Y.pval F (X.w0 rfl) rfl (X.move rfl (F.ev 10 (.int .i64 i))) ?_
      clear F ac
      intro ac F
      refine Y.pval F (X.w0 rfl) rfl (X.binop rfl (F.ev 53 (.int .i64 i)) (X.kc (.int .i64 1) rfl) (X.addI Try.underlying3 rfl (by omega) (by omega))) ?_
      clear F ac
      intro ac F
      refine Y.pval F (X.w0 rfl) rfl (X.assign rfl (F.ev 54 (.int .i64 ((i : Int) + 1)))) ?_
      clear F ac
      intro ac F
      refine Y.nil ?_
      replace F : Fr ac 169 [(1, .slice (some pd51) m lc), (3, .pointer (some ⟨w.heap.size, 0, none⟩)), (5, .pointer (some ⟨w3.heap.size, 0, none⟩)), (7, .int .i64 tk), (8, .pointer (some ⟨mb, 0, none⟩)), (9, v), (10, .int .i64 ((i : Int) + 1))] := F.sub _
      refine X.thenN ?_
      have hw := withoutL_take (l := l) (k := 1) (i := i) (by omega)
      refine ⟨_, ?_, i + 1, _, rfl, GW, by omega, (by rw [if_neg (show ¬ (nv (l[i]?.getD []) 1 != 1) = true from by rw [show (nv (l[i]?.getD []) 1 != 1) = false from h52]; simp), List.append_nil] at hw; rw [hw]; exact hO), F.sub _⟩
      omega
     | true =>
      try rw [h52] at F
      have h52p : ¬ (cv l i 1 : Int) = 1 := by simpa using h52
      refine Y.condT (F.ev 60 (.bool true)) ?_
      refine Y.lit (by kernel_rfl) ?_
      refine Y.pval F (X.w0 rfl) rfl (X.move rfl (F.ev 9 (v))) ?_
      clear F ac
      intro ac F
      refine Y.pval F (X.w0 rfl) rfl (X.move rfl (F.ev 1 (.slice (some pd51) m lc))) ?_
      clear F ac
      intro ac F
      refine Y.pval F (X.w0 rfl) rfl (X.move rfl (F.ev 10 (.int .i64 i))) ?_
      clear F ac
      intro ac F
      refine Y.pval F (X.w0 rfl) rfl (X.index rfl (F.ev 62 (.slice (some pd51) m lc)) (F.ev 63 (.int .i64 i)) (X.idx (k := i) Try.underlying25 (Try.siz33 _) (by omega) (by omega) rfl)) ?_
      clear F ac
      intro ac F
      refine Y.pval F (X.w0 rfl) rfl (X.load rfl (F.ev 64 (.pointer (some (pd51.add (i * 4))))) (X.ldN (Try.agg33 _) (Try.siz33 _) (Y.atz (pd51.add (i * 4)) (Y.AtFrom.cons (hC.at 8 rfl) (Y.AtFrom.cons (hC.at 9 rfl) (Y.AtFrom.cons (hC.at 10 rfl) (Y.AtFrom.cons (hC.at 11 rfl) (Y.AtFrom.nil _ _ _)))))))) ?_
      clear F ac
      intro ac F
      refine Y.pval F (X.w0 rfl) rfl (X.bs rfl (X.b1 (F.ev 65 (.agg #[.int .i64 (cv l i 0), .int .i64 (cv l i 1), .int .i64 (cv l i 2), .int .i64 (cv l i 3)]))) (Try.bs25 (cv l i 0) (cv l i 1) (cv l i 2) (cv l i 3) _)) ?_
      clear F ac
      intro ac F
      have g := Gr.alloc w9 (.cells #[.int .i64 (cv l i 0), .int .i64 (cv l i 1), .int .i64 (cv l i 2), .int .i64 (cv l i 3)] 33)
      have hb := heap_alloc_new w9 (.cells #[.int .i64 (cv l i 0), .int .i64 (cv l i 1), .int .i64 (cv l i 2), .int .i64 (cv l i 3)] 33)
      have hbl : w9.heap.size < (w9.alloc (.cells #[.int .i64 (cv l i 0), .int .i64 (cv l i 1), .int .i64 (cv l i 2), .int .i64 (cv l i 3)] 33)).heap.size := by simp
      generalize w9.alloc (.cells #[.int .i64 (cv l i 0), .int .i64 (cv l i 1), .int .i64 (cv l i 2), .int .i64 (cv l i 3)] 33) = w53 at *
      replace G := G.trans g
      replace hC := hC.gr g
      replace GW := GW.trans g
      replace hnd := hnd.gr g
      replace hl := hl.gr g
      replace hnd2 := hnd2.gr g
      replace hO := hO.gr g
      have hbk := hb
      clear g hb hbl
      refine Y.wpL_plain rfl fun _ hK => wp_pushV Try.underlying25 Try.info33 rfl (by decide) rfl (F.ev 61 (v)) (F.ev 66 (.slice (some ⟨w9.heap.size, 0, none⟩) 1 1)) hO (m := 1) (news := [.int .i64 (cv l i 0), .int .i64 (cv l i 1), .int .i64 (cv l i 2), .int .i64 (cv l i 3)]) rfl (cells_at (vs := [.int .i64 (cv l i 0), .int .i64 (cv l i 1), .int .i64 (cv l i 2), .int .i64 (cv l i 3)]) hbk) rfl (wo_room hll (by omega)) (by decide) GW.size (fun v_w54 w54 hO' hon hat => hK _ _ ?_)
      refine Y.pput F rfl ?_
      clear F ac hbk
      intro ac F
      have hge := fun b e => (hO.ge (b := b) e).1
      replace GW := GW.own hon hge
      clear hO hge hon hat
      have hO := hO'
      clear hO'
      replace G := G0_.trans GW
      replace hnd := hnd0.gr GW
      have hl := hl0.gr GW
      replace hnd2 := hnd20.gr GW
      replace hC := hC0.gr GW
      refine Y.pval F (X.w0 rfl) rfl (X.assign rfl (F.ev 67 (v_w54))) ?_
      clear F ac
      intro ac F
      refine Y.nil ?_
      replace F : Fr ac 169 [(1, .slice (some pd51) m lc), (3, .pointer (some ⟨w.heap.size, 0, none⟩)), (5, .pointer (some ⟨w3.heap.size, 0, none⟩)), (7, .int .i64 tk), (8, .pointer (some ⟨mb, 0, none⟩)), (9, v_w54), (10, .int .i64 i)] := F.sub _
      refine X.blockN ?_
      refine X.thenN ?_
      refine Y.lit (by kernel_rfl) ?_
      refine Y.pval F (X.w0 rfl) rfl (X.move rfl (F.ev 10 (.int .i64 i))) ?_
      clear F ac
      intro ac F
      refine Y.pval F (X.w0 rfl) rfl (X.binop rfl (F.ev 53 (.int .i64 i)) (X.kc (.int .i64 1) rfl) (X.addI Try.underlying3 rfl (by omega) (by omega))) ?_
      clear F ac
      intro ac F
      refine Y.pval F (X.w0 rfl) rfl (X.assign rfl (F.ev 54 (.int .i64 ((i : Int) + 1)))) ?_
      clear F ac
      intro ac F
      refine Y.nil ?_
      replace F : Fr ac 169 [(1, .slice (some pd51) m lc), (3, .pointer (some ⟨w.heap.size, 0, none⟩)), (5, .pointer (some ⟨w3.heap.size, 0, none⟩)), (7, .int .i64 tk), (8, .pointer (some ⟨mb, 0, none⟩)), (9, v_w54), (10, .int .i64 ((i : Int) + 1))] := F.sub _
      refine X.thenN ?_
      have hw := withoutL_take (l := l) (k := 1) (i := i) (by omega)
      refine ⟨_, ?_, i + 1, _, rfl, GW, by omega, (by rw [if_pos (show (nv (l[i]?.getD []) 1 != 1) = true from h52)] at hw; rw [hw, flat4_snoc, List.length_append]; exact hO), F.sub _⟩
      omega
   | true =>
    try rw [h7] at F
    have h7p : ((60 : Int) < tk) := of_decide_eq_true h7
    refine Y.condT (F.ev 38 (.bool true)) ?_
    refine Y.seq ?_
    refine Y.lit (by kernel_rfl) ?_
    refine Y.pcall F (X.w0 rfl) rfl (X.enter (F := 41) rfl (X.kc (.func (.func 41) #[] #[]) rfl) rfl (enters_of Try.func41 (by kernel_rfl) rfl _)) (counts_any w4) ?_
    clear F ac
    rintro e w56 ⟨rfl, g⟩
    refine ⟨_, rfl, ?_⟩
    intro ac F
    replace G := G.trans g
    replace hC := hC.gr g
    replace hnd := hnd.gr g
    replace hl := hl.gr g
    clear g
    refine Y.pval F (X.w0 rfl) rfl (X.assign rfl (F.ev 39 (.bool true))) ?_
    clear F ac
    intro ac F
    refine Y.nil ?_
    replace F : Fr ac 169 [(6, .bool true)] := F.sub _
    refine X.thenN ?_
    refine Y.ret ?_
    refine X.thenR ?_
    exact Y.ret0 (v := .bool true) F (Y.rs1 F rfl (by kernel_rfl)) ⟨rfl, G⟩
  | true =>
   try rw [h6] at F
   have h6p : ((60 : Int) < m) := of_decide_eq_true h6
   refine Y.pskip F (X.w2 rfl (F.yl (j := 9) (d := 35) (b := true) rfl (by kernel_rfl)) rfl) rfl ?_
   clear F ac
   intro ac F
   refine Y.pskip F (X.w2 rfl (F.yl (j := 9) (d := 35) (b := true) rfl (by kernel_rfl)) rfl) rfl ?_
   clear F ac
   intro ac F
   refine Y.pval F (X.w0 rfl) rfl (X.pickT rfl (F.ev 35 (.bool true)) (X.kc (.bool true) rfl)) ?_
   clear F ac
   intro ac F
   refine Y.nil ?_
   replace F : Fr ac 169 [(1, .slice la m lc), (3, .pointer (some ⟨w.heap.size, 0, none⟩)), (5, .pointer (some ⟨w3.heap.size, 0, none⟩)), (7, .int .i64 tk), (38, .bool true)] := F.sub _
   refine X.thenN ?_
   refine Y.condT (F.ev 38 (.bool true)) ?_
   refine Y.seq ?_
   refine Y.lit (by kernel_rfl) ?_
   refine Y.pcall F (X.w0 rfl) rfl (X.enter (F := 41) rfl (X.kc (.func (.func 41) #[] #[]) rfl) rfl (enters_of Try.func41 (by kernel_rfl) rfl _)) (counts_any w4) ?_
   clear F ac
   rintro e w58 ⟨rfl, g⟩
   refine ⟨_, rfl, ?_⟩
   intro ac F
   replace G := G.trans g
   replace hC := hC.gr g
   replace hnd := hnd.gr g
   replace hl := hl.gr g
   clear g
   refine Y.pval F (X.w0 rfl) rfl (X.assign rfl (F.ev 39 (.bool true))) ?_
   clear F ac
   intro ac F
   refine Y.nil ?_
   replace F : Fr ac 169 [(6, .bool true)] := F.sub _
   refine X.thenN ?_
   refine Y.ret ?_
   refine X.thenR ?_
   exact Y.ret0 (v := .bool true) F (Y.rs1 F rfl (by kernel_rfl)) ⟨rfl, G⟩
 | true =>
  try rw [h5] at F
  have h5p : ((6 : Int) < n) := of_decide_eq_true h5
  refine Y.pskip F (X.w2 rfl (F.yl (j := 4) (d := 30) (b := true) rfl (by kernel_rfl)) rfl) rfl ?_
  clear F ac
  intro ac F
  refine Y.pskip F (X.w2 rfl (F.yl (j := 4) (d := 30) (b := true) rfl (by kernel_rfl)) rfl) rfl ?_
  clear F ac
  intro ac F
  refine Y.pskip F (X.w2 rfl (F.yl (j := 4) (d := 30) (b := true) rfl (by kernel_rfl)) rfl) rfl ?_
  clear F ac
  intro ac F
  refine Y.pval F (X.w0 rfl) rfl (X.pickT rfl (F.ev 30 (.bool true)) (X.kc (.bool true) rfl)) ?_
  clear F ac
  intro ac F
  refine Y.pval F (X.w0 rfl) rfl (X.move rfl (F.ev 34 (.bool true))) ?_
  clear F ac
  intro ac F
  refine Y.pskip F (X.w2 rfl (F.yl (j := 9) (d := 35) (b := true) rfl (by kernel_rfl)) rfl) rfl ?_
  clear F ac
  intro ac F
  refine Y.pskip F (X.w2 rfl (F.yl (j := 9) (d := 35) (b := true) rfl (by kernel_rfl)) rfl) rfl ?_
  clear F ac
  intro ac F
  refine Y.pval F (X.w0 rfl) rfl (X.pickT rfl (F.ev 35 (.bool true)) (X.kc (.bool true) rfl)) ?_
  clear F ac
  intro ac F
  refine Y.nil ?_
  replace F : Fr ac 169 [(1, .slice la m lc), (3, .pointer (some ⟨w.heap.size, 0, none⟩)), (5, .pointer (some ⟨w3.heap.size, 0, none⟩)), (7, .int .i64 tk), (38, .bool true)] := F.sub _
  refine X.thenN ?_
  refine Y.condT (F.ev 38 (.bool true)) ?_
  refine Y.seq ?_
  refine Y.lit (by kernel_rfl) ?_
  refine Y.pcall F (X.w0 rfl) rfl (X.enter (F := 41) rfl (X.kc (.func (.func 41) #[] #[]) rfl) rfl (enters_of Try.func41 (by kernel_rfl) rfl _)) (counts_any w4) ?_
  clear F ac
  rintro e w60 ⟨rfl, g⟩
  refine ⟨_, rfl, ?_⟩
  intro ac F
  replace G := G.trans g
  replace hC := hC.gr g
  replace hnd := hnd.gr g
  replace hl := hl.gr g
  clear g
  refine Y.pval F (X.w0 rfl) rfl (X.assign rfl (F.ev 39 (.bool true))) ?_
  clear F ac
  intro ac F
  refine Y.nil ?_
  replace F : Fr ac 169 [(6, .bool true)] := F.sub _
  refine X.thenN ?_
  refine Y.ret ?_
  refine X.thenR ?_
  exact Y.ret0 (v := .bool true) F (Y.rs1 F rfl (by kernel_rfl)) ⟨rfl, G⟩
end
section
set_option linter.unusedVariables false
open Go.ChangeShapes Go.WideShapes Go.RowKit Go.Deep Go.Joins
section
variable {H : Type} {enc : TypeId × Value → H} {w : World} {base : Nat} {spare : Nat → Bool} {held : Bool}
set_option maxRecDepth 100000 in
theorem open_two {r : Reach} {b0 : Nat} {v : Value} {d : DataW H} {p : List MemPlace} (hv : Value.okWide Try.prog w r b0 56 v) (h : DataW.Trod enc Try.prog w base spare held 56 v d p) :
    ∃ c0 c1 : Int, v = .agg #[.int .i64 c0, .int .i64 c1] := by
  have A : Go.WideMaps.ArrKey Try.prog 56 3 2 := ⟨by kernel_rfl, by kernel_rfl, by kernel_rfl, by kernel_rfl⟩
  obtain ⟨cs, rfl, hsz⟩ := Go.WideMaps.okWide_arr A hv
  obtain ⟨fuel, hf⟩ := h
  cases fuel with
  | zero => simp [DataW.trod] at hf
  | succ m =>
    rw [DataW.trod_step] at hf
    unfold DataW.trodStep at hf
    simp only [A.hu, Value.cells] at hf
    rw [if_pos (by rw [A.size]; simpa using hsz)] at hf
    simp only [Option.map_eq_some_iff] at hf
    obtain ⟨ys, hy, e1⟩ := hf
    obtain ⟨l⟩ := cs
    match l, hsz with
    | [x0, x1], _ =>
      simp only [A.one, List.range_succ, List.range_zero, List.nil_append, List.cons_append, List.mapM_cons, List.mapM_nil, bind, Option.bind_eq_some_iff, pure, Option.some.injEq] at hy
      obtain ⟨y0, h0, ys2, ⟨y1, h1, _⟩, _⟩ := hy
      obtain ⟨i0, e0, _⟩ := DataW.trod_int Try.underlying3 h0
      obtain ⟨i1, e2, _⟩ := DataW.trod_int Try.underlying3 h1
      simp at e0 e2
      subst e0 e2
      exact ⟨i0, i1, rfl⟩
end
end
end Go.Proofs.Ytoalamakhjbedaa
