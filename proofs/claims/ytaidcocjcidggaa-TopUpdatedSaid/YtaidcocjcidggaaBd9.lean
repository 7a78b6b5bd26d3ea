/- Several texts of this claim in one file. (1) Contract: and. (2) Contract: all, of one formula. (3) Contract: newForest. (4) Contracts: slices.Index and Contains of strings, where there is none. (5) Contracts: formulas that are all valid. (6) Contracts: word, named. (7) Contracts: a valid model. (8) Contract: begin. (9) What count does, step by step; a region that holds two calls which turn one block. Nothing of the program is proved here. (10) Contract: count. -/
import Derived.Test.YtaidcocjcidggaaBd8
import Derived.Test.YtaidcocjcidggaaBd7
namespace Go.Proofs.Ytaidcocjcidggaa
set_option linter.unusedSimpArgs false
set_option linter.unusedVariables false
section
open Go.RowKit

theorem and_cons {m i : Nat} {F F' : Fo} {v r : Int} {xs : List Int} (h : i < xs.length) (hb : Fo.and m F v (xs.drop i) = some (F', r)) : ∃ F1 v1, Fo.join m F (-4) v (xs[i]?.getD 0) = some (F1, v1) ∧ Fo.and m F1 v1 (xs.drop (i + 1)) = some (F', r) := by
  rw [List.drop_eq_getElem_cons h] at hb
  unfold Fo.and at hb
  obtain ⟨⟨F1, v1⟩, h1, h2⟩ := Option.bind_eq_some_iff.1 hb
  exact ⟨F1, v1, by rw [List.getElem?_eq_getElem h]; exact h1, h2⟩
theorem and_nil {m i : Nat} {F F' : Fo} {v r : Int} {xs : List Int} (h : xs.length ≤ i) (hb : Fo.and m F v (xs.drop i) = some (F', r)) : F' = F ∧ r = v := by
  rw [List.drop_eq_nil_of_le h] at hb
  unfold Fo.and at hb
  injection hb with hb
  injection hb with h1 h2
  exact ⟨h1.symm, h2.symm⟩
set_option maxRecDepth 100000 in
set_option maxHeartbeats 400000 in
theorem fand_any (m : Nat) (t : Nat) (S : Nat → Prop) (fo fo' : Fo) (r : Int) (la : Option Addr) (ln lc : Nat) (xs : List Int) (w : World) (hF : FoAt w S t fo) (hL0 : Ints w la ln xs) (hdis : ∀ ad, la = some ad → ¬ S ad.block) (hb : Fo.and m fo 1 xs = some (fo', r)) :
  Calls Try.prog 107 #[Vp t, .slice la ln lc] w fun e w' => e = .returned (Vi r) ∧ FoAt w' (Gw S w w') t fo' ∧ Only S w w' := by
 have G := Gr.refl w
 have hL := hL0
 have hlt := hL0.lt
 refine Y.calls 20 Try.func107 rfl rfl ?_
 intro ac F0
 have F : Fr ac 20 [(0, Vp t), (1, .slice la ln lc)] := F0.sub _
 clear F0
 refine Y.seq ?_
 refine Y.lit (by kernel_rfl) ?_
 refine Y.pv F (X.assign rfl (X.kc (Vi 0) rfl)) ?_;clear F ac;intro ac F
 refine Y.nil ?_
 replace F : Fr ac 20 [(0, Vp t), (1, .slice la ln lc)] := F.sub _
 refine X.thenN ?_
 refine Y.seq ?_
 refine Y.lit (by kernel_rfl) ?_
 refine Y.pv F (X.assign rfl (X.kc (Vi 1) rfl)) ?_;clear F ac;intro ac F
 refine Y.nil ?_
 replace F : Fr ac 20 [(0, Vp t), (1, .slice la ln lc), (5, Vi 1)] := F.sub _
 refine X.thenN ?_
 refine Y.seq ?_
 refine Y.seq ?_
 refine Y.lit (by kernel_rfl) ?_
 refine Y.pv F (X.move rfl (F.e 1 rfl)) ?_;clear F ac;intro ac F
 refine Y.pv F (X.len1 Try.underlying26 rfl (F.e 8 rfl)) ?_;clear F ac;intro ac F
 refine Y.pv F (X.move rfl (X.kc (Vi 0) rfl)) ?_;clear F ac;intro ac F
 refine Y.nil ?_
 replace F : Fr ac 20 [(0, Vp t), (5, Vi 1), (8, .slice la ln lc), (9, Vi ln), (10, Vi 0)] := F.sub _
 refine X.thenN ?_
 refine Y.block ?_
 refine Y.loop (fun me_ ac wr => ∃ (i : Nat) (fi : Fo) (T : Nat → Prop) (v : Int), me_ = ln - i ∧ i ≤ ln ∧ Only S w wr ∧ (∀ b, T b → Gw S w wr b) ∧ FoAt wr T t fi ∧ Fo.and m fi v (xs.drop i) = some (fo', r) ∧ Fr ac 20 [(0, Vp t), (5, Vi v), (8, .slice la ln lc), (9, Vi ln), (10, Vi i)]) _ ⟨0, fo, S, 1, rfl, Nat.zero_le _, G.only _, fun b e => .inl e, hF.gr G, hb, F.sub _⟩ ?_
 clear F ac G hL
 intro me_ ac w3 hI
 obtain ⟨i, fi, T, v, rfl, hi, hOn, hTS, hFl, hbl, F⟩ := hI
 have G := Gr.refl w3
 have hL := hL0.onlyAt hOn hdis
 refine Y.seq ?_
 refine Y.lit (by kernel_rfl) ?_
 refine Y.pv F (X.binop rfl (F.e 10 rfl) (F.e 9 rfl) (X.lssI Try.underlying3 rfl)) ?_;clear F ac;intro ac F
 refine Y.nil ?_
 replace F : Fr ac 20 [(0, Vp t), (5, Vi v), (8, .slice la ln lc), (9, Vi ln), (10, Vi i), (11, .bool (decide ((i : Int) < ln)))] := F.sub _
 refine X.thenN ?_
 refine Y.seq ?_
 cases h4 : decide ((i : Int) < ln) with
 | false =>
  try rw [h4] at F
  have h4p : ¬ ((i : Int) < ln) := of_decide_eq_false h4
  obtain rfl : i = ln := by omega
  obtain ⟨e1, e2⟩ := and_nil (by rw [hL0.len]; exact Nat.le_refl _) hbl
  refine Y.condF (F.e 11 rfl) ?_
  refine Y.exit ?_
  refine X.thenX ?_
  refine X.thenX ?_
  refine X.blockX ?_
  refine X.thenN ?_
  refine Y.seq ?_
  refine Y.lit (by kernel_rfl) ?_
  refine Y.pv F (X.move rfl (F.e 5 rfl)) ?_;clear F ac;intro ac F
  refine Y.pv F (X.assign rfl (F.e 19 rfl)) ?_;clear F ac;intro ac F
  refine Y.nil ?_
  replace F : Fr ac 20 [(4, Vi v)] := F.sub _
  refine X.thenN ?_
  refine Y.ret ?_
  exact Y.ret0 (v := Vi v) F (Y.rs1 F rfl (by kernel_rfl)) ⟨by rw [e2], by rw [e1]; exact FoAt.mono hFl hTS (fun b e => e.elim (fun e => by have := hF.lt b e; have := hOn.size; omega) (fun e => e.2)), hOn⟩
 | true =>
  try rw [h4] at F
  have h4p : ((i : Int) < ln) := of_decide_eq_true h4
  obtain ⟨f1, v1, hj1, hb1⟩ := and_cons (by rw [hL0.len]; omega) hbl
  refine Y.condT (F.e 11 rfl) ?_
  refine Y.skip ?_
  refine X.thenN ?_
  refine Y.seq ?_
  refine Y.block ?_
  refine Y.seq ?_
  refine Y.lit (by kernel_rfl) ?_
  obtain ⟨pd5, pe5, -, pc5⟩ := hL.at (j := i) (by omega)
  subst pe5
  have hC : RCells w3 [(pd5.add i, Vi (xs[i]?.getD 0))] := (RCells.cons pc5 (RCells.nil _))
  clear pc5
  refine Y.pval F (X.w0 rfl) rfl (X.index rfl (F.e 8 rfl) (F.e 10 rfl) (X.idx (k := i) Try.underlying26 (Try.siz3 _) (by omega) (by omega) (by rw [Nat.mul_one]))) ?_;clear F ac;intro ac F
  refine Y.pv F (X.load rfl (F.e 12 rfl) (X.ld1 (Try.agg3 _) (hC.at 0 rfl))) ?_;clear F ac;intro ac F
  refine Y.pv F (X.assign rfl (F.e 13 rfl)) ?_;clear F ac;intro ac F
  refine Y.nil ?_
  replace F : Fr ac 20 [(0, Vp t), (5, Vi v), (7, Vi (xs[i]?.getD 0)), (8, .slice (some pd5) ln lc), (9, Vi ln), (10, Vi i)] := F.sub _
  refine X.thenN ?_
  refine Y.lit (by kernel_rfl) ?_
  refine Y.pv F (X.move rfl (F.e 0 rfl)) ?_;clear F ac;intro ac F
  refine Y.pv F (X.move rfl (F.e 5 rfl)) ?_;clear F ac;intro ac F
  refine Y.pv F (X.move rfl (F.e 7 rfl)) ?_;clear F ac;intro ac F
  refine Y.pcall F (X.w0 rfl) rfl (X.enter (F := 122) rfl (X.kc (.func (.func 122) #[] #[]) rfl) (X.a4 (F.e 14 rfl) (X.kc (Vi (-4)) rfl) (F.e 15 rfl) (F.e 16 rfl)) (enters_of Try.func122 (by kernel_rfl) rfl _)) (join_any m t T fi f1 (-4) v (xs[i]?.getD 0) v1 w3 (hFl.gr G) hj1) ?_
  clear F ac
  rintro e w6 ⟨rfl, hF1, hon⟩
  refine ⟨_, rfl, ?_⟩
  intro ac F
  obtain ⟨hT1, hS1⟩ := fo_next hOn hTS G hon
  refine Y.pv F (X.assign rfl (F.e 17 rfl)) ?_;clear F ac;intro ac F
  refine Y.nil ?_
  replace F : Fr ac 20 [(0, Vp t), (5, Vi v1), (8, .slice (some pd5) ln lc), (9, Vi ln), (10, Vi i)] := F.sub _
  refine X.blockN ?_
  refine X.thenN ?_
  refine Y.lit (by kernel_rfl) ?_
  refine Y.pv F (X.binop rfl (F.e 10 rfl) (X.kc (Vi 1) rfl) (X.addI Try.underlying3 rfl (by omega) (by omega))) ?_;clear F ac;intro ac F
  refine Y.pv F (X.move rfl (F.e 18 rfl)) ?_;clear F ac;intro ac F
  refine Y.nil ?_
  replace F : Fr ac 20 [(0, Vp t), (5, Vi v1), (8, .slice (some pd5) ln lc), (9, Vi ln), (10, Vi ((i : Int) + 1))] := F.sub _
  refine X.thenN ?_
  refine ⟨_, ?_, i + 1, f1, Gw T w3 w6, v1, rfl, by omega, hT1, hS1, hF1, hb1, F.sub _⟩
  omega
end
section
open Go.RowKit

theorem fints_two {W : World} {b : Nat} {v g : Int} (h : W.heap[b]? = some (.cells #[.int .i64 v, .int .i64 g] 3)) : Ints W (some ⟨b, 0, none⟩) 2 [v, g] := by
  refine ⟨rfl, by omega, fun j hj => ⟨_, rfl, (Array.getElem?_eq_some_iff.1 h).1, ?_⟩⟩
  have hc := cells_at (vs := [Vi v, Vi g]) h
  have : j = 0 ∨ j = 1 := by omega
  rcases this with rfl | rfl
  · exact hc 0 _ rfl
  · exact hc 1 _ rfl
theorem all_one {m : Nat} {F F' : Fo} {v r : Int} {f : List Int} (hb : Fo.all m F v ([f].drop 0) = some (F', r)) : ∃ F1 g F2 v2, Fo.grown m F f = some (F1, g) ∧ Fo.and m F1 1 [v, g] = some (F2, v2) ∧ Fo.all m F2 v2 ([f].drop 1) = some (F', r) := by
  unfold Fo.all at hb
  obtain ⟨⟨F1, g⟩, h1, hb⟩ := Option.bind_eq_some_iff.1 hb
  obtain ⟨⟨F2, v2⟩, h2, hb⟩ := Option.bind_eq_some_iff.1 hb
  exact ⟨F1, g, F2, v2, h1, h2, hb⟩
theorem all_nil {m : Nat} {F F' : Fo} {v r : Int} {f : List Int} (hb : Fo.all m F v ([f].drop 1) = some (F', r)) : F' = F ∧ r = v := by
  unfold Fo.all at hb
  injection hb with hb
  injection hb with h1 h2
  exact ⟨h1.symm, h2.symm⟩
set_option maxRecDepth 100000 in
set_option maxHeartbeats 1000000 in
theorem all_any (m : Nat) (t : Nat) (S : Nat → Prop) (fo fo' : Fo) (r : Int) (lb lc : Nat) (fa : Option Addr) (fn fc : Nat) (f : List Int) (w : World) (hF : FoAt w S t fo) (hc : w.cell? ⟨lb, 0, none⟩ = some (.slice fa fn fc)) (hlb : ¬ S lb) (hf0 : Ints w fa fn f) (hdis : ∀ ad, fa = some ad → ¬ S ad.block) (hfb : ∀ ad, fa = some ad → ad.block < w.heap.size) (hfn : fn ≤ 1000) (hb : Fo.all m fo 1 [f] = some (fo', r)) :
  Calls Try.prog 121 #[Vp t, .slice (some ⟨lb, 0, none⟩) 1 lc] w fun e w' => e = .returned (Vi r) ∧ FoAt w' (Gw S w w') t fo' ∧ Only S w w' := by
 have G := Gr.refl w
 have hf := hf0
 have hlen := hf0.len
 refine Y.calls 23 Try.func121 rfl rfl ?_
 intro ac F0
 have F : Fr ac 23 [(0, Vp t), (1, .slice (some ⟨lb, 0, none⟩) 1 lc)] := F0.sub _
 clear F0
 refine Y.seq ?_
 refine Y.lit (by kernel_rfl) ?_
 refine Y.pv F (X.assign rfl (X.kc (Vi 0) rfl)) ?_;clear F ac;intro ac F
 refine Y.nil ?_
 replace F : Fr ac 23 [(0, Vp t), (1, .slice (some ⟨lb, 0, none⟩) 1 lc)] := F.sub _
 refine X.thenN ?_
 refine Y.seq ?_
 refine Y.lit (by kernel_rfl) ?_
 refine Y.pv F (X.assign rfl (X.kc (Vi 1) rfl)) ?_;clear F ac;intro ac F
 refine Y.nil ?_
 replace F : Fr ac 23 [(0, Vp t), (1, .slice (some ⟨lb, 0, none⟩) 1 lc), (5, Vi 1)] := F.sub _
 refine X.thenN ?_
 refine Y.seq ?_
 refine Y.seq ?_
 refine Y.lit (by kernel_rfl) ?_
 refine Y.pv F (X.move rfl (F.e 1 rfl)) ?_;clear F ac;intro ac F
 refine Y.pv F (X.len1 Try.underlying119 rfl (F.e 8 rfl)) ?_;clear F ac;intro ac F
 refine Y.pv F (X.move rfl (X.kc (Vi 0) rfl)) ?_;clear F ac;intro ac F
 refine Y.nil ?_
 replace F : Fr ac 23 [(0, Vp t), (5, Vi 1), (8, .slice (some ⟨lb, 0, none⟩) 1 lc), (9, Vi 1), (10, Vi 0)] := F.sub _
 refine X.thenN ?_
 refine Y.block ?_
 refine Y.loop (fun me_ ac wr => ∃ (i : Nat) (fi : Fo) (T : Nat → Prop) (v : Int), me_ = 1 - i ∧ i ≤ 1 ∧ Only S w wr ∧ (∀ b, T b → Gw S w wr b) ∧ FoAt wr T t fi ∧ Fo.all m fi v ([f].drop i) = some (fo', r) ∧ Fr ac 23 [(0, Vp t), (5, Vi v), (8, .slice (some ⟨lb, 0, none⟩) 1 lc), (9, Vi 1), (10, Vi i)]) _ ⟨0, fo, S, 1, rfl, Nat.zero_le _, G.only _, fun b e => .inl e, hF.gr G, hb, F.sub _⟩ ?_
 clear F ac G hf
 intro me_ ac w3 hI
 obtain ⟨i, fi, T, v, rfl, hi, hOn, hTS, hFl, hbl, F⟩ := hI
 have G := Gr.refl w3
 have hf := hf0.onlyAt hOn hdis
 refine Y.seq ?_
 refine Y.lit (by kernel_rfl) ?_
 refine Y.pv F (X.binop rfl (F.e 10 rfl) (F.e 9 rfl) (X.lssI Try.underlying3 rfl)) ?_;clear F ac;intro ac F
 refine Y.nil ?_
 replace F : Fr ac 23 [(0, Vp t), (5, Vi v), (8, .slice (some ⟨lb, 0, none⟩) 1 lc), (9, Vi 1), (10, Vi i), (11, .bool (decide ((i : Int) < 1)))] := F.sub _
 refine X.thenN ?_
 refine Y.seq ?_
 cases h4 : decide ((i : Int) < 1) with
 | false =>
  try rw [h4] at F
  have h4p : ¬ ((i : Int) < 1) := of_decide_eq_false h4
  obtain rfl : i = 1 := by omega
  obtain ⟨e1, e2⟩ := all_nil hbl
  refine Y.condF (F.e 11 rfl) ?_
  refine Y.exit ?_
  refine X.thenX ?_
  refine X.thenX ?_
  refine X.blockX ?_
  refine X.thenN ?_
  refine Y.seq ?_
  refine Y.lit (by kernel_rfl) ?_
  refine Y.pv F (X.move rfl (F.e 5 rfl)) ?_;clear F ac;intro ac F
  refine Y.pv F (X.assign rfl (F.e 22 rfl)) ?_;clear F ac;intro ac F
  refine Y.nil ?_
  replace F : Fr ac 23 [(4, Vi v)] := F.sub _
  refine X.thenN ?_
  refine Y.ret ?_
  exact Y.ret0 (v := Vi v) F (Y.rs1 F rfl (by kernel_rfl)) ⟨by rw [e2], by rw [e1]; exact FoAt.mono hFl hTS (fun b e => e.elim (fun e => by have := hF.lt b e; have := hOn.size; omega) (fun e => e.2)), hOn⟩
 | true =>
  try rw [h4] at F
  have h4p : ((i : Int) < 1) := of_decide_eq_true h4
  obtain rfl : i = 0 := by omega
  obtain ⟨f1, gn, f2, v2, hgr, had, hb2⟩ := all_one hbl
  have hC : RCells w3 [((⟨lb, 0, none⟩ : Addr).add 0, .slice fa fn fc)] := (RCells.cons (hOn.cell hc hlb) (RCells.nil _))
  refine Y.condT (F.e 11 rfl) ?_
  refine Y.skip ?_
  refine X.thenN ?_
  refine Y.seq ?_
  refine Y.block ?_
  refine Y.seq ?_
  refine Y.lit (by kernel_rfl) ?_
  refine Y.pval F (X.w0 rfl) rfl (X.index rfl (F.e 8 rfl) (F.e 10 rfl) (X.idx (k := 0) Try.underlying119 (Try.siz118 _) (by omega) (by omega) (by rw [Nat.mul_one]))) ?_;clear F ac;intro ac F
  refine Y.pv F (X.load rfl (F.e 12 rfl) (X.ld1 (Try.agg118 _) (hC.at 0 rfl))) ?_;clear F ac;intro ac F
  refine Y.pv F (X.assign rfl (F.e 13 rfl)) ?_;clear F ac;intro ac F
  refine Y.nil ?_
  replace F : Fr ac 23 [(0, Vp t), (5, Vi v), (7, .slice fa fn fc), (8, .slice (some ⟨lb, 0, none⟩) 1 lc), (9, Vi 1), (10, Vi 0)] := F.sub _
  refine X.thenN ?_
  refine Y.lit (by kernel_rfl) ?_
  refine Y.pv F (X.move rfl (F.e 0 rfl)) ?_;clear F ac;intro ac F
  refine Y.pv F (X.move rfl (F.e 5 rfl)) ?_;clear F ac;intro ac F
  refine Y.pv F (X.move rfl (F.e 0 rfl)) ?_;clear F ac;intro ac F
  refine Y.pv F (X.move rfl (F.e 7 rfl)) ?_;clear F ac;intro ac F
  refine Y.pcall F (X.w0 rfl) rfl (X.enter (F := 108) rfl (X.kc (.func (.func 108) #[] #[]) rfl) (X.a2 (F.e 16 rfl) (F.e 17 rfl)) (enters_of Try.func108 (by kernel_rfl) rfl _)) (grow_any m t T fi f1 gn fa fn fc f w3 (hFl.gr G) hf (fun ad e h => (hTS _ h).elim (hdis ad e) (fun h => by have := hfb ad e; omega)) hfn hgr) ?_
  clear F ac
  rintro e w5 ⟨rfl, hF1, hon⟩
  refine ⟨_, rfl, ?_⟩
  intro ac F
  obtain ⟨hT1, hS1⟩ := fo_next hOn hTS G hon
  clear G hC hf
  have G := Gr.refl w5
  refine Y.pv F (X.bs rfl (X.b2 (F.e 15 rfl) (F.e 18 rfl)) (Try.bs34_2 v gn _)) ?_;clear F ac;intro ac F
  have g := Gr.alloc w5 (.cells #[Vi v, Vi gn] 3)
  have hb := heap_alloc_new w5 (.cells #[Vi v, Vi gn] 3)
  have hbl : w5.heap.size < (w5.alloc (.cells #[Vi v, Vi gn] 3)).heap.size := by simp
  have hC2 : RCells (w5.alloc (.cells #[Vi v, Vi gn] 3)) [(Ad w5.heap.size 0, Vi v), (Ad w5.heap.size 1, Vi gn)] := (RCells.nil w5).box (b := w5.heap.size) #[Vi v, Vi gn] 3 rfl
  generalize w5.alloc (.cells #[Vi v, Vi gn] 3) = w6 at *
  replace G := G.trans g
  have hC := hC2
  clear hC2
  have hg9 := hb
  clear g hb hbl
  refine Y.pcall F (X.w0 rfl) rfl (X.enter (F := 107) rfl (X.kc (.func (.func 107) #[] #[]) rfl) (X.a2 (F.e 14 rfl) (F.e 19 rfl)) (enters_of Try.func107 (by kernel_rfl) rfl _)) (fand_any m t _ f1 f2 v2 (some ⟨w5.heap.size, 0, none⟩) 2 2 [v, gn] w6 (hF1.gr G) (fints_two hg9) (fun ad e h => by injection e with e; subst e; have := hF1.lt _ h; simp only at this; omega) had) ?_
  clear F ac
  rintro e w7 ⟨rfl, hF2, hon2⟩
  refine ⟨_, rfl, ?_⟩
  intro ac F
  obtain ⟨hT2, hS2⟩ := fo_next hT1 hS1 G hon2
  refine Y.pv F (X.assign rfl (F.e 20 rfl)) ?_;clear F ac;intro ac F
  refine Y.nil ?_
  replace F : Fr ac 23 [(0, Vp t), (5, Vi v2), (8, .slice (some ⟨lb, 0, none⟩) 1 lc), (9, Vi 1), (10, Vi 0)] := F.sub _
  refine X.blockN ?_
  refine X.thenN ?_
  refine Y.lit (by kernel_rfl) ?_
  refine Y.pv F (X.binop rfl (F.e 10 rfl) (X.kc (Vi 1) rfl) (X.addI Try.underlying3 rfl (by omega) (by omega))) ?_;clear F ac;intro ac F
  refine Y.pv F (X.move rfl (F.e 21 rfl)) ?_;clear F ac;intro ac F
  refine Y.nil ?_
  replace F : Fr ac 23 [(0, Vp t), (5, Vi v2), (8, .slice (some ⟨lb, 0, none⟩) 1 lc), (9, Vi 1), (10, Vi 1)] := F.sub _
  refine X.thenN ?_
  refine ⟨_, ?_, 1, f2, _, v2, rfl, Nat.le_refl _, hT2, hS2, hF2, hb2, F.sub _⟩
  omega
end
section
open Go.RowKit

theorem Y.b4f {ρ : Operand → Value} {x y z u : Operand} {a b c d : Value} (h : ρ x = a) (k : ρ y = b) (l : ρ z = c) (m : ρ u = d) : [(0, x), (1, y), (2, z), (3, u)].map (fun p : Nat × Operand => (p.1, ρ p.2)) = [(0, a), (1, b), (2, c), (3, d)] := by simp [h, k, l, m]
theorem Try.bd150 (a : Int) (s : Option Addr) (n c p q : Nat) (W : World) : (Instr.build 162 #[(0, .int .i64 a), (1, .slice s n c), (2, .map (some p)), (3, .map (some q))]).run Try.prog W = .ok (.agg #[.int .i64 a, .slice s n c, .map (some p), .map (some q)]) W := by kernel_rfl
theorem Y.mm {P : Program} {o : Oper} {ρ : Operand → Value} {W W' : World} {t : TypeId} {v : Value} (ho : o.op = .makeMap t none) (hr : (Instr.makeMap t none).run P W = .ok v W') : (execOp ρ o).run P W = .ok (.value v) W' := by
  unfold execOp; rw [ho]; exact X.run_v hr
theorem new_forest {n : Int} {w w1 w2 w3 w4 : World} (h1 : w.alloc (.cells #[.int .i64 n, .int .i64 0, .int .i64 0, .int .i64 n, .int .i64 0, .int .i64 0] 157) = w1) (h2 : w1.alloc (.map #[] 0) = w2) (h3 : w2.alloc (.map #[] 0) = w3)
    (h4 : w3.alloc (.cells #[Vi n, .slice (some ⟨w.heap.size, 0, none⟩) 2 2, .map (some w1.heap.size), .map (some w2.heap.size)] 162) = w4) :
    FoAt w4 (fun b => w.heap.size ≤ b ∧ b < w4.heap.size) w3.heap.size (Fo.new n) ∧ Gr w w4 := by
  have b1 := heap_alloc_new w (.cells #[Vi n, Vi 0, Vi 0, Vi n, Vi 0, Vi 0] 157)
  have b2 := heap_alloc_new w1 (.map #[] 0)
  have b3 := heap_alloc_new w2 (.map #[] 0)
  have b4 := heap_alloc_new w3 (.cells #[Vi n, .slice (some ⟨w.heap.size, 0, none⟩) 2 2, .map (some w1.heap.size), .map (some w2.heap.size)] 162)
  have g1 := Gr.alloc w (.cells #[Vi n, Vi 0, Vi 0, Vi n, Vi 0, Vi 0] 157)
  have g2 := Gr.alloc w1 (.map #[] 0)
  have g3 := Gr.alloc w2 (.map #[] 0)
  have g4 := Gr.alloc w3 (.cells #[Vi n, .slice (some ⟨w.heap.size, 0, none⟩) 2 2, .map (some w1.heap.size), .map (some w2.heap.size)] 162)
  have s1 : w1.heap.size = w.heap.size + 1 := by rw [← h1]; simp
  have s2 : w2.heap.size = w1.heap.size + 1 := by rw [← h2]; simp
  have s3 : w3.heap.size = w2.heap.size + 1 := by rw [← h3]; simp
  have s4 : w4.heap.size = w3.heap.size + 1 := by rw [← h4]; simp
  rw [h1] at b1 g1
  rw [h2] at b2 g2
  rw [h3] at b3 g3
  rw [h4] at b4 g4
  have k1 : w4.heap[w.heap.size]? = _ := (Below.block (g2.trans (g3.trans g4)) _ (by omega)).trans b1
  have k2 : w4.heap[w1.heap.size]? = _ := (Below.block (g3.trans g4) _ (by omega)).trans b2
  have k3 : w4.heap[w2.heap.size]? = _ := (Below.block g4 _ (by omega)).trans b3
  refine ⟨⟨some ⟨w.heap.size, 0, none⟩, 2, w1.heap.size, w2.heap.size, ⟨?_, ?_, mp_new k2, mp_new k3, ⟨by omega, by omega⟩, ⟨by omega, by omega⟩, ⟨by omega, by omega⟩, ?_, by omega, fun b e => e.2, by show 2 ≤ 900; omega⟩⟩, g1.trans (g2.trans (g3.trans g4))⟩
  · refine ⟨_, _, b4, by show 4 ≤ 4; omega, fun i hi => ?_⟩
    have : i = 0 ∨ i = 1 ∨ i = 2 ∨ i = 3 := by omega
    rcases this with rfl | rfl | rfl | rfl <;> rfl
  · exact ⟨rfl, .inr ⟨w.heap.size, 2, _, rfl, Nat.zero_le _, k1, Nat.le_refl _, by decide, rfl, rfl⟩⟩
  · intro b e
    have e : w.heap.size = b := by simpa [Value.ownBlock] using e
    exact ⟨⟨by omega, by omega⟩, by omega⟩
set_option maxRecDepth 100000 in
set_option maxHeartbeats 400000 in
theorem newForest_any (n : Int) (w : World) :
  Calls Try.prog 120 #[Vi n] w fun e w' => ∃ b, e = .returned (Vp b) ∧ FoAt w' (fun b => w.heap.size ≤ b ∧ b < w'.heap.size) b (Fo.new n) ∧ Gr w w' := by
 have G := Gr.refl w
 refine Y.calls 13 Try.func120 rfl rfl ?_
 intro ac F0
 have F : Fr ac 13 [(0, Vi n)] := F0.sub _
 clear F0
 refine Y.seq ?_
 refine Y.lit (by kernel_rfl) ?_
 refine Y.pv F (X.assign rfl (X.kc (.pointer none) rfl)) ?_;clear F ac;intro ac F
 refine Y.nil ?_
 replace F : Fr ac 13 [(0, Vi n)] := F.sub _
 refine X.thenN ?_
 refine Y.seq ?_
 refine Y.lit (by kernel_rfl) ?_
 refine Y.pv F (X.move rfl (F.e 0 rfl)) ?_;clear F ac;intro ac F
 refine Y.pv F (X.move rfl (F.e 0 rfl)) ?_;clear F ac;intro ac F
 refine Y.pv F (Y.bd rfl (X.b1 (F.e 4 rfl)) (Try.bd145x _ _)) ?_;clear F ac;intro ac F
 refine Y.pv F (X.move rfl (F.e 0 rfl)) ?_;clear F ac;intro ac F
 refine Y.pv F (Y.bd rfl (X.b1 (F.e 6 rfl)) (Try.bd145x _ _)) ?_;clear F ac;intro ac F
 refine Y.pv F (X.bs rfl (X.b2 (F.e 5 rfl) (F.e 7 rfl)) (Try.bs146_2 _ _ _ _ _ _ _)) ?_;clear F ac;intro ac F
 generalize hw1 : w.alloc (.cells #[Vi n, Vi 0, Vi 0, Vi n, Vi 0, Vi 0] 157) = w3
 refine Y.pv F (Y.mm rfl (Try.mk147 _)) ?_;clear F ac;intro ac F
 generalize hw2 : w3.alloc (.map #[] 0) = w4
 refine Y.pv F (Y.mm rfl (Try.mk148 _)) ?_;clear F ac;intro ac F
 generalize hw3 : w4.alloc (.map #[] 0) = w5
 refine Y.pv F (Y.bd rfl (Y.b4f (F.e 3 rfl) (F.e 8 rfl) (F.e 9 rfl) (F.e 10 rfl)) (Try.bd150 _ _ _ _ _ _ _)) ?_;clear F ac;intro ac F
 refine Y.pv F (X.box rfl (F.e 11 rfl) X.bx) ?_;clear F ac;intro ac F
 generalize hw4 : w5.alloc (.cells #[Vi n, .slice (some ⟨w.heap.size, 0, none⟩) 2 2, .map (some w3.heap.size), .map (some w4.heap.size)] 162) = w6
 refine Y.pv F (X.assign rfl (F.e 12 rfl)) ?_;clear F ac;intro ac F
 refine Y.nil ?_
 replace F : Fr ac 13 [(2, Vp w5.heap.size)] := F.sub _
 refine X.thenN ?_
 refine Y.ret ?_
 exact Y.ret0 (v := Vp w5.heap.size) F (Y.rs1 F rfl (by kernel_rfl)) ⟨_, rfl, (new_forest hw1 hw2 hw3 hw4).1, (new_forest hw1 hw2 hw3 hw4).2⟩
end
section
open Go.RowKit

/-- a row of strings -/
def SrAt (w : World) (a : Option Addr) (n : Nat) (sv : Nat → ByteArray) : Prop := n ≤ 1000 ∧ ∀ j, j < n → ∃ ad, a = some ad ∧ ad.block < w.heap.size ∧ w.cell? (ad.add j) = some (.string (sv j))
theorem SrAt.gr {w w' : World} {a : Option Addr} {n : Nat} {sv : Nat → ByteArray} (h : SrAt w a n sv) (g : Gr w w') : SrAt w' a n sv :=
  ⟨h.1, fun j hj => by obtain ⟨ad, e, hb, hc⟩ := h.2 j hj; exact ⟨ad, e, Nat.lt_of_lt_of_le hb g.size, (g.cell (by rw [add_block]; exact hb)).trans hc⟩⟩
theorem SrAt.take {w : World} {a : Option Addr} {n m : Nat} {sv : Nat → ByteArray} (h : SrAt w a n sv) (hm : m ≤ n) : SrAt w a m sv := ⟨by have := h.1; omega, fun j hj => h.2 j (by omega)⟩
set_option maxRecDepth 100000 in
set_option maxHeartbeats 400000 in
theorem idxS_none (a : Option Addr) (n c : Nat) (sv : Nat → ByteArray) (x : ByteArray) (w : World) (hT : SrAt w a n sv) (hx : ∀ j, j < n → (x.toList == (sv j).toList) = false) :
  Calls Try.prog 142 #[.slice a n c, .string x] w fun e w' => e = .returned (Vi (-1)) ∧ w' = w := by
 have G := Gr.refl w
 have hn9 := hT.1
 refine Y.calls 19 Try.func142 rfl rfl ?_
 intro ac F0
 have F : Fr ac 19 [(0, .slice a n c), (1, .string x)] := F0.sub _
 clear F0
 refine Y.seq ?_
 refine Y.lit (by kernel_rfl) ?_
 refine Y.pv F (X.assign rfl (X.kc (Vi 0) rfl)) ?_;clear F ac;intro ac F
 refine Y.nil ?_
 replace F : Fr ac 19 [(0, .slice a n c), (1, .string x)] := F.sub _
 refine X.thenN ?_
 refine Y.seq ?_
 refine Y.seq ?_
 refine Y.lit (by kernel_rfl) ?_
 refine Y.pv F (X.move rfl (F.e 0 rfl)) ?_;clear F ac;intro ac F
 refine Y.pv F (X.len1 Try.underlying117 rfl (F.e 6 rfl)) ?_;clear F ac;intro ac F
 refine Y.pv F (X.move rfl (X.kc (Vi 0) rfl)) ?_;clear F ac;intro ac F
 refine Y.nil ?_
 replace F : Fr ac 19 [(0, .slice a n c), (1, .string x), (7, Vi n), (8, Vi 0)] := F.sub _
 refine X.thenN ?_
 refine Y.block ?_
 have hTB := hT
 have GB := G
 refine Y.loop (fun me_ ac wr => ∃ (i : Nat), me_ = n - i ∧ Gr w wr ∧ i ≤ n ∧ wr = w ∧ Fr ac 19 [(0, .slice a n c), (1, .string x), (7, Vi n), (8, Vi i)]) _ ⟨0, rfl, Gr.refl _, Nat.zero_le _, rfl, F.sub _⟩ ?_
 clear F
 intro me_ ac w3 hI
 obtain ⟨i, rfl, gr, hi0, hww, F⟩ := hI
 replace G := GB.trans gr
 replace hT := hTB.gr gr
 have GB_ := gr
 clear gr
 replace hww := hww.symm
 subst hww
 refine Y.seq ?_
 refine Y.lit (by kernel_rfl) ?_
 refine Y.pv F (X.binop rfl (F.e 8 rfl) (F.e 7 rfl) (X.lssI Try.underlying3 rfl)) ?_;clear F ac;intro ac F
 refine Y.nil ?_
 replace F : Fr ac 19 [(0, .slice a n c), (1, .string x), (7, Vi n), (8, Vi i), (9, .bool (decide ((i : Int) < n)))] := F.sub _
 refine X.thenN ?_
 refine Y.seq ?_
 cases h4 : decide ((i : Int) < n) with
 | false =>
  try rw [h4] at F
  have h4p : ¬ ((i : Int) < n) := of_decide_eq_false h4
  refine Y.condF (F.e 9 rfl) ?_
  refine Y.exit ?_
  refine X.thenX ?_
  refine X.thenX ?_
  refine X.blockX ?_
  refine X.thenN ?_
  refine Y.seq ?_
  refine Y.lit (by kernel_rfl) ?_
  refine Y.pv F (X.assign rfl (X.kc (Vi (-1)) rfl)) ?_;clear F ac;intro ac F
  refine Y.nil ?_
  replace F : Fr ac 19 [(4, Vi (-1))] := F.sub _
  refine X.thenN ?_
  refine Y.ret ?_
  exact Y.ret0 (v := Vi (-1)) F (Y.rs1 F rfl (by kernel_rfl)) ⟨rfl, rfl⟩
 | true =>
  try rw [h4] at F
  have h4p : ((i : Int) < n) := of_decide_eq_true h4
  refine Y.condT (F.e 9 rfl) ?_
  refine Y.skip ?_
  refine X.thenN ?_
  refine Y.seq ?_
  refine Y.block ?_
  refine Y.seq ?_
  refine Y.lit (by kernel_rfl) ?_
  refine Y.pv F (X.move rfl (F.e 8 rfl)) ?_;clear F ac;intro ac F
  refine Y.pv F (X.assign rfl (F.e 10 rfl)) ?_;clear F ac;intro ac F
  refine Y.nil ?_
  replace F : Fr ac 19 [(0, .slice a n c), (1, .string x), (5, Vi i), (7, Vi n), (8, Vi i)] := F.sub _
  refine X.thenN ?_
  refine Y.seq ?_
  refine Y.lit (by kernel_rfl) ?_
  refine Y.pv F (X.move rfl (F.e 1 rfl)) ?_;clear F ac;intro ac F
  refine Y.pv F (X.move rfl (F.e 0 rfl)) ?_;clear F ac;intro ac F
  refine Y.pv F (X.move rfl (F.e 5 rfl)) ?_;clear F ac;intro ac F
  obtain ⟨pd5, pe5, -, pc5⟩ := hT.2 i (by omega)
  subst pe5
  have hC : RCells w [(pd5.add i, .string (sv i))] := (RCells.cons pc5 (RCells.nil _))
  clear pc5
  refine Y.pval F (X.w0 rfl) rfl (X.index rfl (F.e 12 rfl) (F.e 13 rfl) (X.idx (k := i) Try.underlying117 (Try.siz9 _) (by omega) (by omega) (by rw [Nat.mul_one]))) ?_;clear F ac;intro ac F
  refine Y.pv F (X.load rfl (F.e 14 rfl) (X.ld1 (Try.agg9 _) (hC.at 0 rfl))) ?_;clear F ac;intro ac F
  refine Y.pv F (X.binop rfl (F.e 11 rfl) (F.e 15 rfl) (Y.eqlS Try.underlying9 rfl)) ?_;clear F ac;intro ac F
  refine Y.nil ?_
  replace F : Fr ac 19 [(0, .slice (some pd5) n c), (1, .string x), (5, Vi i), (7, Vi n), (8, Vi i), (16, .bool ((x.toList == (sv i).toList)))] := F.sub _
  refine X.thenN ?_
  have h7 : ((x.toList == (sv i).toList)) = false := hx i (by omega)
  try rw [h7] at F
  refine Y.condF (F.e 16 rfl) ?_
  refine Y.skip ?_
  refine X.blockN ?_
  refine X.thenN ?_
  refine Y.lit (by kernel_rfl) ?_
  refine Y.pv F (X.binop rfl (F.e 8 rfl) (X.kc (Vi 1) rfl) (X.addI Try.underlying3 rfl (by omega) (by omega))) ?_;clear F ac;intro ac F
  refine Y.pv F (X.move rfl (F.e 18 rfl)) ?_;clear F ac;intro ac F
  refine Y.nil ?_
  replace F : Fr ac 19 [(0, .slice (some pd5) n c), (1, .string x), (7, Vi n), (8, Vi ((i : Int) + 1))] := F.sub _
  refine X.thenN ?_
  refine ⟨_, ?_, i + 1, rfl, GB_, by omega, rfl, F.sub _⟩
  omega
set_option maxRecDepth 100000 in
set_option maxHeartbeats 400000 in
theorem conS_none (a : Option Addr) (n c : Nat) (sv : Nat → ByteArray) (x : ByteArray) (w : World) (hT : SrAt w a n sv) (hx : ∀ j, j < n → (x.toList == (sv j).toList) = false) :
  Calls Try.prog 137 #[.slice a n c, .string x] w fun e w' => e = .returned (.bool false) ∧ w' = w := by
 have G := Gr.refl w
 refine Y.calls 9 Try.func137 rfl rfl ?_
 intro ac F0
 have F : Fr ac 9 [(0, .slice a n c), (1, .string x)] := F0.sub _
 clear F0
 refine Y.seq ?_
 refine Y.lit (by kernel_rfl) ?_
 refine Y.pv F (X.assign rfl (X.kc (.bool false) rfl)) ?_;clear F ac;intro ac F
 refine Y.nil ?_
 replace F : Fr ac 9 [(0, .slice a n c), (1, .string x)] := F.sub _
 refine X.thenN ?_
 refine Y.seq ?_
 refine Y.lit (by kernel_rfl) ?_
 refine Y.pv F (X.move rfl (F.e 0 rfl)) ?_;clear F ac;intro ac F
 refine Y.pv F (X.move rfl (F.e 1 rfl)) ?_;clear F ac;intro ac F
 refine Y.pcall F (X.w0 rfl) rfl (X.enter (F := 142) rfl (X.kc (.func (.func 142) #[] #[]) rfl) (X.a2 (F.e 5 rfl) (F.e 6 rfl)) (enters_of Try.func142 (by kernel_rfl) rfl _)) (idxS_none a n c sv x w hT hx) ?_
 clear F ac
 rintro e w' ⟨rfl, hw_⟩
 obtain rfl : w = w' := hw_.symm
 clear hw_
 refine ⟨_, rfl, ?_⟩
 intro ac F
 refine Y.pval F (X.w0 rfl) rfl (X.binop rfl (F.e 7 rfl) (X.kc (Vi 0) rfl) (X.geqI Try.underlying3 (show decide ((0 : Int) ≤ (-1)) = false by simp))) ?_;clear F ac;intro ac F
 refine Y.pv F (X.assign rfl (F.e 8 rfl)) ?_;clear F ac;intro ac F
 refine Y.nil ?_
 replace F : Fr ac 9 [(4, .bool false)] := F.sub _
 refine X.thenN ?_
 refine Y.ret ?_
 exact Y.ret0 (v := .bool false) F (Y.rs1 F rfl (by kernel_rfl)) ⟨by simp, rfl⟩
end
section
open Go.RowKit

set_option maxRecDepth 100000 in
set_option maxHeartbeats 400000 in
theorem cf1_any (bm : Nat) (oa ra : Option Addr) (on oc rn rc : Nat) (fa : Option Addr) (fn fc : Nat) (f : List Int) (w : World) (hcb : RCells w [(⟨bm, 0, none⟩, .slice oa on oc), (⟨bm, 1, none⟩, .slice ra rn rc)]) (hf : Ints w fa fn f) :
  Calls Try.prog 139 #[.slice fa fn fc, Vp bm] w fun e w' => e = .returned (.bool (!validB on f)) ∧ Gr w w' := by
 have G := Gr.refl w
 have hC := hcb
 refine Y.calls 10 Try.func139 rfl rfl ?_
 intro ac F0
 have F : Fr ac 10 [(0, .slice fa fn fc), (1, Vp bm)] := F0.sub _
 clear F0
 refine Y.seq ?_
 refine Y.lit (by kernel_rfl) ?_
 refine Y.pv F (X.assign rfl (X.kc (.bool false) rfl)) ?_;clear F ac;intro ac F
 refine Y.nil ?_
 replace F : Fr ac 10 [(0, .slice fa fn fc), (1, Vp bm)] := F.sub _
 refine X.thenN ?_
 refine Y.seq ?_
 refine Y.lit (by kernel_rfl) ?_
 refine Y.pv F (X.move rfl (F.e 0 rfl)) ?_;clear F ac;intro ac F
 refine Y.pv F (X.field rfl (F.e 1 rfl) (X.fld Try.underlying121 rfl (Try.siz117 _) rfl rfl)) ?_;clear F ac;intro ac F
 refine Y.pv F (X.load rfl (F.e 5 rfl) (X.ld1 (Try.agg117 _) (hC.at 0 rfl))) ?_;clear F ac;intro ac F
 refine Y.pv F (X.len1 Try.underlying117 rfl (F.e 6 rfl)) ?_;clear F ac;intro ac F
 refine Y.pcall F (X.w0 rfl) rfl (X.enter (F := 140) rfl (X.kc (.func (.func 140) #[] #[]) rfl) (X.a2 (F.e 4 rfl) (F.e 7 rfl)) (enters_of Try.func140 (by kernel_rfl) rfl _)) (valid_any fa fn fc f on w hf) ?_
 clear F ac
 rintro e w3 ⟨rfl, g⟩
 refine ⟨_, rfl, ?_⟩
 intro ac F
 replace G := G.trans g
 replace hC := hC.gr g
 replace hf := hf.gr g
 clear g
 refine Y.pv F (X.notB rfl (F.e 8 rfl) rfl) ?_;clear F ac;intro ac F
 refine Y.pv F (X.assign rfl (F.e 9 rfl)) ?_;clear F ac;intro ac F
 refine Y.nil ?_
 replace F : Fr ac 10 [(3, .bool (!(validB on f)))] := F.sub _
 refine X.thenN ?_
 refine Y.ret ?_
 exact Y.ret0 (v := .bool (!(validB on f))) F (Y.rs1 F rfl (by kernel_rfl)) ⟨rfl, G⟩
set_option maxRecDepth 100000 in
set_option maxHeartbeats 400000 in
theorem ixF_none (bm : Nat) (oa ra : Option Addr) (on oc rn rc : Nat) (la : Option Addr) (ln lc : Nat) (fs : List (List Int)) (w : World) (hcb : RCells w [(⟨bm, 0, none⟩, .slice oa on oc), (⟨bm, 1, none⟩, .slice ra rn rc)]) (hl : RowsAt w la ln fs) (hv : ∀ i, i < ln → validB on (fs[i]?.getD []) = true) :
  Calls Try.prog 143 #[.slice la ln lc, .func (.func 139) #[] #[Vp bm]] w fun e w' => e = .returned (Vi (-1)) ∧ Gr w w' := by
 have G := Gr.refl w
 have hC := hcb
 have hln := hl.lt
 refine Y.calls 19 Try.func143 rfl rfl ?_
 intro ac F0
 have F : Fr ac 19 [(0, .slice la ln lc), (1, .func (.func 139) #[] #[Vp bm])] := F0.sub _
 clear F0
 refine Y.seq ?_
 refine Y.lit (by kernel_rfl) ?_
 refine Y.pv F (X.assign rfl (X.kc (Vi 0) rfl)) ?_;clear F ac;intro ac F
 refine Y.nil ?_
 replace F : Fr ac 19 [(0, .slice la ln lc), (1, .func (.func 139) #[] #[Vp bm])] := F.sub _
 refine X.thenN ?_
 refine Y.seq ?_
 refine Y.seq ?_
 refine Y.lit (by kernel_rfl) ?_
 refine Y.pv F (X.move rfl (F.e 0 rfl)) ?_;clear F ac;intro ac F
 refine Y.pv F (X.len1 Try.underlying119 rfl (F.e 6 rfl)) ?_;clear F ac;intro ac F
 refine Y.pv F (X.move rfl (X.kc (Vi 0) rfl)) ?_;clear F ac;intro ac F
 refine Y.nil ?_
 replace F : Fr ac 19 [(0, .slice la ln lc), (1, .func (.func 139) #[] #[Vp bm]), (7, Vi ln), (8, Vi 0)] := F.sub _
 refine X.thenN ?_
 refine Y.block ?_
 have hlB := hl
 have hCB := hC
 have GB := G
 refine Y.loop (fun me_ ac wr => ∃ (i : Nat), me_ = ln - i ∧ Gr w wr ∧ i ≤ ln ∧ Fr ac 19 [(0, .slice la ln lc), (1, .func (.func 139) #[] #[Vp bm]), (7, Vi ln), (8, Vi i)]) _ ⟨0, rfl, Gr.refl _, Nat.zero_le _, F.sub _⟩ ?_
 clear F
 intro me_ ac w3 hI
 obtain ⟨i, rfl, gr, hi0, F⟩ := hI
 replace G := GB.trans gr
 replace hC := hCB.gr gr
 replace hl := hlB.gr gr
 have GB_ := gr
 clear gr
 refine Y.seq ?_
 refine Y.lit (by kernel_rfl) ?_
 refine Y.pv F (X.binop rfl (F.e 8 rfl) (F.e 7 rfl) (X.lssI Try.underlying3 rfl)) ?_;clear F ac;intro ac F
 refine Y.nil ?_
 replace F : Fr ac 19 [(0, .slice la ln lc), (1, .func (.func 139) #[] #[Vp bm]), (7, Vi ln), (8, Vi i), (9, .bool (decide ((i : Int) < ln)))] := F.sub _
 refine X.thenN ?_
 refine Y.seq ?_
 cases h4 : decide ((i : Int) < ln) with
 | false =>
  try rw [h4] at F
  have h4p : ¬ ((i : Int) < ln) := of_decide_eq_false h4
  refine Y.condF (F.e 9 rfl) ?_
  refine Y.exit ?_
  refine X.thenX ?_
  refine X.thenX ?_
  refine X.blockX ?_
  refine X.thenN ?_
  refine Y.seq ?_
  refine Y.lit (by kernel_rfl) ?_
  refine Y.pv F (X.assign rfl (X.kc (Vi (-1)) rfl)) ?_;clear F ac;intro ac F
  refine Y.nil ?_
  replace F : Fr ac 19 [(4, Vi (-1))] := F.sub _
  refine X.thenN ?_
  refine Y.ret ?_
  exact Y.ret0 (v := Vi (-1)) F (Y.rs1 F rfl (by kernel_rfl)) ⟨rfl, G⟩
 | true =>
  try rw [h4] at F
  have h4p : ((i : Int) < ln) := of_decide_eq_true h4
  refine Y.condT (F.e 9 rfl) ?_
  refine Y.skip ?_
  refine X.thenN ?_
  refine Y.seq ?_
  refine Y.block ?_
  refine Y.seq ?_
  refine Y.lit (by kernel_rfl) ?_
  refine Y.pv F (X.move rfl (F.e 8 rfl)) ?_;clear F ac;intro ac F
  refine Y.pv F (X.assign rfl (F.e 10 rfl)) ?_;clear F ac;intro ac F
  refine Y.nil ?_
  replace F : Fr ac 19 [(0, .slice la ln lc), (1, .func (.func 139) #[] #[Vp bm]), (5, Vi i), (7, Vi ln), (8, Vi i)] := F.sub _
  refine X.thenN ?_
  refine Y.seq ?_
  refine Y.lit (by kernel_rfl) ?_
  refine Y.pv F (X.move rfl (F.e 1 rfl)) ?_;clear F ac;intro ac F
  refine Y.pv F (X.move rfl (F.e 0 rfl)) ?_;clear F ac;intro ac F
  refine Y.pv F (X.move rfl (F.e 5 rfl)) ?_;clear F ac;intro ac F
  obtain ⟨pd5, pa5, rn5, pq5, pe5, -, pc5, pi5⟩ := hl.at (j := i) (by omega)
  subst pe5
  replace hC : RCells w3 [(Ad bm 0, .slice oa on oc), (Ad bm 1, .slice ra rn rc), (pd5.add i, .slice pa5 rn5 pq5)] := hC.append ((RCells.cons pc5 (RCells.nil _)))
  clear pc5
  refine Y.pval F (X.w0 rfl) rfl (X.index rfl (F.e 12 rfl) (F.e 13 rfl) (X.idx (k := i) Try.underlying119 (Try.siz118 _) (by omega) (by omega) (by rw [Nat.mul_one]))) ?_;clear F ac;intro ac F
  refine Y.pv F (X.load rfl (F.e 14 rfl) (X.ld1 (Try.agg118 _) (hC.at 2 rfl))) ?_;clear F ac;intro ac F
  refine Y.pcall F (X.w0 rfl) rfl (X.enter (F := 139) rfl (F.e 11 rfl) (X.a1 (F.e 15 rfl)) (enters_of Try.func139 (by kernel_rfl) rfl _)) (cf1_any bm oa ra on oc rn rc pa5 rn5 pq5 (fs[i]?.getD []) w3 ((RCells.cons (hC.at 0 rfl) (RCells.cons (hC.at 1 rfl) (RCells.nil _)))) pi5) ?_
  clear F ac
  rintro e w6 ⟨rfl, g⟩
  refine ⟨_, rfl, ?_⟩
  intro ac F
  replace G := G.trans g
  replace hC := hC.gr g
  replace GB_ := GB_.trans g
  replace hl := hl.gr g
  replace pi5 := pi5.gr g
  clear g
  refine Y.nil ?_
  replace F : Fr ac 19 [(0, .slice (some pd5) ln lc), (1, .func (.func 139) #[] #[Vp bm]), (5, Vi i), (7, Vi ln), (8, Vi i), (16, .bool (!(validB on (fs[i]?.getD []))))] := F.sub _
  refine X.thenN ?_
  have h8 : validB on (fs[i]?.getD []) = true := hv i (by omega)
  try rw [h8] at F
  refine Y.condF (F.e 16 rfl) ?_
  refine Y.skip ?_
  refine X.blockN ?_
  refine X.thenN ?_
  refine Y.lit (by kernel_rfl) ?_
  refine Y.pv F (X.binop rfl (F.e 8 rfl) (X.kc (Vi 1) rfl) (X.addI Try.underlying3 rfl (by omega) (by omega))) ?_;clear F ac;intro ac F
  refine Y.pv F (X.move rfl (F.e 18 rfl)) ?_;clear F ac;intro ac F
  refine Y.nil ?_
  replace F : Fr ac 19 [(0, .slice (some pd5) ln lc), (1, .func (.func 139) #[] #[Vp bm]), (7, Vi ln), (8, Vi ((i : Int) + 1))] := F.sub _
  refine X.thenN ?_
  refine ⟨_, ?_, i + 1, rfl, GB_, by omega, F.sub _⟩
  omega
set_option maxRecDepth 100000 in
set_option maxHeartbeats 400000 in
theorem coF_none (bm : Nat) (oa ra : Option Addr) (on oc rn rc : Nat) (la : Option Addr) (ln lc : Nat) (fs : List (List Int)) (w : World) (hcb : RCells w [(⟨bm, 0, none⟩, .slice oa on oc), (⟨bm, 1, none⟩, .slice ra rn rc)]) (hl : RowsAt w la ln fs) (hv : ∀ i, i < ln → validB on (fs[i]?.getD []) = true) :
  Calls Try.prog 138 #[.slice la ln lc, .func (.func 139) #[] #[Vp bm]] w fun e w' => e = .returned (.bool false) ∧ Gr w w' := by
 have G := Gr.refl w
 have hC := hcb
 have hln := hl.lt
 refine Y.calls 9 Try.func138 rfl rfl ?_
 intro ac F0
 have F : Fr ac 9 [(0, .slice la ln lc), (1, .func (.func 139) #[] #[Vp bm])] := F0.sub _
 clear F0
 refine Y.seq ?_
 refine Y.lit (by kernel_rfl) ?_
 refine Y.pv F (X.assign rfl (X.kc (.bool false) rfl)) ?_;clear F ac;intro ac F
 refine Y.nil ?_
 replace F : Fr ac 9 [(0, .slice la ln lc), (1, .func (.func 139) #[] #[Vp bm])] := F.sub _
 refine X.thenN ?_
 refine Y.seq ?_
 refine Y.lit (by kernel_rfl) ?_
 refine Y.pv F (X.move rfl (F.e 0 rfl)) ?_;clear F ac;intro ac F
 refine Y.pv F (X.move rfl (F.e 1 rfl)) ?_;clear F ac;intro ac F
 refine Y.pcall F (X.w0 rfl) rfl (X.enter (F := 143) rfl (X.kc (.func (.func 143) #[] #[]) rfl) (X.a2 (F.e 5 rfl) (F.e 6 rfl)) (enters_of Try.func143 (by kernel_rfl) rfl _)) (ixF_none bm oa ra on oc rn rc la ln lc fs w ((RCells.cons (hC.at 0 rfl) (RCells.cons (hC.at 1 rfl) (RCells.nil _)))) hl hv) ?_
 clear F ac
 rintro e w3 ⟨rfl, g⟩
 refine ⟨_, rfl, ?_⟩
 intro ac F
 replace G := G.trans g
 replace hC := hC.gr g
 replace hl := hl.gr g
 clear g
 refine Y.pval F (X.w0 rfl) rfl (X.binop rfl (F.e 7 rfl) (X.kc (Vi 0) rfl) (X.geqI Try.underlying3 (show decide ((0 : Int) ≤ (-1)) = false by simp))) ?_;clear F ac;intro ac F
 refine Y.pv F (X.assign rfl (F.e 8 rfl)) ?_;clear F ac;intro ac F
 refine Y.nil ?_
 replace F : Fr ac 9 [(4, .bool false)] := F.sub _
 refine X.thenN ?_
 refine Y.ret ?_
 exact Y.ret0 (v := .bool false) F (Y.rs1 F rfl (by kernel_rfl)) ⟨by simp, G⟩
set_option maxRecDepth 100000 in
set_option maxHeartbeats 400000 in
theorem checkF_ok (oa ra : Option Addr) (on oc rn rc : Nat) (la : Option Addr) (ln lc : Nat) (fs : List (List Int)) (w : World) (hl : RowsAt w la ln fs) (hv : ∀ i, i < ln → validB on (fs[i]?.getD []) = true) :
  Calls Try.prog 132 #[.agg #[.slice oa on oc, .slice ra rn rc], .slice la ln lc] w fun e w' => e = .returned (Vi 0) ∧ Gr w w' := by
 have G := Gr.refl w
 have hln := hl.lt
 refine Y.calls 8 Try.func132 rfl rfl ?_
 intro ac F0
 have F : Fr ac 8 [(0, .agg #[.slice oa on oc, .slice ra rn rc]), (1, .slice la ln lc)] := F0.sub _
 clear F0
 refine Y.seq ?_
 refine Y.lit (by kernel_rfl) ?_
 refine Y.pv F (X.box rfl (F.e 0 rfl) X.bx) ?_;clear F ac;intro ac F
 have g := Gr.alloc w (.cells #[.slice oa on oc, .slice ra rn rc] 121)
 have hb := heap_alloc_new w (.cells #[.slice oa on oc, .slice ra rn rc] 121)
 have hbl : w.heap.size < (w.alloc (.cells #[.slice oa on oc, .slice ra rn rc] 121)).heap.size := by simp
 have hC2 : RCells (w.alloc (.cells #[.slice oa on oc, .slice ra rn rc] 121)) [(Ad w.heap.size 0, .slice oa on oc), (Ad w.heap.size 1, .slice ra rn rc)] := (RCells.nil w).box (b := w.heap.size) #[.slice oa on oc, .slice ra rn rc] 121 rfl
 generalize w.alloc (.cells #[.slice oa on oc, .slice ra rn rc] 121) = w3 at *
 replace G := G.trans g
 have hC := hC2
 clear hC2
 replace hl := hl.gr g
 clear g hb hbl
 refine Y.pv F (X.assign rfl (X.kc (Vi 0) rfl)) ?_;clear F ac;intro ac F
 refine Y.nil ?_
 replace F : Fr ac 8 [(1, .slice la ln lc), (2, Vp w.heap.size)] := F.sub _
 refine X.thenN ?_
 refine Y.seq ?_
 refine Y.seq ?_
 refine Y.lit (by kernel_rfl) ?_
 refine Y.pv F (X.move rfl (F.e 1 rfl)) ?_;clear F ac;intro ac F
 refine Y.pv F (Y.fnc rfl (Y.m1 (F.e 2 rfl))) ?_;clear F ac;intro ac F
 refine Y.pcall F (X.w0 rfl) rfl (X.enter (F := 138) rfl (X.kc (.func (.func 138) #[] #[]) rfl) (X.a2 (F.e 5 rfl) (F.e 6 rfl)) (enters_of Try.func138 (by kernel_rfl) rfl _)) (coF_none w.heap.size oa ra on oc rn rc la ln lc fs w3 (RCells.cons (hC.at 0 rfl) (RCells.cons (hC.at 1 rfl) (RCells.nil _))) hl hv) ?_
 clear F ac
 rintro e w4 ⟨rfl, g⟩
 refine ⟨_, rfl, ?_⟩
 intro ac F
 replace G := G.trans g
 replace hC := hC.gr g
 replace hl := hl.gr g
 clear g
 refine Y.nil ?_
 replace F : Fr ac 8 [(7, .bool false)] := F.sub _
 refine X.thenN ?_
 refine Y.condF (F.e 7 rfl) ?_
 refine Y.skip ?_
 refine X.thenN ?_
 refine Y.seq ?_
 refine Y.lit (by kernel_rfl) ?_
 refine Y.pv F (X.assign rfl (X.kc (Vi 0) rfl)) ?_;clear F ac;intro ac F
 refine Y.nil ?_
 replace F : Fr ac 8 [(4, Vi 0)] := F.sub _
 refine X.thenN ?_
 refine Y.ret ?_
 exact Y.ret0 (v := Vi 0) F (Y.rs1 F rfl (by kernel_rfl)) ⟨by simp, G⟩
end
section
open Go.RowKit

set_option maxRecDepth 100000 in
set_option maxHeartbeats 400000 in
theorem word_low (s : ByteArray) (w : World) (hlow : ∀ i, i < s.size → 97 ≤ ((s[i]?.getD 0).toNat : Int) ∧ ((s[i]?.getD 0).toNat : Int) ≤ 122) (hz8 : s.size ≤ 8) :
  Calls Try.prog 141 #[.string s] w fun e w' => e = .returned (Vi (s.size : Nat)) ∧ w' = w := by
 have G := Gr.refl w
 refine Y.calls 31 Try.func141 rfl rfl ?_
 intro ac F0
 have F : Fr ac 31 [(0, .string s)] := F0.sub _
 clear F0
 refine Y.seq ?_
 refine Y.lit (by kernel_rfl) ?_
 refine Y.pv F (X.assign rfl (X.kc (Vi 0) rfl)) ?_;clear F ac;intro ac F
 refine Y.nil ?_
 replace F : Fr ac 31 [(0, .string s)] := F.sub _
 refine X.thenN ?_
 refine Y.seq ?_
 refine Y.seq ?_
 refine Y.lit (by kernel_rfl) ?_
 refine Y.pv F (X.move rfl (F.e 0 rfl)) ?_;clear F ac;intro ac F
 refine Y.pv F (Y.lenS Try.underlying9 rfl (F.e 5 rfl)) ?_;clear F ac;intro ac F
 refine Y.pv F (X.move rfl (X.kc (Vi 0) rfl)) ?_;clear F ac;intro ac F
 refine Y.nil ?_
 replace F : Fr ac 31 [(0, .string s), (6, Vi (s.size : Nat)), (7, Vi 0)] := F.sub _
 refine X.thenN ?_
 refine Y.block ?_
 have GB := G
 refine Y.loop (fun me_ ac wr => ∃ (i : Nat), me_ = s.size - i ∧ Gr w wr ∧ i ≤ s.size ∧ wr = w ∧ Fr ac 31 [(0, .string s), (6, Vi (s.size : Nat)), (7, Vi i)]) _ ⟨0, rfl, Gr.refl _, Nat.zero_le _, rfl, F.sub _⟩ ?_
 clear F
 intro me_ ac w3 hI
 obtain ⟨i, rfl, gr, hi0, hww, F⟩ := hI
 replace G := GB.trans gr
 have GB_ := gr
 clear gr
 subst hww
 refine Y.seq ?_
 refine Y.lit (by kernel_rfl) ?_
 refine Y.pv F (X.binop rfl (F.e 7 rfl) (F.e 6 rfl) (X.lssI Try.underlying3 rfl)) ?_;clear F ac;intro ac F
 refine Y.nil ?_
 replace F : Fr ac 31 [(0, .string s), (6, Vi (s.size : Nat)), (7, Vi i), (8, .bool (decide ((i : Int) < (s.size : Nat))))] := F.sub _
 refine X.thenN ?_
 refine Y.seq ?_
 cases h4 : decide ((i : Int) < (s.size : Nat)) with
 | false =>
  try rw [h4] at F
  have h4p : ¬ ((i : Int) < (s.size : Nat)) := of_decide_eq_false h4
  refine Y.condF (F.e 8 rfl) ?_
  refine Y.exit ?_
  refine X.thenX ?_
  refine X.thenX ?_
  refine X.blockX ?_
  refine X.thenN ?_
  refine Y.seq ?_
  refine Y.lit (by kernel_rfl) ?_
  refine Y.pv F (X.move rfl (F.e 0 rfl)) ?_;clear F ac;intro ac F
  refine Y.pv F (Y.lenS Try.underlying9 rfl (F.e 29 rfl)) ?_;clear F ac;intro ac F
  refine Y.pv F (X.assign rfl (F.e 30 rfl)) ?_;clear F ac;intro ac F
  refine Y.nil ?_
  replace F : Fr ac 31 [(2, Vi (s.size : Nat))] := F.sub _
  refine X.thenN ?_
  refine Y.ret ?_
  exact Y.ret0 (v := Vi (s.size : Nat)) F (Y.rs1 F rfl (by kernel_rfl)) ⟨rfl, rfl⟩
 | true =>
  try rw [h4] at F
  have h4p : ((i : Int) < (s.size : Nat)) := of_decide_eq_true h4
  have hlo := hlow i (by omega)
  refine Y.condT (F.e 8 rfl) ?_
  refine Y.skip ?_
  refine X.thenN ?_
  refine Y.seq ?_
  refine Y.block ?_
  refine Y.seq ?_
  refine Y.lit (by kernel_rfl) ?_
  refine Y.pv F (X.move rfl (F.e 7 rfl)) ?_;clear F ac;intro ac F
  refine Y.pv F (X.assign rfl (F.e 9 rfl)) ?_;clear F ac;intro ac F
  refine Y.nil ?_
  replace F : Fr ac 31 [(0, .string s), (3, Vi i), (6, Vi (s.size : Nat)), (7, Vi i)] := F.sub _
  refine X.thenN ?_
  refine Y.seq ?_
  refine Y.lit (by kernel_rfl) ?_
  refine Y.pv F (X.move rfl (F.e 0 rfl)) ?_;clear F ac;intro ac F
  refine Y.pv F (X.move rfl (F.e 3 rfl)) ?_;clear F ac;intro ac F
  refine Y.pv F (Y.inS (k := i) rfl (F.e 10 rfl) (F.e 11 rfl) Try.underlying9 (by omega) (by omega)) ?_;clear F ac;intro ac F
  refine Y.pv F (X.assign rfl (F.e 12 rfl)) ?_;clear F ac;intro ac F
  refine Y.nil ?_
  replace F : Fr ac 31 [(0, .string s), (3, Vi i), (4, .int .u8 (((s)[i]?.getD 0).toNat : Nat)), (6, Vi (s.size : Nat)), (7, Vi i)] := F.sub _
  refine X.thenN ?_
  refine Y.seq ?_
  refine Y.lit (by kernel_rfl) ?_
  refine Y.pv F (X.move rfl (F.e 4 rfl)) ?_;clear F ac;intro ac F
  refine Y.pv F (X.binop rfl (F.e 13 rfl) (X.kc (.int .u8 97) rfl) (Y.lssU Try.underlying5 rfl)) ?_;clear F ac;intro ac F
  refine Y.pv F (X.move rfl (F.e 14 rfl)) ?_;clear F ac;intro ac F
  have h6 : decide (((((s)[i]?.getD 0).toNat : Nat) : Int) < 97) = false := decide_eq_false (by omega)
  try rw [h6] at F
  have h6p : ¬ (((((s)[i]?.getD 0).toNat : Nat) : Int) < 97) := of_decide_eq_false h6
  refine Y.pval F (X.w1 rfl (F.yl (j := 2) (d := 15) (b := false) rfl (by kernel_rfl))) rfl (X.move rfl (F.e 4 rfl)) ?_;clear F ac;intro ac F
  refine Y.pval F (X.w1 rfl (F.yl (j := 2) (d := 15) (b := false) rfl (by kernel_rfl))) rfl (X.binop rfl (F.e 16 rfl) (X.kc (.int .u8 122) rfl) (Y.gtrU Try.underlying5 rfl)) ?_;clear F ac;intro ac F
  refine Y.pv F (X.pickF rfl (F.e 15 rfl) (F.e 17 rfl)) ?_;clear F ac;intro ac F
  refine Y.pv F (X.move rfl (F.e 18 rfl)) ?_;clear F ac;intro ac F
  have h8 : decide ((122 : Int) < (((s)[i]?.getD 0).toNat : Nat)) = false := decide_eq_false (by omega)
  try rw [h8] at F
  have h8p : ¬ ((122 : Int) < (((s)[i]?.getD 0).toNat : Nat)) := of_decide_eq_false h8
  refine Y.pskip F (X.w2 rfl (F.yl (j := 6) (d := 19) (b := false) rfl (by kernel_rfl)) rfl) rfl ?_;clear F ac;intro ac F
  refine Y.pskip F (X.w2 rfl (F.yl (j := 6) (d := 19) (b := false) rfl (by kernel_rfl)) rfl) rfl ?_;clear F ac;intro ac F
  refine Y.pskip F (X.w2 rfl (F.yl (j := 6) (d := 19) (b := false) rfl (by kernel_rfl)) rfl) rfl ?_;clear F ac;intro ac F
  refine Y.pskip F (Y.w3 rfl (F.yn (j := 9) (d := 22) rfl (by kernel_rfl))) rfl ?_;clear F ac;intro ac F
  refine Y.pskip F (Y.w3 rfl (F.yn (j := 9) (d := 22) rfl (by kernel_rfl))) rfl ?_;clear F ac;intro ac F
  refine Y.pskip F (X.w2 rfl (F.yl (j := 6) (d := 19) (b := false) rfl (by kernel_rfl)) rfl) rfl ?_;clear F ac;intro ac F
  refine Y.pv F (X.pickF rfl (F.e 19 rfl) (X.kc (.bool false) rfl)) ?_;clear F ac;intro ac F
  refine Y.nil ?_
  replace F : Fr ac 31 [(0, .string s), (3, Vi i), (6, Vi (s.size : Nat)), (7, Vi i), (26, .bool false)] := F.sub _
  refine X.thenN ?_
  refine Y.condF (F.e 26 rfl) ?_
  refine Y.skip ?_
  refine X.blockN ?_
  refine X.thenN ?_
  refine Y.lit (by kernel_rfl) ?_
  refine Y.pv F (X.binop rfl (F.e 7 rfl) (X.kc (Vi 1) rfl) (X.addI Try.underlying3 rfl (by omega) (by omega))) ?_;clear F ac;intro ac F
  refine Y.pv F (X.move rfl (F.e 28 rfl)) ?_;clear F ac;intro ac F
  refine Y.nil ?_
  replace F : Fr ac 31 [(0, .string s), (6, Vi (s.size : Nat)), (7, Vi ((i : Int) + 1))] := F.sub _
  refine X.thenN ?_
  refine ⟨_, ?_, i + 1, rfl, GB_, by omega, rfl, F.sub _⟩
  omega
set_option maxRecDepth 100000 in
set_option maxHeartbeats 400000 in
theorem named_low (s : ByteArray) (w : World) (hlow : ∀ i, i < s.size → 97 ≤ ((s[i]?.getD 0).toNat : Int) ∧ ((s[i]?.getD 0).toNat : Int) ≤ 122) (hz1 : 1 ≤ s.size) (hz8 : s.size ≤ 8) (hyes : (s.toList == (ByteArray.mk #[121, 101, 115]).toList) = false) (hno : (s.toList == (ByteArray.mk #[110, 111]).toList) = false) :
  Calls Try.prog 136 #[.string s] w fun e w' => e = .returned (.bool true) ∧ w' = w := by
 have G := Gr.refl w
 refine Y.calls 34 Try.func136 rfl rfl ?_
 intro ac F0
 have F : Fr ac 34 [(0, .string s)] := F0.sub _
 clear F0
 refine Y.seq ?_
 refine Y.lit (by kernel_rfl) ?_
 refine Y.pv F (X.assign rfl (X.kc (.bool false) rfl)) ?_;clear F ac;intro ac F
 refine Y.nil ?_
 replace F : Fr ac 34 [(0, .string s)] := F.sub _
 refine X.thenN ?_
 refine Y.seq ?_
 refine Y.seq ?_
 refine Y.lit (by kernel_rfl) ?_
 refine Y.pv F (X.move rfl (F.e 0 rfl)) ?_;clear F ac;intro ac F
 refine Y.pv F (Y.lenS Try.underlying9 rfl (F.e 3 rfl)) ?_;clear F ac;intro ac F
 refine Y.pv F (X.binop rfl (F.e 4 rfl) (X.kc (Vi 1) rfl) (X.lssI Try.underlying3 rfl)) ?_;clear F ac;intro ac F
 refine Y.pv F (X.move rfl (F.e 5 rfl)) ?_;clear F ac;intro ac F
 have h4 : decide (((s.size : Nat) : Int) < 1) = false := decide_eq_false (by have := hlow 0 (by omega); omega)
 try rw [h4] at F
 have h4p : ¬ (((s.size : Nat) : Int) < 1) := of_decide_eq_false h4
 refine Y.pval F (X.w1 rfl (F.yl (j := 3) (d := 6) (b := false) rfl (by kernel_rfl))) rfl (X.move rfl (F.e 0 rfl)) ?_;clear F ac;intro ac F
 refine Y.pval F (X.w1 rfl (F.yl (j := 3) (d := 6) (b := false) rfl (by kernel_rfl))) rfl (Y.lenS Try.underlying9 rfl (F.e 7 rfl)) ?_;clear F ac;intro ac F
 refine Y.pval F (X.w1 rfl (F.yl (j := 3) (d := 6) (b := false) rfl (by kernel_rfl))) rfl (X.binop rfl (F.e 8 rfl) (X.kc (Vi 8) rfl) (X.gtrI Try.underlying3 rfl)) ?_;clear F ac;intro ac F
 refine Y.pv F (X.pickF rfl (F.e 6 rfl) (F.e 9 rfl)) ?_;clear F ac;intro ac F
 refine Y.pv F (X.move rfl (F.e 10 rfl)) ?_;clear F ac;intro ac F
 have h6 : decide ((8 : Int) < (s.size : Nat)) = false := decide_eq_false (by have := hlow 0 (by omega); omega)
 try rw [h6] at F
 have h6p : ¬ ((8 : Int) < (s.size : Nat)) := of_decide_eq_false h6
 refine Y.pval F (X.w1 rfl (F.yl (j := 8) (d := 11) (b := false) rfl (by kernel_rfl))) rfl (X.move rfl (F.e 0 rfl)) ?_;clear F ac;intro ac F
 refine Y.pval F (X.w1 rfl (F.yl (j := 8) (d := 11) (b := false) rfl (by kernel_rfl))) rfl (Y.inS (k := 0) rfl (F.e 12 rfl) (X.kc (Vi 0) rfl) Try.underlying9 (by omega) (by omega)) ?_;clear F ac;intro ac F
 refine Y.pval F (X.w1 rfl (F.yl (j := 8) (d := 11) (b := false) rfl (by kernel_rfl))) rfl (X.binop rfl (F.e 13 rfl) (X.kc (.int .u8 97) rfl) (Y.lssU Try.underlying5 rfl)) ?_;clear F ac;intro ac F
 refine Y.pv F (X.pickF rfl (F.e 11 rfl) (F.e 14 rfl)) ?_;clear F ac;intro ac F
 refine Y.pv F (X.move rfl (F.e 15 rfl)) ?_;clear F ac;intro ac F
 have h8 : decide (((((s)[0]?.getD 0).toNat : Nat) : Int) < 97) = false := decide_eq_false (by have := hlow 0 (by omega); omega)
 try rw [h8] at F
 have h8p : ¬ (((((s)[0]?.getD 0).toNat : Nat) : Int) < 97) := of_decide_eq_false h8
 refine Y.pval F (X.w1 rfl (F.yl (j := 13) (d := 16) (b := false) rfl (by kernel_rfl))) rfl (X.move rfl (F.e 0 rfl)) ?_;clear F ac;intro ac F
 refine Y.pval F (X.w1 rfl (F.yl (j := 13) (d := 16) (b := false) rfl (by kernel_rfl))) rfl (Y.inS (k := 0) rfl (F.e 17 rfl) (X.kc (Vi 0) rfl) Try.underlying9 (by omega) (by omega)) ?_;clear F ac;intro ac F
 refine Y.pval F (X.w1 rfl (F.yl (j := 13) (d := 16) (b := false) rfl (by kernel_rfl))) rfl (X.binop rfl (F.e 18 rfl) (X.kc (.int .u8 122) rfl) (Y.gtrU Try.underlying5 rfl)) ?_;clear F ac;intro ac F
 refine Y.pv F (X.pickF rfl (F.e 16 rfl) (F.e 19 rfl)) ?_;clear F ac;intro ac F
 refine Y.nil ?_
 replace F : Fr ac 34 [(0, .string s), (20, .bool (decide ((122 : Int) < (((s)[0]?.getD 0).toNat : Nat))))] := F.sub _
 refine X.thenN ?_
 have h10 : decide ((122 : Int) < (((s)[0]?.getD 0).toNat : Nat)) = false := decide_eq_false (by have := hlow 0 (by omega); omega)
 try rw [h10] at F
 have h10p : ¬ ((122 : Int) < (((s)[0]?.getD 0).toNat : Nat)) := of_decide_eq_false h10
 refine Y.condF (F.e 20 rfl) ?_
 refine Y.skip ?_
 refine X.thenN ?_
 refine Y.seq ?_
 refine Y.lit (by kernel_rfl) ?_
 refine Y.pv F (X.move rfl (F.e 0 rfl)) ?_;clear F ac;intro ac F
 refine Y.pv F (X.binop rfl (F.e 21 rfl) (X.kc (.string (ByteArray.mk #[121, 101, 115])) rfl) (Y.neqS Try.underlying9 rfl)) ?_;clear F ac;intro ac F
 refine Y.pv F (X.move rfl (F.e 22 rfl)) ?_;clear F ac;intro ac F
 have h12 : (!(s.toList == (ByteArray.mk #[121, 101, 115]).toList)) = true := by rw [hyes]; rfl
 try rw [h12] at F
 refine Y.pval F (X.w1 rfl (F.yl (j := 2) (d := 23) (b := true) rfl (by kernel_rfl))) rfl (X.move rfl (F.e 0 rfl)) ?_;clear F ac;intro ac F
 refine Y.pval F (X.w1 rfl (F.yl (j := 2) (d := 23) (b := true) rfl (by kernel_rfl))) rfl (X.binop rfl (F.e 24 rfl) (X.kc (.string (ByteArray.mk #[110, 111])) rfl) (Y.neqS Try.underlying9 rfl)) ?_;clear F ac;intro ac F
 refine Y.pv F (X.pickT rfl (F.e 23 rfl) (F.e 25 rfl)) ?_;clear F ac;intro ac F
 refine Y.pv F (X.move rfl (F.e 26 rfl)) ?_;clear F ac;intro ac F
 have h14 : (!(s.toList == (ByteArray.mk #[110, 111]).toList)) = true := by rw [hno]; rfl
 try rw [h14] at F
 refine Y.pval F (X.w1 rfl (F.yl (j := 6) (d := 27) (b := true) rfl (by kernel_rfl))) rfl (X.move rfl (F.e 0 rfl)) ?_;clear F ac;intro ac F
 refine Y.pcall F (X.w1 rfl (F.yl (j := 6) (d := 27) (b := true) rfl (by kernel_rfl))) rfl (X.enter (F := 141) rfl (X.kc (.func (.func 141) #[] #[]) rfl) (X.a1 (F.e 28 rfl)) (enters_of Try.func141 (by kernel_rfl) rfl _)) (word_low s w hlow hz8) ?_
 clear F ac
 rintro e w' ⟨rfl, hw_⟩
 obtain rfl : w = w' := hw_.symm
 clear hw_
 refine ⟨_, rfl, ?_⟩
 intro ac F
 refine Y.pval F (X.w1 rfl (F.yl (j := 6) (d := 27) (b := true) rfl (by kernel_rfl))) rfl (X.move rfl (F.e 0 rfl)) ?_;clear F ac;intro ac F
 refine Y.pval F (X.w1 rfl (F.yl (j := 6) (d := 27) (b := true) rfl (by kernel_rfl))) rfl (Y.lenS Try.underlying9 rfl (F.e 30 rfl)) ?_;clear F ac;intro ac F
 refine Y.pval F (X.w1 rfl (F.yl (j := 6) (d := 27) (b := true) rfl (by kernel_rfl))) rfl (X.binop rfl (F.e 29 rfl) (F.e 31 rfl) (X.eqlI Try.underlying3 (show (((s.size : Nat) : Int) == (s.size : Nat)) = true by simp))) ?_;clear F ac;intro ac F
 refine Y.pv F (X.pickT rfl (F.e 27 rfl) (F.e 32 rfl)) ?_;clear F ac;intro ac F
 refine Y.pv F (X.assign rfl (F.e 33 rfl)) ?_;clear F ac;intro ac F
 refine Y.nil ?_
 replace F : Fr ac 34 [(2, .bool true)] := F.sub _
 refine X.thenN ?_
 refine Y.ret ?_
 exact Y.ret0 (v := .bool true) F (Y.rs1 F rfl (by kernel_rfl)) ⟨by simp, rfl⟩
end
section
open Go.RowKit

set_option maxRecDepth 100000 in
set_option maxHeartbeats 400000 in
theorem checkM_ok (oa ra : Option Addr) (on oc rn rc : Nat) (sv : Nat → ByteArray) (fs : List (List Int)) (w : World) (hT : SrAt w oa on sv) (hr : RowsAt w ra rn fs) (hnm : ∀ i, i < on → ((∀ k, k < (sv i).size → 97 ≤ (((sv i)[k]?.getD 0).toNat : Int) ∧ (((sv i)[k]?.getD 0).toNat : Int) ≤ 122) ∧ 1 ≤ (sv i).size ∧ (sv i).size ≤ 8 ∧ ((sv i).toList == (ByteArray.mk #[121, 101, 115]).toList) = false ∧ ((sv i).toList == (ByteArray.mk #[110, 111]).toList) = false)) (hdn : ∀ i j, j < i → i < on → ((sv i).toList == (sv j).toList) = false) (hon : on ≤ 40) (hrn : rn ≤ 60) (hoc : on ≤ oc) (hv : ∀ i, i < rn → validB on (fs[i]?.getD []) = true) :
  Calls Try.prog 131 #[.agg #[.slice oa on oc, .slice ra rn rc]] w fun e w' => e = .returned (Vi 0) ∧ Gr w w' := by
 have G := Gr.refl w
 refine Y.calls 39 Try.func131 rfl rfl ?_
 intro ac F0
 have F : Fr ac 39 [(0, .agg #[.slice oa on oc, .slice ra rn rc])] := F0.sub _
 clear F0
 refine Y.seq ?_
 refine Y.lit (by kernel_rfl) ?_
 refine Y.pv F (X.box rfl (F.e 0 rfl) X.bx) ?_;clear F ac;intro ac F
 have g := Gr.alloc w (.cells #[.slice oa on oc, .slice ra rn rc] 121)
 have hb := heap_alloc_new w (.cells #[.slice oa on oc, .slice ra rn rc] 121)
 have hbl : w.heap.size < (w.alloc (.cells #[.slice oa on oc, .slice ra rn rc] 121)).heap.size := by simp
 have hC2 : RCells (w.alloc (.cells #[.slice oa on oc, .slice ra rn rc] 121)) [(Ad w.heap.size 0, .slice oa on oc), (Ad w.heap.size 1, .slice ra rn rc)] := (RCells.nil w).box (b := w.heap.size) #[.slice oa on oc, .slice ra rn rc] 121 rfl
 generalize w.alloc (.cells #[.slice oa on oc, .slice ra rn rc] 121) = w3 at *
 replace G := G.trans g
 have hC := hC2
 clear hC2
 replace hT := hT.gr g
 replace hr := hr.gr g
 clear g hb hbl
 refine Y.pv F (X.assign rfl (X.kc (Vi 0) rfl)) ?_;clear F ac;intro ac F
 refine Y.nil ?_
 replace F : Fr ac 39 [(1, Vp w.heap.size)] := F.sub _
 refine X.thenN ?_
 refine Y.seq ?_
 refine Y.seq ?_
 refine Y.lit (by kernel_rfl) ?_
 refine Y.pv F (X.field rfl (F.e 1 rfl) (X.fld Try.underlying121 rfl (Try.siz117 _) rfl rfl)) ?_;clear F ac;intro ac F
 refine Y.pv F (X.load rfl (F.e 5 rfl) (X.ld1 (Try.agg117 _) (hC.at 0 rfl))) ?_;clear F ac;intro ac F
 refine Y.pv F (X.len1 Try.underlying117 rfl (F.e 6 rfl)) ?_;clear F ac;intro ac F
 refine Y.pv F (X.binop rfl (F.e 7 rfl) (X.kc (Vi 40) rfl) (X.gtrI Try.underlying3 rfl)) ?_;clear F ac;intro ac F
 refine Y.pv F (X.move rfl (F.e 8 rfl)) ?_;clear F ac;intro ac F
 have h5 : decide ((40 : Int) < on) = false := decide_eq_false (by omega)
 try rw [h5] at F
 have h5p : ¬ ((40 : Int) < on) := of_decide_eq_false h5
 refine Y.pval F (X.w1 rfl (F.yl (j := 4) (d := 9) (b := false) rfl (by kernel_rfl))) rfl (X.field rfl (F.e 1 rfl) (X.fld Try.underlying121 rfl (Try.siz119 _) rfl rfl)) ?_;clear F ac;intro ac F
 refine Y.pval F (X.w1 rfl (F.yl (j := 4) (d := 9) (b := false) rfl (by kernel_rfl))) rfl (X.load rfl (F.e 10 rfl) (X.ld1 (Try.agg119 _) (hC.at 1 rfl))) ?_;clear F ac;intro ac F
 refine Y.pval F (X.w1 rfl (F.yl (j := 4) (d := 9) (b := false) rfl (by kernel_rfl))) rfl (X.len1 Try.underlying119 rfl (F.e 11 rfl)) ?_;clear F ac;intro ac F
 refine Y.pval F (X.w1 rfl (F.yl (j := 4) (d := 9) (b := false) rfl (by kernel_rfl))) rfl (X.binop rfl (F.e 12 rfl) (X.kc (Vi 60) rfl) (X.gtrI Try.underlying3 rfl)) ?_;clear F ac;intro ac F
 refine Y.pv F (X.pickF rfl (F.e 9 rfl) (F.e 13 rfl)) ?_;clear F ac;intro ac F
 refine Y.nil ?_
 replace F : Fr ac 39 [(1, Vp w.heap.size), (14, .bool (decide ((60 : Int) < rn)))] := F.sub _
 refine X.thenN ?_
 have h7 : decide ((60 : Int) < rn) = false := decide_eq_false (by omega)
 try rw [h7] at F
 have h7p : ¬ ((60 : Int) < rn) := of_decide_eq_false h7
 refine Y.condF (F.e 14 rfl) ?_
 refine Y.skip ?_
 refine X.thenN ?_
 refine Y.seq ?_
 refine Y.seq ?_
 refine Y.lit (by kernel_rfl) ?_
 refine Y.pv F (X.field rfl (F.e 1 rfl) (X.fld Try.underlying121 rfl (Try.siz117 _) rfl rfl)) ?_;clear F ac;intro ac F
 refine Y.pv F (X.load rfl (F.e 15 rfl) (X.ld1 (Try.agg117 _) (hC.at 0 rfl))) ?_;clear F ac;intro ac F
 refine Y.pv F (X.len1 Try.underlying117 rfl (F.e 16 rfl)) ?_;clear F ac;intro ac F
 refine Y.pv F (X.move rfl (X.kc (Vi 0) rfl)) ?_;clear F ac;intro ac F
 refine Y.nil ?_
 replace F : Fr ac 39 [(1, Vp w.heap.size), (16, .slice oa on oc), (17, Vi on), (18, Vi 0)] := F.sub _
 refine X.thenN ?_
 refine Y.block ?_
 have hTB := hT
 have hrB := hr
 have hCB := hC
 have GB := G
 refine Y.loop (fun me_ ac wr => ∃ (i : Nat), me_ = on - i ∧ Gr w3 wr ∧ i ≤ on ∧ Fr ac 39 [(1, Vp w.heap.size), (16, .slice oa on oc), (17, Vi on), (18, Vi i)]) _ ⟨0, rfl, Gr.refl _, Nat.zero_le _, F.sub _⟩ ?_
 clear F
 intro me_ ac w8 hI
 obtain ⟨i, rfl, gr, hi0, F⟩ := hI
 replace G := GB.trans gr
 replace hC := hCB.gr gr
 replace hT := hTB.gr gr
 replace hr := hrB.gr gr
 have GB_ := gr
 clear gr
 refine Y.seq ?_
 refine Y.lit (by kernel_rfl) ?_
 refine Y.pv F (X.binop rfl (F.e 18 rfl) (F.e 17 rfl) (X.lssI Try.underlying3 rfl)) ?_;clear F ac;intro ac F
 refine Y.nil ?_
 replace F : Fr ac 39 [(1, Vp w.heap.size), (16, .slice oa on oc), (17, Vi on), (18, Vi i), (19, .bool (decide ((i : Int) < on)))] := F.sub _
 refine X.thenN ?_
 refine Y.seq ?_
 cases h9 : decide ((i : Int) < on) with
 | false =>
  try rw [h9] at F
  have h9p : ¬ ((i : Int) < on) := of_decide_eq_false h9
  refine Y.condF (F.e 19 rfl) ?_
  refine Y.exit ?_
  refine X.thenX ?_
  refine X.thenX ?_
  refine X.blockX ?_
  refine X.thenN ?_
  refine Y.seq ?_
  refine Y.lit (by kernel_rfl) ?_
  refine Y.pv F (X.load rfl (F.e 1 rfl) (X.ldN (Try.agg121 _) (Try.siz121 _) (Y.atz (⟨w.heap.size, 0, none⟩) (Y.AtFrom.cons (hC.at 0 rfl) (Y.AtFrom.cons (hC.at 1 rfl) (Y.AtFrom.nil _ _ _)))))) ?_;clear F ac;intro ac F
  refine Y.pv F (X.field rfl (F.e 1 rfl) (X.fld Try.underlying121 rfl (Try.siz119 _) rfl rfl)) ?_;clear F ac;intro ac F
  refine Y.pv F (X.load rfl (F.e 36 rfl) (X.ld1 (Try.agg119 _) (hC.at 1 rfl))) ?_;clear F ac;intro ac F
  refine Y.pcall F (X.w0 rfl) rfl (X.enter (F := 132) rfl (X.kc (.func (.func 132) #[] #[]) rfl) (X.a2 (F.e 35 rfl) (F.e 37 rfl)) (enters_of Try.func132 (by kernel_rfl) rfl _)) (checkF_ok oa ra on oc rn rc ra rn rc fs w8 hr hv) ?_
  clear F ac
  rintro e w10 ⟨rfl, g⟩
  refine ⟨_, rfl, ?_⟩
  intro ac F
  replace G := G.trans g
  replace hC := hC.gr g
  replace GB_ := GB_.trans g
  replace hT := hT.gr g
  replace hr := hr.gr g
  clear g
  refine Y.pv F (X.assign rfl (F.e 38 rfl)) ?_;clear F ac;intro ac F
  refine Y.nil ?_
  replace F : Fr ac 39 [(2, Vi 0)] := F.sub _
  refine X.thenN ?_
  refine Y.ret ?_
  exact Y.ret0 (v := Vi 0) F (Y.rs1 F rfl (by kernel_rfl)) ⟨rfl, G⟩
 | true =>
  try rw [h9] at F
  have h9p : ((i : Int) < on) := of_decide_eq_true h9
  refine Y.condT (F.e 19 rfl) ?_
  refine Y.skip ?_
  refine X.thenN ?_
  refine Y.seq ?_
  refine Y.block ?_
  refine Y.seq ?_
  refine Y.lit (by kernel_rfl) ?_
  refine Y.pv F (X.move rfl (F.e 18 rfl)) ?_;clear F ac;intro ac F
  obtain ⟨pd11, pe11, -, pc11⟩ := hT.2 i (by omega)
  subst pe11
  replace hC : RCells w8 [(Ad w.heap.size 0, .slice (some pd11) on oc), (Ad w.heap.size 1, .slice ra rn rc), (pd11.add i, .string (sv i))] := hC.append ((RCells.cons pc11 (RCells.nil _)))
  clear pc11
  refine Y.pval F (X.w0 rfl) rfl (X.index rfl (F.e 16 rfl) (F.e 18 rfl) (X.idx (k := i) Try.underlying117 (Try.siz9 _) (by omega) (by omega) (by rw [Nat.mul_one]))) ?_;clear F ac;intro ac F
  refine Y.pv F (X.load rfl (F.e 21 rfl) (X.ld1 (Try.agg9 _) (hC.at 2 rfl))) ?_;clear F ac;intro ac F
  refine Y.pv F (X.assign rfl (F.e 20 rfl)) ?_;clear F ac;intro ac F
  refine Y.pv F (X.assign rfl (F.e 22 rfl)) ?_;clear F ac;intro ac F
  refine Y.nil ?_
  replace F : Fr ac 39 [(1, Vp w.heap.size), (3, Vi i), (4, .string (sv i)), (16, .slice (some pd11) on oc), (17, Vi on), (18, Vi i)] := F.sub _
  refine X.thenN ?_
  refine Y.seq ?_
  refine Y.lit (by kernel_rfl) ?_
  refine Y.pv F (X.move rfl (F.e 4 rfl)) ?_;clear F ac;intro ac F
  refine Y.pcall F (X.w0 rfl) rfl (X.enter (F := 136) rfl (X.kc (.func (.func 136) #[] #[]) rfl) (X.a1 (F.e 23 rfl)) (enters_of Try.func136 (by kernel_rfl) rfl _)) (named_low (sv i) w8 (hnm i (by omega)).1 (hnm i (by omega)).2.1 (hnm i (by omega)).2.2.1 (hnm i (by omega)).2.2.2.1 (hnm i (by omega)).2.2.2.2) ?_
  clear F ac
  rintro e w' ⟨rfl, hw_⟩
  obtain rfl : w8 = w' := hw_.symm
  clear hw_
  refine ⟨_, rfl, ?_⟩
  intro ac F
  refine Y.pv F (X.notB rfl (F.e 24 rfl) rfl) ?_;clear F ac;intro ac F
  refine Y.pv F (X.move rfl (F.e 25 rfl)) ?_;clear F ac;intro ac F
  refine Y.pval F (X.w1 rfl (F.yl (j := 3) (d := 26) (b := false) rfl (by kernel_rfl))) rfl (X.field rfl (F.e 1 rfl) (X.fld Try.underlying121 rfl (Try.siz117 _) rfl rfl)) ?_;clear F ac;intro ac F
  refine Y.pval F (X.w1 rfl (F.yl (j := 3) (d := 26) (b := false) rfl (by kernel_rfl))) rfl (X.load rfl (F.e 27 rfl) (X.ld1 (Try.agg117 _) (hC.at 0 rfl))) ?_;clear F ac;intro ac F
  refine Y.pval F (X.w1 rfl (F.yl (j := 3) (d := 26) (b := false) rfl (by kernel_rfl))) rfl (X.move rfl (F.e 3 rfl)) ?_;clear F ac;intro ac F
  refine Y.pval F (X.w1 rfl (F.yl (j := 3) (d := 26) (b := false) rfl (by kernel_rfl))) rfl (Y.slH (k := i) rfl (F.e 28 rfl) (F.e 29 rfl) Try.underlying117 (Try.siz9 _) (by omega) (by omega)) ?_;clear F ac;intro ac F
  refine Y.pval F (X.w1 rfl (F.yl (j := 3) (d := 26) (b := false) rfl (by kernel_rfl))) rfl (X.move rfl (F.e 4 rfl)) ?_;clear F ac;intro ac F
  refine Y.pcall F (X.w1 rfl (F.yl (j := 3) (d := 26) (b := false) rfl (by kernel_rfl))) rfl (X.enter (F := 137) rfl (X.kc (.func (.func 137) #[] #[]) rfl) (X.a2 (F.e 30 rfl) (F.e 31 rfl)) (enters_of Try.func137 (by kernel_rfl) rfl _)) (conS_none (some pd11) i oc sv (sv i) w8 (SrAt.take hT (by omega)) (fun j hj => hdn i j hj (by omega))) ?_
  clear F ac
  rintro e w' ⟨rfl, hw_⟩
  obtain rfl : w8 = w' := hw_.symm
  clear hw_
  refine ⟨_, rfl, ?_⟩
  intro ac F
  refine Y.pv F (X.pickF rfl (F.e 26 rfl) (F.e 32 rfl)) ?_;clear F ac;intro ac F
  refine Y.nil ?_
  replace F : Fr ac 39 [(1, Vp w.heap.size), (16, .slice (some pd11) on oc), (17, Vi on), (18, Vi i), (33, .bool false)] := F.sub _
  refine X.thenN ?_
  refine Y.condF (F.e 33 rfl) ?_
  refine Y.skip ?_
  refine X.blockN ?_
  refine X.thenN ?_
  refine Y.lit (by kernel_rfl) ?_
  refine Y.pv F (X.binop rfl (F.e 18 rfl) (X.kc (Vi 1) rfl) (X.addI Try.underlying3 rfl (by omega) (by omega))) ?_;clear F ac;intro ac F
  refine Y.pv F (X.move rfl (F.e 34 rfl)) ?_;clear F ac;intro ac F
  refine Y.nil ?_
  replace F : Fr ac 39 [(1, Vp w.heap.size), (16, .slice (some pd11) on oc), (17, Vi on), (18, Vi ((i : Int) + 1))] := F.sub _
  refine X.thenN ?_
  refine ⟨_, ?_, i + 1, rfl, GB_, by omega, F.sub _⟩
  omega
set_option maxRecDepth 100000 in
set_option maxHeartbeats 400000 in
theorem check_ok (oa ra : Option Addr) (on oc rn rc : Nat) (sv : Nat → ByteArray) (fs : List (List Int)) (w : World) (hT : SrAt w oa on sv) (hr : RowsAt w ra rn fs) (hnm : ∀ i, i < on → ((∀ k, k < (sv i).size → 97 ≤ (((sv i)[k]?.getD 0).toNat : Int) ∧ (((sv i)[k]?.getD 0).toNat : Int) ≤ 122) ∧ 1 ≤ (sv i).size ∧ (sv i).size ≤ 8 ∧ ((sv i).toList == (ByteArray.mk #[121, 101, 115]).toList) = false ∧ ((sv i).toList == (ByteArray.mk #[110, 111]).toList) = false)) (hdn : ∀ i j, j < i → i < on → ((sv i).toList == (sv j).toList) = false) (hon : on ≤ 40) (hrn : rn ≤ 60) (hoc : on ≤ oc) (hv : ∀ i, i < rn → validB on (fs[i]?.getD []) = true) (la : Option Addr) (ln lc : Nat) (gs : List (List Int)) (hl : RowsAt w la ln gs) (hvg : ∀ i, i < ln → validB on (gs[i]?.getD []) = true) :
  Calls Try.prog 119 #[.agg #[.slice oa on oc, .slice ra rn rc], .slice la ln lc] w fun e w' => e = .returned (Vi 0) ∧ Gr w w' := by
 have G := Gr.refl w
 refine Y.calls 14 Try.func119 rfl rfl ?_
 intro ac F0
 have F : Fr ac 14 [(0, .agg #[.slice oa on oc, .slice ra rn rc]), (1, .slice la ln lc)] := F0.sub _
 clear F0
 refine Y.seq ?_
 refine Y.lit (by kernel_rfl) ?_
 refine Y.pv F (X.box rfl (F.e 0 rfl) X.bx) ?_;clear F ac;intro ac F
 have g := Gr.alloc w (.cells #[.slice oa on oc, .slice ra rn rc] 121)
 have hb := heap_alloc_new w (.cells #[.slice oa on oc, .slice ra rn rc] 121)
 have hbl : w.heap.size < (w.alloc (.cells #[.slice oa on oc, .slice ra rn rc] 121)).heap.size := by simp
 have hC2 : RCells (w.alloc (.cells #[.slice oa on oc, .slice ra rn rc] 121)) [(Ad w.heap.size 0, .slice oa on oc), (Ad w.heap.size 1, .slice ra rn rc)] := (RCells.nil w).box (b := w.heap.size) #[.slice oa on oc, .slice ra rn rc] 121 rfl
 generalize w.alloc (.cells #[.slice oa on oc, .slice ra rn rc] 121) = w3 at *
 replace G := G.trans g
 have hC := hC2
 clear hC2
 replace hT := hT.gr g
 replace hr := hr.gr g
 replace hl := hl.gr g
 clear g hb hbl
 refine Y.pv F (X.assign rfl (X.kc (Vi 0) rfl)) ?_;clear F ac;intro ac F
 refine Y.nil ?_
 replace F : Fr ac 14 [(1, .slice la ln lc), (2, Vp w.heap.size)] := F.sub _
 refine X.thenN ?_
 refine Y.seq ?_
 refine Y.seq ?_
 refine Y.lit (by kernel_rfl) ?_
 refine Y.pv F (X.load rfl (F.e 2 rfl) (X.ldN (Try.agg121 _) (Try.siz121 _) (Y.atz (⟨w.heap.size, 0, none⟩) (Y.AtFrom.cons (hC.at 0 rfl) (Y.AtFrom.cons (hC.at 1 rfl) (Y.AtFrom.nil _ _ _)))))) ?_;clear F ac;intro ac F
 refine Y.pcall F (X.w0 rfl) rfl (X.enter (F := 131) rfl (X.kc (.func (.func 131) #[] #[]) rfl) (X.a1 (F.e 6 rfl)) (enters_of Try.func131 (by kernel_rfl) rfl _)) (checkM_ok oa ra on oc rn rc sv fs w3 hT hr hnm hdn hon hrn hoc hv) ?_
 clear F ac
 rintro e w4 ⟨rfl, g⟩
 refine ⟨_, rfl, ?_⟩
 intro ac F
 replace G := G.trans g
 replace hC := hC.gr g
 replace hT := hT.gr g
 replace hr := hr.gr g
 replace hl := hl.gr g
 clear g
 refine Y.pv F (X.assign rfl (F.e 7 rfl)) ?_;clear F ac;intro ac F
 refine Y.nil ?_
 replace F : Fr ac 14 [(1, .slice la ln lc), (2, Vp w.heap.size), (5, Vi 0)] := F.sub _
 refine X.thenN ?_
 refine Y.seq ?_
 refine Y.lit (by kernel_rfl) ?_
 refine Y.pv F (X.move rfl (F.e 5 rfl)) ?_;clear F ac;intro ac F
 refine Y.pval F (X.w0 rfl) rfl (X.binop rfl (F.e 8 rfl) (X.kc (Vi 0) rfl) (X.neqI Try.underlying31 (show ((0 : Int) != 0) = false by simp))) ?_;clear F ac;intro ac F
 refine Y.nil ?_
 replace F : Fr ac 14 [(1, .slice la ln lc), (2, Vp w.heap.size), (5, Vi 0), (9, .bool false)] := F.sub _
 refine X.thenN ?_
 refine Y.condF (F.e 9 rfl) ?_
 refine Y.skip ?_
 refine X.thenN ?_
 refine Y.seq ?_
 refine Y.lit (by kernel_rfl) ?_
 refine Y.pv F (X.load rfl (F.e 2 rfl) (X.ldN (Try.agg121 _) (Try.siz121 _) (Y.atz (⟨w.heap.size, 0, none⟩) (Y.AtFrom.cons (hC.at 0 rfl) (Y.AtFrom.cons (hC.at 1 rfl) (Y.AtFrom.nil _ _ _)))))) ?_;clear F ac;intro ac F
 refine Y.pv F (X.move rfl (F.e 1 rfl)) ?_;clear F ac;intro ac F
 refine Y.pcall F (X.w0 rfl) rfl (X.enter (F := 132) rfl (X.kc (.func (.func 132) #[] #[]) rfl) (X.a2 (F.e 11 rfl) (F.e 12 rfl)) (enters_of Try.func132 (by kernel_rfl) rfl _)) (checkF_ok oa ra on oc rn rc la ln lc gs w4 hl hvg) ?_
 clear F ac
 rintro e w5 ⟨rfl, g⟩
 refine ⟨_, rfl, ?_⟩
 intro ac F
 replace G := G.trans g
 replace hC := hC.gr g
 replace hT := hT.gr g
 replace hr := hr.gr g
 replace hl := hl.gr g
 clear g
 refine Y.pv F (X.assign rfl (F.e 13 rfl)) ?_;clear F ac;intro ac F
 refine Y.nil ?_
 replace F : Fr ac 14 [(4, Vi 0)] := F.sub _
 refine X.thenN ?_
 refine Y.ret ?_
 exact Y.ret0 (v := Vi 0) F (Y.rs1 F rfl (by kernel_rfl)) ⟨rfl, G⟩
end
section
open Go.RowKit

theorem fo_up {w wa wb : World} {T : Nat → Prop} (G : Gr w wa) (hT : ∀ b, T b → w.heap.size ≤ b) (hon : Only T wa wb) : Gr w wb ∧ ∀ b, Gw T wa wb b → w.heap.size ≤ b :=
  ⟨((G.only T).trans hon).gr (fun i hi e => by have := hT i e; omega), fun b e => e.elim (hT b) (fun e => by have := G.size; omega)⟩
theorem val_one {o : Int} {f : List Int} (h : validB o f = true) : ∀ i, i < 1 → validB o ([f][i]?.getD []) = true := by
  intro i hi
  have : i = 0 := by omega
  subst this; exact h
theorem rows_one {w : World} {b : Nat} {a : Option Addr} {n c : Nat} {f : List Int} (h : w.cell? ⟨b, 0, none⟩ = some (.slice a n c)) (hf : Ints w a n f) : RowsAt w (some ⟨b, 0, none⟩) 1 [f] := by
  refine ⟨rfl, by decide, fun j hj => ⟨_, a, n, c, rfl, lt_cell h, ?_, ?_⟩⟩
  · have : j = 0 := by omega
    subst this; exact h
  · have : j = 0 := by omega
    subst this; exact hf
set_option maxRecDepth 100000 in
set_option maxHeartbeats 400000 in
theorem fbegin_any (m : Nat) (oa : Option Addr) (on oc lb lc : Nat) (f0a : Option Addr) (f0n f0c : Nat) (f0 : List Int) (sv : Nat → ByteArray) (F1 : Fo) (r : Int) (la : Option Addr) (ln llc : Nat) (gs : List (List Int)) (w : World) (hT : SrAt w oa on sv) (hc0 : w.cell? ⟨lb, 0, none⟩ = some (.slice f0a f0n f0c)) (hf0 : Ints w f0a f0n f0) (hfb : ∀ ad, f0a = some ad → ad.block < w.heap.size) (hfn : f0n ≤ 1000) (hnm : ∀ i, i < on → ((∀ k, k < (sv i).size → 97 ≤ (((sv i)[k]?.getD 0).toNat : Int) ∧ (((sv i)[k]?.getD 0).toNat : Int) ≤ 122) ∧ 1 ≤ (sv i).size ∧ (sv i).size ≤ 8 ∧ ((sv i).toList == (ByteArray.mk #[121, 101, 115]).toList) = false ∧ ((sv i).toList == (ByteArray.mk #[110, 111]).toList) = false)) (hdn : ∀ i j, j < i → i < on → ((sv i).toList == (sv j).toList) = false) (hon : on ≤ 40) (hoc : on ≤ oc) (hv0 : validB on f0 = true) (hl : RowsAt w la ln gs) (hvg : ∀ i, i < ln → validB on (gs[i]?.getD []) = true) (hb : Fo.all m (Fo.new on) 1 [f0] = some (F1, r)) :
  Calls Try.prog 105 #[.agg #[.slice oa on oc, .slice (some ⟨lb, 0, none⟩) 1 lc], .slice la ln llc] w fun e w' => ∃ t T, e = .returned (.tuple #[Vp t, Vi r, Vi 0]) ∧ FoAt w' T t F1 ∧ (∀ b, T b → w.heap.size ≤ b) ∧ Gr w w' := by
 have G := Gr.refl w
 have hlb := lt_cell hc0
 refine Y.calls 23 Try.func105 rfl rfl ?_
 intro ac F0
 have F : Fr ac 23 [(0, .agg #[.slice oa on oc, .slice (some ⟨lb, 0, none⟩) 1 lc]), (1, .slice la ln llc)] := F0.sub _
 clear F0
 refine Y.seq ?_
 refine Y.lit (by kernel_rfl) ?_
 refine Y.pv F (X.box rfl (F.e 0 rfl) X.bx) ?_;clear F ac;intro ac F
 have g := Gr.alloc w (.cells #[.slice oa on oc, .slice (some ⟨lb, 0, none⟩) 1 lc] 121)
 have hb := heap_alloc_new w (.cells #[.slice oa on oc, .slice (some ⟨lb, 0, none⟩) 1 lc] 121)
 have hbl : w.heap.size < (w.alloc (.cells #[.slice oa on oc, .slice (some ⟨lb, 0, none⟩) 1 lc] 121)).heap.size := by simp
 have hC2 : RCells (w.alloc (.cells #[.slice oa on oc, .slice (some ⟨lb, 0, none⟩) 1 lc] 121)) [(Ad w.heap.size 0, .slice oa on oc), (Ad w.heap.size 1, .slice (some ⟨lb, 0, none⟩) 1 lc)] := (RCells.nil w).box (b := w.heap.size) #[.slice oa on oc, .slice (some ⟨lb, 0, none⟩) 1 lc] 121 rfl
 generalize w.alloc (.cells #[.slice oa on oc, .slice (some ⟨lb, 0, none⟩) 1 lc] 121) = w3 at *
 replace G := G.trans g
 have hC := hC2
 clear hC2
 clear g hb hbl
 refine Y.pv F (X.assign rfl (X.kc (.pointer none) rfl)) ?_;clear F ac;intro ac F
 refine Y.pv F (X.assign rfl (X.kc (Vi 0) rfl)) ?_;clear F ac;intro ac F
 refine Y.pv F (X.assign rfl (X.kc (Vi 0) rfl)) ?_;clear F ac;intro ac F
 refine Y.nil ?_
 replace F : Fr ac 23 [(1, .slice la ln llc), (2, Vp w.heap.size)] := F.sub _
 refine X.thenN ?_
 refine Y.seq ?_
 refine Y.seq ?_
 refine Y.lit (by kernel_rfl) ?_
 refine Y.pv F (X.load rfl (F.e 2 rfl) (X.ldN (Try.agg121 _) (Try.siz121 _) (Y.atz (⟨w.heap.size, 0, none⟩) (Y.AtFrom.cons (hC.at 0 rfl) (Y.AtFrom.cons (hC.at 1 rfl) (Y.AtFrom.nil _ _ _)))))) ?_;clear F ac;intro ac F
 refine Y.pv F (X.move rfl (F.e 1 rfl)) ?_;clear F ac;intro ac F
 refine Y.pcall F (X.w0 rfl) rfl (X.enter (F := 119) rfl (X.kc (.func (.func 119) #[] #[]) rfl) (X.a2 (F.e 8 rfl) (F.e 9 rfl)) (enters_of Try.func119 (by kernel_rfl) rfl _)) (check_ok oa (some ⟨lb, 0, none⟩) on oc 1 lc sv [f0] w3 (hT.gr G) (rows_one ((G.cell (lt_cell hc0)).trans hc0) (hf0.gr G)) hnm hdn hon (by decide) hoc (val_one hv0) la ln llc gs (hl.gr G) hvg) ?_
 clear F ac
 rintro e w4 ⟨rfl, g⟩
 refine ⟨_, rfl, ?_⟩
 intro ac F
 replace G := G.trans g
 replace hC := hC.gr g
 clear g
 refine Y.pv F (X.assign rfl (F.e 10 rfl)) ?_;clear F ac;intro ac F
 refine Y.nil ?_
 replace F : Fr ac 23 [(2, Vp w.heap.size), (7, Vi 0)] := F.sub _
 refine X.thenN ?_
 refine Y.seq ?_
 refine Y.lit (by kernel_rfl) ?_
 refine Y.pv F (X.move rfl (F.e 7 rfl)) ?_;clear F ac;intro ac F
 refine Y.pval F (X.w0 rfl) rfl (X.binop rfl (F.e 11 rfl) (X.kc (Vi 0) rfl) (X.neqI Try.underlying31 (show ((0 : Int) != 0) = false by simp))) ?_;clear F ac;intro ac F
 refine Y.nil ?_
 replace F : Fr ac 23 [(2, Vp w.heap.size), (7, Vi 0), (12, .bool false)] := F.sub _
 refine X.thenN ?_
 refine Y.condF (F.e 12 rfl) ?_
 refine Y.skip ?_
 refine X.thenN ?_
 refine Y.seq ?_
 refine Y.lit (by kernel_rfl) ?_
 refine Y.pv F (X.field rfl (F.e 2 rfl) (X.fld Try.underlying121 rfl (Try.siz117 _) rfl rfl)) ?_;clear F ac;intro ac F
 refine Y.pv F (X.load rfl (F.e 14 rfl) (X.ld1 (Try.agg117 _) (hC.at 0 rfl))) ?_;clear F ac;intro ac F
 refine Y.pv F (X.len1 Try.underlying117 rfl (F.e 15 rfl)) ?_;clear F ac;intro ac F
 refine Y.pcall F (X.w0 rfl) rfl (X.enter (F := 120) rfl (X.kc (.func (.func 120) #[] #[]) rfl) (X.a1 (F.e 16 rfl)) (enters_of Try.func120 (by kernel_rfl) rfl _)) (newForest_any on w4) ?_
 clear F ac
 rintro e w5 ⟨t, rfl, hF9, g⟩
 refine ⟨_, rfl, ?_⟩
 intro ac F
 have hT9 : ∀ b, (w4.heap.size ≤ b ∧ b < w5.heap.size) → w.heap.size ≤ b := fun b e => by have := G.size; omega
 replace G := G.trans g
 replace hC := hC.gr g
 clear g
 refine Y.pv F (X.assign rfl (F.e 17 rfl)) ?_;clear F ac;intro ac F
 refine Y.nil ?_
 replace F : Fr ac 23 [(2, Vp w.heap.size), (4, Vp t)] := F.sub _
 refine X.thenN ?_
 refine Y.seq ?_
 refine Y.lit (by kernel_rfl) ?_
 refine Y.pv F (X.move rfl (F.e 4 rfl)) ?_;clear F ac;intro ac F
 refine Y.pv F (X.move rfl (F.e 4 rfl)) ?_;clear F ac;intro ac F
 refine Y.pv F (X.field rfl (F.e 2 rfl) (X.fld Try.underlying121 rfl (Try.siz119 _) rfl rfl)) ?_;clear F ac;intro ac F
 refine Y.pv F (X.load rfl (F.e 20 rfl) (X.ld1 (Try.agg119 _) (hC.at 1 rfl))) ?_;clear F ac;intro ac F
 refine Y.pcall F (X.w0 rfl) rfl (X.enter (F := 121) rfl (X.kc (.func (.func 121) #[] #[]) rfl) (X.a2 (F.e 19 rfl) (F.e 21 rfl)) (enters_of Try.func121 (by kernel_rfl) rfl _)) (all_any m t _ (Fo.new on) F1 r lb lc f0a f0n f0c f0 w5 (hF9.gr (Gr.refl _)) ((G.cell (lt_cell hc0)).trans hc0) (fun e => by have := hT9 _ e; have := lt_cell hc0; simp only at this; omega) (hf0.gr G) (fun ad e h => by have := hT9 _ h; have := hfb ad e; omega) (fun ad e => Nat.lt_of_lt_of_le (hfb ad e) G.size) hfn hb) ?_
 clear F ac hC
 rintro e w6 ⟨rfl, hF1, hon1⟩
 refine ⟨_, rfl, ?_⟩
 intro ac F
 obtain ⟨G1, hT1⟩ := fo_up G hT9 hon1
 refine Y.pv F (X.assign rfl (F.e 18 rfl)) ?_;clear F ac;intro ac F
 refine Y.pv F (X.assign rfl (F.e 22 rfl)) ?_;clear F ac;intro ac F
 refine Y.pv F (X.assign rfl (X.kc (Vi 0) rfl)) ?_;clear F ac;intro ac F
 refine Y.nil ?_
 replace F : Fr ac 23 [(4, Vp t), (5, Vi r), (6, Vi 0)] := F.sub _
 refine X.thenN ?_
 refine Y.ret ?_
 exact Y.ret0 (v := .tuple #[Vp t, Vi r, Vi 0]) F (Y.rs3 F rfl (by kernel_rfl) (by kernel_rfl) (by kernel_rfl)) ⟨_, _, rfl, hF1, hT1, G1⟩
end
section
open Go.RowKit
set_option linter.unusedVariables false
def intT : KeyT Try.prog 3 Int := ⟨fun x => .int .i64 x, fun x => sm x = true, Go.Maps.int_keyed Try.underlying3, fun x h => ⟨_, Go.Maps.keyOf_int_mk Try.underlying3 (wf_small (sm_ok h))⟩, fun x y h => by injection h⟩
structure CSteps (m : Nat) (F : Fo) (K K' : List (Int × Int)) (n o r : Int) (nn : Nat) (tp : Int) : Prop where
  en : n = nn
  ln : nn < F.kn.length
  et : tp = cv (knL F.kn) nn 0
  sn : sm n = true
  st : sm tp = true
  so : sm o = true
  lo : o ≤ tp
  hi : tp ≤ o + 20
theorem count_zero {m : Nat} {F : Fo} {K K' : List (Int × Int)} {o r : Int} (hb : Fo.count F (m + 1) K 0 o = some (K', r)) : K' = K ∧ r = 0 := by
  unfold Fo.count at hb
  rw [if_pos rfl] at hb
  injection hb with hb
  injection hb with h1 h2
  exact ⟨h1.symm, h2.symm⟩
/-- the ways of a node that is not known -/
def Ways (m : Nat) (F : Fo) (K K1 : List (Int × Int)) (n tp v : Int) (nn : Nat) : Prop :=
  (n = 1 ∧ K1 = K ∧ v = 1) ∨ (n ≠ 1 ∧ ∃ K2 a b, Fo.count F m K (cv (knL F.kn) nn 1) (tp + 1) = some (K2, a) ∧ Fo.count F m K2 (cv (knL F.kn) nn 2) (tp + 1) = some (K1, b) ∧ 0 ≤ a ∧ 0 ≤ b ∧ a + b ≤ 1000000 ∧ v = a + b)
theorem count_rest {m : Nat} {F : Fo} {K K' : List (Int × Int)} {n o r : Int} (h0 : n ≠ 0) (hb : Fo.count F (m + 1) K n o = some (K', r)) :
    ∃ nn tp, CSteps m F K K' n o r nn tp ∧ ((∃ v, getM K n = some v ∧ 0 ≤ v ∧ v ≤ 1000000 ∧ K' = K ∧ r = v * 2 ^ (tp - o).toNat) ∨
      (getM K n = none ∧ ∃ K1 v, Ways m F K K1 n tp v nn ∧ getM K1 n = none ∧ K' = K1 ++ [(n, v)] ∧ r = v * 2 ^ (tp - o).toNat)) := by
  unfold Fo.count at hb
  rw [if_neg h0] at hb
  obtain ⟨k, hk, hb⟩ := Option.bind_eq_some_iff.1 hb
  split at hb
  · rename_i hs
    simp only [Bool.and_eq_true, decide_eq_true_eq] at hs
    obtain ⟨s1, s2, s3, s4, s5⟩ := hs
    have hk0 := hk
    obtain ⟨nn, en, ln, et⟩ := at_some hk
    have e12 : k.2.1 = cv (knL F.kn) nn 1 ∧ k.2.2 = cv (knL F.kn) nn 2 := by
      unfold Fo.at at hk0
      rw [en, if_pos (by omega), Int.toNat_natCast] at hk0
      have e : (knL F.kn)[nn]? = some [k.1, k.2.1, k.2.2] := by rw [knL, List.getElem?_map, hk0]; rfl
      simp [cv, e]
    refine ⟨nn, k.1, ⟨en, ln, et, s1, s2, s3, s4, s5⟩, ?_⟩
    split at hb
    · rename_i v hv
      split at hb
      · rename_i hr
        injection hb with hb
        injection hb with h1 h2
        exact .inl ⟨v, hv, hr.1, hr.2, h1.symm, h2.symm⟩
      · cases hb
    · rename_i hv
      refine .inr ⟨hv, ?_⟩
      obtain ⟨⟨K1, v⟩, h1, hb⟩ := Option.bind_eq_some_iff.1 hb
      split at hb
      · rename_i hf
        injection hb with hb
        injection hb with e1 e2
        refine ⟨K1, v, ?_, hf, e1.symm, e2.symm⟩
        split at h1
        · rename_i h9
          injection h1 with h1
          injection h1 with h2 h3
          exact .inl ⟨h9, h2.symm, h3.symm⟩
        · rename_i h9
          obtain ⟨⟨K2, a⟩, h2, h1⟩ := Option.bind_eq_some_iff.1 h1
          obtain ⟨⟨K3, b⟩, h3, h1⟩ := Option.bind_eq_some_iff.1 h1
          split at h1
          · rename_i hab
            injection h1 with h1
            injection h1 with h4 h5
            simp only at h4 h5 hab h3
            subst h4
            rw [e12.1] at h2
            rw [e12.2] at h3
            exact .inr ⟨h9, K2, a, b, h2, h3, hab.1, hab.2.1, hab.2.2, h5.symm⟩
          · cases h1
      · cases hb
  · cases hb
/-- a region with two calls, a and b, that turn block k -/
structure RC2 (k : Nat) (w : World) (a b : Nat) (Q0 Q1 Q2 : World → Prop) (done : Nat → Bool) (u : Nat → Value) (W : World) : Prop where
  on : Only (fun x => x = k) w W
  q0 : done a = false → done b = false → Q0 W
  q1 : done a = true → done b = false → Q1 W
  q2 : done b = true → Q2 W
section
variable {w W W' : World} {k a b i : Nat} {Q0 Q1 Q2 : World → Prop} {done : Nat → Bool} {u : Nat → Value} {v : Value}
theorem RC2.start {u : Nat → Value} (g : Only (fun x => x = k) w W) (h : Q0 W) : RC2 k w a b Q0 Q1 Q2 (fun _ => false) u W := ⟨g, fun _ _ => h, fun h => by simp at h, fun h => by simp at h⟩
theorem RC2.quiet (h : RC2 k w a b Q0 Q1 Q2 done u W) (hi : (i == a || i == b) = false) : RC2 k w a b Q0 Q1 Q2 (upd done i) (fun j => if j = i then v else u j) W := by
  simp only [Bool.or_eq_false_iff, beq_eq_false_iff_ne] at hi
  have e1 := upd_ne (done := done) (Ne.symm hi.1)
  have e2 := upd_ne (done := done) (Ne.symm hi.2)
  exact ⟨h.on, fun k1 k2 => h.q0 (e1 ▸ k1) (e2 ▸ k2), fun k1 k2 => h.q1 (e1 ▸ k1) (e2 ▸ k2), fun k => h.q2 (e2 ▸ k)⟩
theorem RC2.sa (h : RC2 k w a b Q0 Q1 Q2 done u W) (hab : (a == b) = false) (hb : done b = false) (g : Only (fun x => x = k) W W') (hq : Q1 W') : RC2 k w a b Q0 Q1 Q2 (upd done a) (fun j => if j = a then v else u j) W' := by
  have e2 := upd_ne (done := done) (i := a) (j := b) (by intro e; simp [e] at hab)
  exact ⟨h.on.trans g, fun k => (by rw [upd_self] at k; cases k), fun _ _ => hq, fun k => (by rw [e2, hb] at k; cases k)⟩
theorem RC2.sb (h : RC2 k w a b Q0 Q1 Q2 done u W) (g : Only (fun x => x = k) W W') (hq : Q2 W') : RC2 k w a b Q0 Q1 Q2 (upd done b) (fun j => if j = b then v else u j) W' :=
  ⟨h.on.trans g, fun _ k => (by rw [upd_self] at k; cases k), fun _ k => (by rw [upd_self] at k; cases k), fun _ => hq⟩
end
end
section
open Go.RowKit

theorem shl_small {v d : Int} (h0 : 0 ≤ v) (h1 : v ≤ 1000000) (d0 : 0 ≤ d) (d1 : d ≤ 20) : shlV v d = v * 2 ^ d.toNat := by
  have e : min d.toNat 64 = d.toNat := by omega
  unfold shlV
  rw [e]
  have h2 : (2 : Int) ^ d.toNat ≤ 2 ^ 20 := by
    have := Nat.pow_le_pow_right (show 0 < 2 by omega) (show d.toNat ≤ 20 by omega)
    exact_mod_cast this
  have h3 : (0 : Int) ≤ 2 ^ d.toNat := by exact_mod_cast Nat.zero_le _
  have h4 : v * 2 ^ d.toNat ≤ 1000000 * 2 ^ 20 := Int.mul_le_mul h1 h2 h3 (by omega)
  have h5 : 0 ≤ v * 2 ^ d.toNat := Int.mul_nonneg h0 h3
  generalize v * 2 ^ d.toNat = z at *
  simp [IntKind.wrap, IntKind.signed, IntKind.bits]
  omega
theorem cnt_k {K K' : List (Int × Int)} {n d r gv : Int} {A : Prop} (h : (∃ v, getM K n = some v ∧ 0 ≤ v ∧ v ≤ 1000000 ∧ K' = K ∧ r = v * 2 ^ d.toNat) ∨ (getM K n = none ∧ A)) (hb : (getM K n).isSome = true) (hv : gv = (getM K n).getD 0) : K' = K ∧ r = gv * 2 ^ d.toNat ∧ 0 ≤ gv ∧ gv ≤ 1000000 := by
  rcases h with ⟨v, h1, h2, h3, h4, h5⟩ | ⟨h1, -⟩
  · rw [h1] at hv; have hv : gv = v := hv; subst hv; exact ⟨h4, h5, h2, h3⟩
  · rw [h1] at hb; cases hb
theorem cnt_n {K : List (Int × Int)} {n : Int} {B : Int → Prop} {A : Prop} (h : (∃ v, getM K n = some v ∧ B v) ∨ (getM K n = none ∧ A)) (hb : (getM K n).isSome = false) : A := by
  rcases h with ⟨v, h1, -⟩ | h1
  · rw [h1] at hb; cases hb
  · exact h1.2
set_option maxRecDepth 100000 in
set_option maxHeartbeats 1000000 in
theorem count_step (m : Nat) (ih : ∀ (t : Nat) (T : Nat → Prop) (fo : Fo) (K K' : List (Int × Int)) (km : Nat) (n o r : Int) (w : World) (hF : FoAt w T t fo) (hK : MpAt intT w km K) (hkm : ¬ T km), Fo.count fo m K n o = some (K', r) → Calls Try.prog 106 #[Vp t, .int .i64 n, .int .i64 o, .map (some km)] w (fun e w' => e = .returned (.int .i64 r) ∧ MpAt intT w' km K' ∧ Only (fun b => b = km) w w')) (t : Nat) (T : Nat → Prop) (fo : Fo) (K K' : List (Int × Int)) (km : Nat) (n o r : Int) (w : World) (hF : FoAt w T t fo) (hK : MpAt intT w km K) (hkm : ¬ T km) (hb : Fo.count fo (m + 1) K n o = some (K', r)) :
  Calls Try.prog 106 #[Vp t, Vi n, Vi o, .map (some km)] w fun e w' => e = .returned (Vi r) ∧ MpAt intT w' km K' ∧ Only (fun b => b = km) w w' := by
 have G := Gr.refl w
 have hF0 := hF
 obtain ⟨ka, kc, m1, m2, hM⟩ := hF
 have hk := hM.rows
 have hsm := hM.small
 have hC : RCells w [(Ad t 0, Vi fo.n), (Ad t 1, .slice ka fo.kn.length kc), (Ad t 2, .map (some m1)), (Ad t 3, .map (some m2))] := (RCells.cons (hM.c.cell (k := 0) (by decide)) (RCells.cons (hM.c.cell (k := 1) (by decide)) (RCells.cons (hM.c.cell (k := 2) (by decide)) (RCells.cons (hM.c.cell (k := 3) (by decide)) (RCells.nil _)))))
 refine Y.calls 67 Try.func106 rfl rfl ?_
 intro ac F0
 have F : Fr ac 67 [(0, Vp t), (1, Vi n), (2, Vi o), (3, .map (some km))] := F0.sub _
 clear F0
 refine Y.seq ?_
 refine Y.lit (by kernel_rfl) ?_
 refine Y.pv F (X.assign rfl (X.kc (Vi 0) rfl)) ?_;clear F ac;intro ac F
 refine Y.nil ?_
 replace F : Fr ac 67 [(0, Vp t), (1, Vi n), (2, Vi o), (3, .map (some km))] := F.sub _
 refine X.thenN ?_
 refine Y.seq ?_
 refine Y.seq ?_
 refine Y.lit (by kernel_rfl) ?_
 refine Y.pv F (X.move rfl (F.e 1 rfl)) ?_;clear F ac;intro ac F
 refine Y.pv F (X.binop rfl (F.e 12 rfl) (X.kc (Vi 0) rfl) (X.eqlI Try.underlying3 rfl)) ?_;clear F ac;intro ac F
 refine Y.nil ?_
 replace F : Fr ac 67 [(0, Vp t), (1, Vi n), (2, Vi o), (3, .map (some km)), (13, .bool ((n : Int) == 0))] := F.sub _
 refine X.thenN ?_
 cases h3 : ((n : Int) == 0) with
 | false =>
  try rw [h3] at F
  have h3p : ¬ (n : Int) = 0 := by simpa using h3
  obtain ⟨nn, tp, hS, hcase⟩ := count_rest h3p hb
  obtain ⟨en, ln, et, sn, stp, so, lo_, hi_⟩ := hS
  subst en
  have tpb := sm_ok stp
  have ob_ := sm_ok so
  obtain ⟨gv, hgv⟩ : ∃ z, z = (getM K (nn : Int)).getD 0 := ⟨_, rfl⟩
  obtain ⟨gb, hgb⟩ : ∃ z, z = (getM K (nn : Int)).isSome := ⟨_, rfl⟩
  refine Y.condF (F.e 13 rfl) ?_
  refine Y.skip ?_
  refine X.thenN ?_
  refine Y.seq ?_
  refine Y.lit (by kernel_rfl) ?_
  refine Y.pv F (X.move rfl (F.e 0 rfl)) ?_;clear F ac;intro ac F
  refine Y.pv F (Y.nilC rfl (F.e 14 rfl)) ?_;clear F ac;intro ac F
  refine Y.pv F (X.field rfl (F.e 15 rfl) (X.fld Try.underlying162 rfl (Try.siz158 _) rfl rfl)) ?_;clear F ac;intro ac F
  refine Y.pv F (X.load rfl (F.e 16 rfl) (X.ld1 (Try.agg158 _) (hC.at 1 rfl))) ?_;clear F ac;intro ac F
  refine Y.pv F (X.move rfl (F.e 1 rfl)) ?_;clear F ac;intro ac F
  obtain ⟨pd4, pe4, -, -, pc4⟩ := hk.at (j := nn) (by omega)
  subst pe4
  replace hC : RCells w [(Ad t 0, Vi fo.n), (Ad t 1, .slice (some pd4) fo.kn.length kc), (Ad t 2, .map (some m1)), (Ad t 3, .map (some m2)), (pd4.add (nn * 3), Vi tp), (⟨(pd4.add (nn * 3)).block, (pd4.add (nn * 3)).off + 1, none⟩, Vi (cv (knL fo.kn) nn 1)), (⟨(pd4.add (nn * 3)).block, (pd4.add (nn * 3)).off + 2, none⟩, Vi (cv (knL fo.kn) nn 2))] := hC.append ((RCells.cons (by rw [et]; exact pc4 0 (by decide)) (RCells.cons (pc4 1 (by decide)) (RCells.cons (pc4 2 (by decide)) (RCells.nil _)))))
  clear pc4
  refine Y.pv F (X.index rfl (F.e 17 rfl) (F.e 18 rfl) (X.idx (k := nn) Try.underlying158 (Try.siz157 _) (by omega) (by omega) rfl)) ?_;clear F ac;intro ac F
  refine Y.pv F (X.field rfl (F.e 19 rfl) (X.fld Try.underlying157 rfl (Try.siz3 _) rfl rfl)) ?_;clear F ac;intro ac F
  refine Y.pv F (X.load rfl (F.e 20 rfl) (X.ld1 (Try.agg3 _) (hC.at 4 rfl))) ?_;clear F ac;intro ac F
  refine Y.pv F (X.assign rfl (F.e 21 rfl)) ?_;clear F ac;intro ac F
  refine Y.nil ?_
  replace F : Fr ac 67 [(0, Vp t), (1, Vi nn), (2, Vi o), (3, .map (some km)), (9, Vi tp)] := F.sub _
  refine X.thenN ?_
  refine Y.seq ?_
  refine Y.lit (by kernel_rfl) ?_
  refine Y.pv F (X.move rfl (F.e 3 rfl)) ?_;clear F ac;intro ac F
  refine Y.pv F (X.move rfl (F.e 1 rfl)) ?_;clear F ac;intro ac F
  have hq := mp_look (t := 141) (e := 3) (W := w) Try.underlying141 (Try.zero3 _) hK (x := (nn : Int)) sn
  rw [← hgv, ← hgb] at hq
  refine Y.pv F (Y.lk rfl (F.e 23 rfl) (F.e 24 rfl) hq) ?_
  clear F ac hq
  intro ac F
  refine Y.pv F (X.move rfl (F.e 25 rfl)) ?_;clear F ac;intro ac F
  refine Y.pv F (X.extract rfl (F.e 22 rfl) rfl) ?_;clear F ac;intro ac F
  refine Y.pv F (X.extract rfl (F.e 22 rfl) rfl) ?_;clear F ac;intro ac F
  refine Y.pv F (X.assign rfl (F.e 26 rfl)) ?_;clear F ac;intro ac F
  refine Y.pv F (X.assign rfl (F.e 27 rfl)) ?_;clear F ac;intro ac F
  refine Y.nil ?_
  replace F : Fr ac 67 [(0, Vp t), (1, Vi nn), (2, Vi o), (3, .map (some km)), (9, Vi tp), (10, Vi gv), (11, .bool gb)] := F.sub _
  refine X.thenN ?_
  refine Y.seq ?_
  refine Y.seq ?_
  refine Y.lit (by kernel_rfl) ?_
  refine Y.pv F (X.move rfl (F.e 11 rfl)) ?_;clear F ac;intro ac F
  refine Y.pv F (X.notB rfl (F.e 28 rfl) rfl) ?_;clear F ac;intro ac F
  refine Y.nil ?_
  replace F : Fr ac 67 [(0, Vp t), (1, Vi nn), (2, Vi o), (3, .map (some km)), (9, Vi tp), (10, Vi gv), (29, .bool (!gb))] := F.sub _
  refine X.thenN ?_
  cases h5 : gb with
  | false =>
   try rw [h5] at F
   obtain ⟨K1, v, hw, hf1, rfl, e2⟩ := cnt_n hcase (by rw [← hgb]; exact h5)
   refine Y.condT (F.e 29 rfl) ?_
   refine Y.seq ?_
   refine Y.lit (by kernel_rfl) ?_
   refine Y.pv F (X.assign rfl (X.kc (Vi 1) rfl)) ?_;clear F ac;intro ac F
   refine Y.nil ?_
   replace F : Fr ac 67 [(0, Vp t), (1, Vi nn), (2, Vi o), (3, .map (some km)), (9, Vi tp), (10, Vi 1)] := F.sub _
   refine X.thenN ?_
   refine Y.seq ?_
   refine Y.seq ?_
   refine Y.lit (by kernel_rfl) ?_
   refine Y.pv F (X.move rfl (F.e 1 rfl)) ?_;clear F ac;intro ac F
   refine Y.pv F (X.binop rfl (F.e 30 rfl) (X.kc (Vi 1) rfl) (X.neqI Try.underlying3 rfl)) ?_;clear F ac;intro ac F
   refine Y.nil ?_
   replace F : Fr ac 67 [(0, Vp t), (1, Vi nn), (2, Vi o), (3, .map (some km)), (9, Vi tp), (10, Vi 1), (31, .bool ((nn : Int) != 1))] := F.sub _
   refine X.thenN ?_
   cases h6 : ((nn : Int) != 1) with
   | false =>
    try rw [h6] at F
    have h6p : (nn : Int) = 1 := by simpa using h6
    obtain ⟨-, rfl, rfl⟩ | ⟨hw0, -⟩ := hw
    rotate_left
    ·exact absurd h6p hw0
    have hK1 := hK
    have hon1 : Only (fun b => b = km) w w := Only.refl _ _
    refine Y.condF (F.e 31 rfl) ?_
    refine Y.skip ?_
    refine X.thenN ?_
    refine Y.lit (by kernel_rfl) ?_
    refine Y.pv F (X.move rfl (F.e 3 rfl)) ?_;clear F ac;intro ac F
    refine Y.pv F (X.move rfl (F.e 1 rfl)) ?_;clear F ac;intro ac F
    refine Y.pv F (X.move rfl (F.e 10 rfl)) ?_;clear F ac;intro ac F
    obtain ⟨ob, hrun, hmp⟩ := mp_store (t := 141) (e := 3) Try.underlying141 hK1 (x := (nn : Int)) (v := 1) sn hf1
    refine Y.punit F (X.w0 rfl) rfl (Y.mu rfl (F.e 59 rfl) (F.e 60 rfl) (F.e 61 rfl) hrun) ?_
    clear F ac hrun
    intro ac F
    have hon2 := Only.putObj (S := fun b => b = km) (Only.refl _ w) (.inl rfl) ob
    generalize w.putObj km ob = w7 at *
    refine Y.nil ?_
    replace F : Fr ac 67 [(2, Vi o), (9, Vi tp), (10, Vi 1)] := F.sub _
    refine X.thenN ?_
    refine Y.seq ?_
    refine Y.lit (by kernel_rfl) ?_
    refine Y.pv F (X.move rfl (F.e 10 rfl)) ?_;clear F ac;intro ac F
    refine Y.pv F (X.move rfl (F.e 9 rfl)) ?_;clear F ac;intro ac F
    refine Y.pv F (X.move rfl (F.e 2 rfl)) ?_;clear F ac;intro ac F
    refine Y.pv F (X.binop rfl (F.e 63 rfl) (F.e 64 rfl) (X.subI Try.underlying3 rfl (by omega) (by omega))) ?_;clear F ac;intro ac F
    refine Y.pv F (X.binop rfl (F.e 62 rfl) (F.e 65 rfl) (X.shlI Try.underlying3 rfl (by omega))) ?_;clear F ac;intro ac F
    refine Y.pv F (X.assign rfl (F.e 66 rfl)) ?_;clear F ac;intro ac F
    refine Y.nil ?_
    replace F : Fr ac 67 [(8, Vi (shlV 1 ((tp : Int) - o : Int)))] := F.sub _
    refine X.thenN ?_
    refine Y.ret ?_
    exact Y.ret0 (v := Vi (shlV 1 ((tp : Int) - o : Int))) F (Y.rs1 F rfl (by kernel_rfl)) ⟨by rw [e2, shl_small (by omega) (by omega) (by omega) (by omega)], hmp, hon1.trans hon2⟩
   | true =>
    try rw [h6] at F
    have h6p : ¬ (nn : Int) = 1 := by simpa using h6
    obtain ⟨hw0, -⟩ | ⟨-, K2, a1, b1, c1, c2, a0, b0, ab, rfl⟩ := hw
    ·exact absurd hw0 h6p
    refine Y.condT (F.e 31 rfl) ?_
    have hR0 := hC
    have hNo : NoCells (fun x => x = km) w := fun b cs ty fr e h9 => by
     have e : b = km := e
     obtain ⟨es, ck, hm, -⟩ := hK
     rw [e, hm] at h9; cases h9
    refine region_xi F [some (Vp t), some (Vp t), some (Vp t), some (.pointer (some ⟨t, 1, none⟩)), some (.slice (some pd4) fo.kn.length kc), some (Vi nn), some (.pointer (some (pd4.add (nn * 3)))), some (.pointer (some (⟨(pd4.add (nn * 3)).block, (pd4.add (nn * 3)).off + 1, none⟩))), some (Vi (cv (knL fo.kn) nn 1)), some (Vi tp), some (Vi ((tp : Int) + 1)), some (.map (some km)), some (Vi a1), some (Vp t), some (Vp t), some (Vp t), some (.pointer (some ⟨t, 1, none⟩)), some (.slice (some pd4) fo.kn.length kc), some (Vi nn), some (.pointer (some (pd4.add (nn * 3)))), some (.pointer (some (⟨(pd4.add (nn * 3)).block, (pd4.add (nn * 3)).off + 2, none⟩))), some (Vi (cv (knL fo.kn) nn 2)), some (Vi tp), some (Vi ((tp : Int) + 1)), some (.map (some km)), some (Vi b1), some (Vi ((a1 : Int) + b1)), some (Vi ((a1 : Int) + b1))] (RC2 km w 12 25 (fun W => MpAt intT W km K) (fun W => MpAt intT W km K2) (fun W => MpAt intT W km K1)) rfl ⟨by kernel_rfl, of_decide_eq_true (by kernel_rfl), by kernel_rfl, by kernel_rfl, by kernel_rfl⟩ (fun _ => ⟨RC2.start (Only.refl _ _) hK, RC2.start ((Gr.drew _).only _) (hK.only ((Gr.drew _).only (fun _ => False)) (fun e => e))⟩) ⟨?_, ?_, ?_, ?_, ?_, ?_, ?_, ?_, ?_, ?_, ?_, ?_, ?_, ?_, ?_, ?_, ?_, ?_, ?_, ?_, ?_, ?_, ?_, ?_, ?_, ?_, ?_, ?_, trivial⟩ ?_
    ·intro ac done u W Sx hR
     exact X.vl (X.move rfl (Sx.ev 0 (Vp t))) (hR.quiet (by decide))
    ·intro ac done u W Sx hR
     exact X.vl (X.move rfl (Sx.ev 0 (Vp t))) (hR.quiet (by decide))
    ·intro ac done u W Sx hR
     exact X.vl (Y.nilC rfl (Sx.ev 33 (Vp t))) (hR.quiet (by decide))
    ·intro ac done u W Sx hR
     exact X.vl (X.field rfl (Sx.ev 34 (Vp t)) (X.fld Try.underlying162 rfl (Try.siz158 _) rfl rfl)) (hR.quiet (by decide))
    ·intro ac done u W Sx hR
     have hC2 : RCells W _ := fun p hp => hR.on.cellN hNo (hC p hp)
     exact X.vl (X.load rfl (Sx.ev 35 (.pointer (some ⟨t, 1, none⟩))) (X.ld1 (Try.agg158 _) (hC2.at 1 rfl))) (hR.quiet (by decide))
    ·intro ac done u W Sx hR
     exact X.vl (X.move rfl (Sx.ev 1 (Vi nn))) (hR.quiet (by decide))
    ·intro ac done u W Sx hR
     exact X.vl (X.index rfl (Sx.ev 36 (.slice (some pd4) fo.kn.length kc)) (Sx.ev 37 (Vi nn)) (X.idx (k := nn) Try.underlying158 (Try.siz157 _) (by omega) (by omega) rfl)) (hR.quiet (by decide))
    ·intro ac done u W Sx hR
     exact X.vl (X.field rfl (Sx.ev 38 (.pointer (some (pd4.add (nn * 3))))) (X.fld Try.underlying157 rfl (Try.siz3 _) rfl rfl)) (hR.quiet (by decide))
    ·intro ac done u W Sx hR
     have hC2 : RCells W _ := fun p hp => hR.on.cellN hNo (hC p hp)
     exact X.vl (X.load rfl (Sx.ev 39 (.pointer (some (⟨(pd4.add (nn * 3)).block, (pd4.add (nn * 3)).off + 1, none⟩)))) (X.ld1 (Try.agg3 _) (hC2.at 5 rfl))) (hR.quiet (by decide))
    ·intro ac done u W Sx hR
     exact X.vl (X.move rfl (Sx.ev 9 (Vi tp))) (hR.quiet (by decide))
    ·intro ac done u W Sx hR
     exact X.vl (X.binop rfl (Sx.ev 41 (Vi tp)) (X.kc (Vi 1) rfl) (X.addI Try.underlying3 rfl (by omega) (by omega))) (hR.quiet (by decide))
    ·intro ac done u W Sx hR
     exact X.vl (X.move rfl (Sx.ev 3 (.map (some km)))) (hR.quiet (by decide))
    ·intro ac done u W Sx hR
     have hc := ih t T fo K K2 km (cv (knL fo.kn) nn 1) (tp + 1) a1 W (hF0.only hR.on (fun b e1 e2 => hkm (by rw [← e2]; exact e1))) (hR.q0 Sx.nd (Sx.no 25 (by kernel_rfl))) hkm c1
     refine X.call (X.w0 rfl) (X.enter (F := 106) rfl (X.kc (.func (.func 106) #[] #[]) rfl) (X.a4 (Sx.ev 32 (Vp t)) (Sx.ev 40 (Vi (cv (knL fo.kn) nn 1))) (Sx.ev 42 (Vi ((tp : Int) + 1))) (Sx.ev 43 (.map (some km)))) (enters_of Try.func106 (by kernel_rfl) rfl _)) hc ?_
     rintro e W2 ⟨rfl, hK2, hon⟩
     exact ⟨_, rfl, X.kn rfl, hR.sa (by decide) (Sx.no 25 (by kernel_rfl)) hon hK2⟩
    ·intro ac done u W Sx hR
     exact X.vl (X.move rfl (Sx.ev 0 (Vp t))) (hR.quiet (by decide))
    ·intro ac done u W Sx hR
     exact X.vl (X.move rfl (Sx.ev 0 (Vp t))) (hR.quiet (by decide))
    ·intro ac done u W Sx hR
     exact X.vl (Y.nilC rfl (Sx.ev 46 (Vp t))) (hR.quiet (by decide))
    ·intro ac done u W Sx hR
     exact X.vl (X.field rfl (Sx.ev 47 (Vp t)) (X.fld Try.underlying162 rfl (Try.siz158 _) rfl rfl)) (hR.quiet (by decide))
    ·intro ac done u W Sx hR
     have hC2 : RCells W _ := fun p hp => hR.on.cellN hNo (hC p hp)
     exact X.vl (X.load rfl (Sx.ev 48 (.pointer (some ⟨t, 1, none⟩))) (X.ld1 (Try.agg158 _) (hC2.at 1 rfl))) (hR.quiet (by decide))
    ·intro ac done u W Sx hR
     exact X.vl (X.move rfl (Sx.ev 1 (Vi nn))) (hR.quiet (by decide))
    ·intro ac done u W Sx hR
     exact X.vl (X.index rfl (Sx.ev 49 (.slice (some pd4) fo.kn.length kc)) (Sx.ev 50 (Vi nn)) (X.idx (k := nn) Try.underlying158 (Try.siz157 _) (by omega) (by omega) rfl)) (hR.quiet (by decide))
    ·intro ac done u W Sx hR
     exact X.vl (X.field rfl (Sx.ev 51 (.pointer (some (pd4.add (nn * 3))))) (X.fld Try.underlying157 rfl (Try.siz3 _) rfl rfl)) (hR.quiet (by decide))
    ·intro ac done u W Sx hR
     have hC2 : RCells W _ := fun p hp => hR.on.cellN hNo (hC p hp)
     exact X.vl (X.load rfl (Sx.ev 52 (.pointer (some (⟨(pd4.add (nn * 3)).block, (pd4.add (nn * 3)).off + 2, none⟩)))) (X.ld1 (Try.agg3 _) (hC2.at 6 rfl))) (hR.quiet (by decide))
    ·intro ac done u W Sx hR
     exact X.vl (X.move rfl (Sx.ev 9 (Vi tp))) (hR.quiet (by decide))
    ·intro ac done u W Sx hR
     exact X.vl (X.binop rfl (Sx.ev 54 (Vi tp)) (X.kc (Vi 1) rfl) (X.addI Try.underlying3 rfl (by omega) (by omega))) (hR.quiet (by decide))
    ·intro ac done u W Sx hR
     exact X.vl (X.move rfl (Sx.ev 3 (.map (some km)))) (hR.quiet (by decide))
    ·intro ac done u W Sx hR
     have hc := ih t T fo K2 K1 km (cv (knL fo.kn) nn 2) (tp + 1) b1 W (hF0.only hR.on (fun b e1 e2 => hkm (by rw [← e2]; exact e1))) (hR.q1 (Sx.an 12 (by kernel_rfl)) Sx.nd) hkm c2
     refine X.call (X.w0 rfl) (X.enter (F := 106) rfl (X.kc (.func (.func 106) #[] #[]) rfl) (X.a4 (Sx.ev 45 (Vp t)) (Sx.ev 53 (Vi (cv (knL fo.kn) nn 2))) (Sx.ev 55 (Vi ((tp : Int) + 1))) (Sx.ev 56 (.map (some km)))) (enters_of Try.func106 (by kernel_rfl) rfl _)) hc ?_
     rintro e W2 ⟨rfl, hK2, hon⟩
     exact ⟨_, rfl, X.kn rfl, hR.sb hon hK2⟩
    ·intro ac done u W Sx hR
     exact X.vl (X.binop rfl (Sx.ev 44 (Vi a1)) (Sx.ev 57 (Vi b1)) (X.addI Try.underlying3 rfl (by omega) (by omega))) (hR.quiet (by decide))
    ·intro ac done u W Sx hR
     exact X.vl (X.assign rfl (Sx.ev 58 (Vi ((a1 : Int) + b1)))) (hR.quiet (by decide))
    rintro ac u w8 hs hd hl_ ho hR
    replace F : Fr ac 67 [(1, Vi nn), (2, Vi o), (3, .map (some km)), (9, Vi tp), (10, Vi ((a1 : Int) + b1))] := X.fr hs hd hl_ _ (by kernel_rfl)
    clear hs hd hl_ ho
    have hon1 := hR.on
    have hK1 := hR.q2 rfl
    clear hC hR0 G
    refine X.thenN ?_
    refine Y.lit (by kernel_rfl) ?_
    refine Y.pv F (X.move rfl (F.e 3 rfl)) ?_;clear F ac;intro ac F
    refine Y.pv F (X.move rfl (F.e 1 rfl)) ?_;clear F ac;intro ac F
    refine Y.pv F (X.move rfl (F.e 10 rfl)) ?_;clear F ac;intro ac F
    obtain ⟨ob, hrun, hmp⟩ := mp_store (t := 141) (e := 3) Try.underlying141 hK1 (x := (nn : Int)) (v := (a1 : Int) + b1) sn hf1
    refine Y.punit F (X.w0 rfl) rfl (Y.mu rfl (F.e 59 rfl) (F.e 60 rfl) (F.e 61 rfl) hrun) ?_
    clear F ac hrun
    intro ac F
    have hon2 := Only.putObj (S := fun b => b = km) (Only.refl _ w8) (.inl rfl) ob
    generalize w8.putObj km ob = w9 at *
    refine Y.nil ?_
    replace F : Fr ac 67 [(2, Vi o), (9, Vi tp), (10, Vi ((a1 : Int) + b1))] := F.sub _
    refine X.thenN ?_
    refine Y.seq ?_
    refine Y.lit (by kernel_rfl) ?_
    refine Y.pv F (X.move rfl (F.e 10 rfl)) ?_;clear F ac;intro ac F
    refine Y.pv F (X.move rfl (F.e 9 rfl)) ?_;clear F ac;intro ac F
    refine Y.pv F (X.move rfl (F.e 2 rfl)) ?_;clear F ac;intro ac F
    refine Y.pv F (X.binop rfl (F.e 63 rfl) (F.e 64 rfl) (X.subI Try.underlying3 rfl (by omega) (by omega))) ?_;clear F ac;intro ac F
    refine Y.pv F (X.binop rfl (F.e 62 rfl) (F.e 65 rfl) (X.shlI Try.underlying3 rfl (by omega))) ?_;clear F ac;intro ac F
    refine Y.pv F (X.assign rfl (F.e 66 rfl)) ?_;clear F ac;intro ac F
    refine Y.nil ?_
    replace F : Fr ac 67 [(8, Vi (shlV ((a1 : Int) + b1 : Int) ((tp : Int) - o : Int)))] := F.sub _
    refine X.thenN ?_
    refine Y.ret ?_
    exact Y.ret0 (v := Vi (shlV ((a1 : Int) + b1 : Int) ((tp : Int) - o : Int))) F (Y.rs1 F rfl (by kernel_rfl)) ⟨by rw [e2, shl_small (by omega) (by omega) (by omega) (by omega)], hmp, hon1.trans hon2⟩
  | true =>
   try rw [h5] at F
   obtain ⟨e1, e2, e3, e4⟩ := cnt_k hcase (by rw [← hgb]; exact h5) hgv
   refine Y.condF (F.e 29 rfl) ?_
   refine Y.skip ?_
   refine X.thenN ?_
   refine Y.seq ?_
   refine Y.lit (by kernel_rfl) ?_
   refine Y.pv F (X.move rfl (F.e 10 rfl)) ?_;clear F ac;intro ac F
   refine Y.pv F (X.move rfl (F.e 9 rfl)) ?_;clear F ac;intro ac F
   refine Y.pv F (X.move rfl (F.e 2 rfl)) ?_;clear F ac;intro ac F
   refine Y.pv F (X.binop rfl (F.e 63 rfl) (F.e 64 rfl) (X.subI Try.underlying3 rfl (by omega) (by omega))) ?_;clear F ac;intro ac F
   refine Y.pv F (X.binop rfl (F.e 62 rfl) (F.e 65 rfl) (X.shlI Try.underlying3 rfl (by omega))) ?_;clear F ac;intro ac F
   refine Y.pv F (X.assign rfl (F.e 66 rfl)) ?_;clear F ac;intro ac F
   refine Y.nil ?_
   replace F : Fr ac 67 [(8, Vi (shlV (gv : Int) ((tp : Int) - o : Int)))] := F.sub _
   refine X.thenN ?_
   refine Y.ret ?_
   subst e1
   exact Y.ret0 (v := Vi (shlV (gv : Int) ((tp : Int) - o : Int))) F (Y.rs1 F rfl (by kernel_rfl)) ⟨by rw [e2, shl_small e3 e4 (by omega) (by omega)], hK, Only.refl _ _⟩
 | true =>
  try rw [h3] at F
  have h3p : (n : Int) = 0 := by simpa using h3
  refine Y.condT (F.e 13 rfl) ?_
  refine Y.seq ?_
  refine Y.lit (by kernel_rfl) ?_
  refine Y.pv F (X.assign rfl (X.kc (Vi 0) rfl)) ?_;clear F ac;intro ac F
  refine Y.nil ?_
  replace F : Fr ac 67 [(8, Vi 0)] := F.sub _
  refine X.thenN ?_
  refine Y.ret ?_
  refine X.thenR ?_
  rw [h3p] at hb
  obtain ⟨e1, e2⟩ := count_zero hb
  subst e1
  exact Y.ret0 (v := Vi 0) F (Y.rs1 F rfl (by kernel_rfl)) ⟨by rw [e2], hK, Only.refl _ _⟩
theorem count_any (m : Nat) : ∀ (t : Nat) (T : Nat → Prop) (fo : Fo) (K K' : List (Int × Int)) (km : Nat) (n o r : Int) (w : World) (hF : FoAt w T t fo) (hK : MpAt intT w km K) (hkm : ¬ T km), Fo.count fo m K n o = some (K', r) → Calls Try.prog 106 #[Vp t, .int .i64 n, .int .i64 o, .map (some km)] w (fun e w' => e = .returned (.int .i64 r) ∧ MpAt intT w' km K' ∧ Only (fun b => b = km) w w') := by
 induction m with
 | zero => intro t T fo K K' km n o r w hF hK hkm hb; cases hb
 | succ m ih => intro t T fo K K' km n o r w hF hK hkm hb; exact count_step m ih t T fo K K' km n o r w hF hK hkm hb
end
end Go.Proofs.Ytaidcocjcidggaa
