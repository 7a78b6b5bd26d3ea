/- Several texts of this claim in one file. (1) Contracts: slices.ContainsFunc of nudges that are not right. (2) Contract: the beginning of a play. (3) Contract: the asks of a tick. -/
import Derived.Test.YtoalamakhjbedaaBd7
import Derived.Test.YtoalamakhjbedaaBd2
namespace Go.Proofs.Ytoalamakhjbedaa
section
open Go.RowKit

set_option maxRecDepth 100000 in
set_option maxHeartbeats 400000 in
theorem beg1_any (bc bt : Nat) (na : Option Addr) (n nc : Nat) (gr hold t : Int) (nd : List (List Int)) (x : List Int) (w : World) (hcb : RCells w [(⟨bc, 0, none⟩, .int .i64 gr), (⟨bc, 1, none⟩, .int .i64 hold), (⟨bc, 2, none⟩, .slice na n nc), (⟨bt, 0, none⟩, .int .i64 t)]) (hnd : StAt w 5 na n nd) (hc : CluOk gr hold nd) (ht : 0 ≤ t ∧ t ≤ 1000) :
  Calls Try.prog 68 #[.agg #[Vi (nv x 0), Vi (nv x 1), Vi (nv x 2), Vi (nv x 3)], Vp bc, Vp bt] w fun e w' => e = .returned (.bool (!rightB gr nd t x)) ∧ Gr w w' := by
 have G := Gr.refl w
 have hC := hcb
 have hlen := hnd.len
 refine Y.calls 10 Try.func68 rfl rfl ?_
 intro ac F0
 have F : Fr ac 10 [(0, .agg #[Vi (nv x 0), Vi (nv x 1), Vi (nv x 2), Vi (nv x 3)]), (1, Vp bc), (2, Vp bt)] := F0.sub _
 clear F0
 refine Y.seq ?_
 refine Y.lit (by kernel_rfl) ?_
 refine Y.pval F (X.w0 rfl) rfl (X.box rfl (F.e 0 rfl) X.bx) ?_
 clear F ac
 intro ac F
 have g := Gr.alloc w (.cells #[Vi (nv x 0), Vi (nv x 1), Vi (nv x 2), Vi (nv x 3)] 33)
 have hb := heap_alloc_new w (.cells #[Vi (nv x 0), Vi (nv x 1), Vi (nv x 2), Vi (nv x 3)] 33)
 have hbl : w.heap.size < (w.alloc (.cells #[Vi (nv x 0), Vi (nv x 1), Vi (nv x 2), Vi (nv x 3)] 33)).heap.size := by simp
 have hC2 : RCells (w.alloc (.cells #[Vi (nv x 0), Vi (nv x 1), Vi (nv x 2), Vi (nv x 3)] 33)) [(Ad bc 0, Vi gr), (Ad bc 1, Vi hold), (Ad bc 2, .slice na n nc), (Ad bt 0, Vi t), (Ad w.heap.size 0, Vi (nv x 0)), (Ad w.heap.size 1, Vi (nv x 1)), (Ad w.heap.size 2, Vi (nv x 2)), (Ad w.heap.size 3, Vi (nv x 3))] := hC.box (b := w.heap.size) #[Vi (nv x 0), Vi (nv x 1), Vi (nv x 2), Vi (nv x 3)] 33 rfl
 generalize w.alloc (.cells #[Vi (nv x 0), Vi (nv x 1), Vi (nv x 2), Vi (nv x 3)] 33) = w3 at *
 replace G := G.trans g
 replace hC := hC2
 clear hC2
 replace hnd := hnd.gr g
 clear g hb hbl
 refine Y.pval F (X.w0 rfl) rfl (X.assign rfl (X.kc (.bool false) rfl)) ?_
 clear F ac
 intro ac F
 refine Y.nil ?_
 replace F : Fr ac 10 [(0, .agg #[Vi (nv x 0), Vi (nv x 1), Vi (nv x 2), Vi (nv x 3)]), (1, Vp bc), (2, Vp bt), (3, Vp w.heap.size), (4, .bool false)] := F.sub _
 refine X.thenN ?_
 refine Y.seq ?_
 refine Y.lit (by kernel_rfl) ?_
 refine Y.pval F (X.w0 rfl) rfl (X.load rfl (F.e 1 rfl) (X.ldN (Try.agg24 _) (Try.siz24 _) (Y.atz (⟨bc, 0, none⟩) (Y.AtFrom.cons (hC.at 0 rfl) (Y.AtFrom.cons (hC.at 1 rfl) (Y.AtFrom.cons (hC.at 2 rfl) (Y.AtFrom.nil _ _ _))))))) ?_
 clear F ac
 intro ac F
 refine Y.pval F (X.w0 rfl) rfl (X.load rfl (F.e 2 rfl) (X.ld1 (Try.agg3 _) (hC.at 3 rfl))) ?_
 clear F ac
 intro ac F
 refine Y.pval F (X.w0 rfl) rfl (X.load rfl (F.e 3 rfl) (X.ldN (Try.agg33 _) (Try.siz33 _) (Y.atz (⟨w.heap.size, 0, none⟩) (Y.AtFrom.cons (hC.at 4 rfl) (Y.AtFrom.cons (hC.at 5 rfl) (Y.AtFrom.cons (hC.at 6 rfl) (Y.AtFrom.cons (hC.at 7 rfl) (Y.AtFrom.nil _ _ _)))))))) ?_
 clear F ac
 intro ac F
 refine Y.pcall F (X.w0 rfl) rfl (X.enter (F := 69) rfl (X.kc (.func (.func 69) #[] #[]) rfl) (X.a3 (F.e 5 rfl) (F.e 6 rfl) (F.e 7 rfl)) (enters_of Try.func69 (by kernel_rfl) rfl _)) (right_any na n nc gr hold t nd x w3 hnd hc ht) ?_
 clear F ac
 rintro e w4 ⟨rfl, g⟩
 refine ⟨_, rfl, ?_⟩
 intro ac F
 replace G := G.trans g
 replace hC := hC.gr g
 replace hnd := hnd.gr g
 clear g
 refine Y.pval F (X.w0 rfl) rfl (X.notB rfl (F.e 8 rfl) rfl) ?_
 clear F ac
 intro ac F
 refine Y.pval F (X.w0 rfl) rfl (X.assign rfl (F.e 9 rfl)) ?_
 clear F ac
 intro ac F
 refine Y.nil ?_
 replace F : Fr ac 10 [(0, .agg #[Vi (nv x 0), Vi (nv x 1), Vi (nv x 2), Vi (nv x 3)]), (1, Vp bc), (2, Vp bt), (3, Vp w.heap.size), (4, .bool (!(rightB gr nd t x)))] := F.sub _
 refine X.thenN ?_
 refine Y.ret ?_
 exact Y.ret0 (v := .bool (!(rightB gr nd t x))) F (Y.rs1 F rfl (by kernel_rfl)) ⟨rfl, G⟩
set_option maxRecDepth 100000 in
set_option maxHeartbeats 400000 in
theorem indexF_any (bc bt : Nat) (na la : Option Addr) (n nc m lc : Nat) (gr hold t : Int) (nd l : List (List Int)) (w : World) (hcb : RCells w [(⟨bc, 0, none⟩, .int .i64 gr), (⟨bc, 1, none⟩, .int .i64 hold), (⟨bc, 2, none⟩, .slice na n nc), (⟨bt, 0, none⟩, .int .i64 t)]) (hnd : StAt w 5 na n nd) (hc : CluOk gr hold nd) (ht : 0 ≤ t ∧ t ≤ 1000) (hl : StAt w 4 la m l) :
  Calls Try.prog 83 #[.slice la m lc, .func (.func 68) #[] #[Vp bc, Vp bt]] w fun e w' => ∃ z, e = .returned (Vi z) ∧ decide (0 ≤ z) = !(allN (fun i => rightB gr nd t (l[i]?.getD [])) m) ∧ Gr w w' := by
 have G := Gr.refl w
 have hC := hcb
 have hlen := hnd.len
 have hlm := hl.lt
 have hll := hl.len
 refine Y.calls 19 Try.func83 rfl rfl ?_
 intro ac F0
 have F : Fr ac 19 [(0, .slice la m lc), (1, .func (.func 68) #[] #[Vp bc, Vp bt])] := F0.sub _
 clear F0
 refine Y.seq ?_
 refine Y.lit (by kernel_rfl) ?_
 refine Y.pval F (X.w0 rfl) rfl (X.assign rfl (X.kc (Vi 0) rfl)) ?_
 clear F ac
 intro ac F
 refine Y.nil ?_
 replace F : Fr ac 19 [(0, .slice la m lc), (1, .func (.func 68) #[] #[Vp bc, Vp bt]), (4, Vi 0)] := F.sub _
 refine X.thenN ?_
 refine Y.seq ?_
 refine Y.seq ?_
 refine Y.lit (by kernel_rfl) ?_
 refine Y.pval F (X.w0 rfl) rfl (X.move rfl (F.e 0 rfl)) ?_
 clear F ac
 intro ac F
 refine Y.pval F (X.w0 rfl) rfl (X.len1 Try.underlying25 rfl (F.e 6 rfl)) ?_
 clear F ac
 intro ac F
 refine Y.pval F (X.w0 rfl) rfl (X.move rfl (X.kc (Vi 0) rfl)) ?_
 clear F ac
 intro ac F
 refine Y.nil ?_
 replace F : Fr ac 19 [(0, .slice la m lc), (1, .func (.func 68) #[] #[Vp bc, Vp bt]), (4, Vi 0), (7, Vi m), (8, Vi 0)] := F.sub _
 refine X.thenN ?_
 refine Y.block ?_
 have hndB := hnd
 have hlB := hl
 have hCB := hC
 have GB := G
 refine Y.loop (fun me_ ac wr => ∃ (i : Nat), me_ = m - i ∧ Gr w wr ∧ i ≤ m ∧ allN (fun i => rightB gr nd t (l[i]?.getD [])) i = true ∧ Fr ac 19 [(0, .slice la m lc), (1, .func (.func 68) #[] #[Vp bc, Vp bt]), (7, Vi m), (8, Vi i)]) _ ⟨0, rfl, Gr.refl _, Nat.zero_le _, rfl, F.sub _⟩ ?_
 clear F
 intro me_ ac w3 hI
 obtain ⟨i, rfl, gr, hi0, hall, F⟩ := hI
 replace G := GB.trans gr
 replace hC := hCB.gr gr
 replace hnd := hndB.gr gr
 replace hl := hlB.gr gr
 have GB_ := gr
 clear gr
 refine Y.seq ?_
 refine Y.lit (by kernel_rfl) ?_
 refine Y.pval F (X.w0 rfl) rfl (X.binop rfl (F.e 8 rfl) (F.e 7 rfl) (X.lssI Try.underlying3 rfl)) ?_
 clear F ac
 intro ac F
 refine Y.nil ?_
 replace F : Fr ac 19 [(0, .slice la m lc), (1, .func (.func 68) #[] #[Vp bc, Vp bt]), (7, Vi m), (8, Vi i), (9, .bool (decide ((i : Int) < m)))] := F.sub _
 refine X.thenN ?_
 refine Y.seq ?_
 cases h4 : decide ((i : Int) < m) with
 | false =>
  try rw [h4] at F
  have h4p : ¬ ((i : Int) < m) := of_decide_eq_false h4
  have him : i = m := by omega
  rw [him] at hall
  refine Y.condF (F.e 9 rfl) ?_
  refine Y.exit ?_
  refine X.thenX ?_
  refine X.thenX ?_
  refine X.blockX ?_
  refine X.thenN ?_
  refine Y.seq ?_
  refine Y.lit (by kernel_rfl) ?_
  refine Y.pval F (X.w0 rfl) rfl (X.assign rfl (X.kc (Vi (-1)) rfl)) ?_
  clear F ac
  intro ac F
  refine Y.nil ?_
  replace F : Fr ac 19 [(0, .slice la m lc), (1, .func (.func 68) #[] #[Vp bc, Vp bt]), (4, Vi (-1)), (7, Vi m), (8, Vi i), (9, .bool false)] := F.sub _
  refine X.thenN ?_
  refine Y.ret ?_
  exact Y.ret0 (v := Vi (-1)) F (Y.rs1 F rfl (by kernel_rfl)) ⟨_, rfl, by rw [hall]; decide, G⟩
 | true =>
  try rw [h4] at F
  have h4p : ((i : Int) < m) := of_decide_eq_true h4
  refine Y.condT (F.e 9 rfl) ?_
  refine Y.skip ?_
  refine X.thenN ?_
  refine Y.seq ?_
  refine Y.block ?_
  refine Y.seq ?_
  refine Y.lit (by kernel_rfl) ?_
  refine Y.pval F (X.w0 rfl) rfl (X.move rfl (F.e 8 rfl)) ?_
  clear F ac
  intro ac F
  refine Y.pval F (X.w0 rfl) rfl (X.assign rfl (F.e 10 rfl)) ?_
  clear F ac
  intro ac F
  refine Y.nil ?_
  replace F : Fr ac 19 [(0, .slice la m lc), (1, .func (.func 68) #[] #[Vp bc, Vp bt]), (5, Vi i), (7, Vi m), (8, Vi i), (9, .bool true)] := F.sub _
  refine X.thenN ?_
  refine Y.seq ?_
  refine Y.lit (by kernel_rfl) ?_
  refine Y.pval F (X.w0 rfl) rfl (X.move rfl (F.e 1 rfl)) ?_
  clear F ac
  intro ac F
  refine Y.pval F (X.w0 rfl) rfl (X.move rfl (F.e 0 rfl)) ?_
  clear F ac
  intro ac F
  refine Y.pval F (X.w0 rfl) rfl (X.move rfl (F.e 5 rfl)) ?_
  clear F ac
  intro ac F
  obtain ⟨pd5, pe5, -, -, pc5⟩ := hl.at (j := i) (by omega)
  subst pe5
  replace hC : RCells w3 [(Ad bc 0, Vi gr), (Ad bc 1, Vi hold), (Ad bc 2, .slice na n nc), (Ad bt 0, Vi t), (pd5.add (i * 4), Vi (cv l i 0)), (⟨(pd5.add (i * 4)).block, (pd5.add (i * 4)).off + 1, none⟩, Vi (cv l i 1)), (⟨(pd5.add (i * 4)).block, (pd5.add (i * 4)).off + 2, none⟩, Vi (cv l i 2)), (⟨(pd5.add (i * 4)).block, (pd5.add (i * 4)).off + 3, none⟩, Vi (cv l i 3))] := hC.append ((RCells.cons (pc5 0 (by decide)) (RCells.cons (pc5 1 (by decide)) (RCells.cons (pc5 2 (by decide)) (RCells.cons (pc5 3 (by decide)) (RCells.nil _))))))
  clear pc5
  refine Y.pval F (X.w0 rfl) rfl (X.index rfl (F.e 12 rfl) (F.e 13 rfl) (X.idx (k := i) Try.underlying25 (Try.siz33 _) (by omega) (by omega) rfl)) ?_
  clear F ac
  intro ac F
  refine Y.pval F (X.w0 rfl) rfl (X.load rfl (F.e 14 rfl) (X.ldN (Try.agg33 _) (Try.siz33 _) (Y.atz (pd5.add (i * 4)) (Y.AtFrom.cons (hC.at 4 rfl) (Y.AtFrom.cons (hC.at 5 rfl) (Y.AtFrom.cons (hC.at 6 rfl) (Y.AtFrom.cons (hC.at 7 rfl) (Y.AtFrom.nil _ _ _)))))))) ?_
  clear F ac
  intro ac F
  refine Y.pcall F (X.w0 rfl) rfl (X.enter (F := 68) rfl (F.e 11 rfl) (X.a1 (F.e 15 rfl)) (enters_of Try.func68 (by kernel_rfl) rfl _)) (beg1_any bc bt na n nc gr hold t nd (l[i]?.getD []) w3 ((RCells.cons (hC.at 0 rfl) (RCells.cons (hC.at 1 rfl) (RCells.cons (hC.at 2 rfl) (RCells.cons (hC.at 3 rfl) (RCells.nil _)))))) hnd hc ht) ?_
  clear F ac
  rintro e w6 ⟨rfl, g⟩
  refine ⟨_, rfl, ?_⟩
  intro ac F
  replace G := G.trans g
  replace hC := hC.gr g
  replace GB_ := GB_.trans g
  replace hnd := hnd.gr g
  replace hl := hl.gr g
  clear g
  refine Y.nil ?_
  replace F : Fr ac 19 [(0, .slice (some pd5) m lc), (1, .func (.func 68) #[] #[Vp bc, Vp bt]), (5, Vi i), (7, Vi m), (8, Vi i), (9, .bool true), (16, .bool (!(rightB gr nd t (l[i]?.getD []))))] := F.sub _
  refine X.thenN ?_
  cases h7 : rightB gr nd t (l[i]?.getD []) with
  | false =>
   try rw [h7] at F
   refine Y.condT (F.e 16 rfl) ?_
   refine Y.seq ?_
   refine Y.lit (by kernel_rfl) ?_
   refine Y.pval F (X.w0 rfl) rfl (X.move rfl (F.e 5 rfl)) ?_
   clear F ac
   intro ac F
   refine Y.pval F (X.w0 rfl) rfl (X.assign rfl (F.e 17 rfl)) ?_
   clear F ac
   intro ac F
   refine Y.nil ?_
   replace F : Fr ac 19 [(0, .slice (some pd5) m lc), (1, .func (.func 68) #[] #[Vp bc, Vp bt]), (4, Vi i), (5, Vi i), (7, Vi m), (8, Vi i), (9, .bool true), (16, .bool true)] := F.sub _
   refine X.thenN ?_
   refine Y.ret ?_
   refine X.blockR ?_
   refine X.thenR ?_
   refine X.thenR ?_
   refine X.blockR ?_
   refine X.thenR ?_
   exact Y.ret0 (v := Vi i) F (Y.rs1 F rfl (by kernel_rfl)) ⟨_, rfl, by rw [allN_bad (i := i) (by omega) (by simpa using h7)]; simp, G⟩
  | true =>
   try rw [h7] at F
   refine Y.condF (F.e 16 rfl) ?_
   refine Y.skip ?_
   refine X.blockN ?_
   refine X.thenN ?_
   refine Y.lit (by kernel_rfl) ?_
   refine Y.pval F (X.w0 rfl) rfl (X.binop rfl (F.e 8 rfl) (X.kc (Vi 1) rfl) (X.addI Try.underlying3 rfl (by omega) (by omega))) ?_
   clear F ac
   intro ac F
   refine Y.pval F (X.w0 rfl) rfl (X.move rfl (F.e 18 rfl)) ?_
   clear F ac
   intro ac F
   refine Y.nil ?_
   replace F : Fr ac 19 [(0, .slice (some pd5) m lc), (1, .func (.func 68) #[] #[Vp bc, Vp bt]), (5, Vi i), (7, Vi m), (8, Vi ((i : Int) + 1)), (9, .bool true), (16, .bool false)] := F.sub _
   refine X.thenN ?_
   refine ⟨_, ?_, i + 1, rfl, GB_, by omega, by simp only [allN, hall, Bool.true_and]; simpa using h7, F.sub _⟩
   omega
set_option maxRecDepth 100000 in
set_option maxHeartbeats 400000 in
theorem contF_any (bc bt : Nat) (na la : Option Addr) (n nc m lc : Nat) (gr hold t : Int) (nd l : List (List Int)) (w : World) (hcb : RCells w [(⟨bc, 0, none⟩, .int .i64 gr), (⟨bc, 1, none⟩, .int .i64 hold), (⟨bc, 2, none⟩, .slice na n nc), (⟨bt, 0, none⟩, .int .i64 t)]) (hnd : StAt w 5 na n nd) (hc : CluOk gr hold nd) (ht : 0 ≤ t ∧ t ≤ 1000) (hl : StAt w 4 la m l) :
  Calls Try.prog 67 #[.slice la m lc, .func (.func 68) #[] #[Vp bc, Vp bt]] w fun e w' => e = .returned (.bool (!(allN (fun i => rightB gr nd t (l[i]?.getD [])) m))) ∧ Gr w w' := by
 have G := Gr.refl w
 have hC := hcb
 have hlen := hnd.len
 have hlm := hl.lt
 have hll := hl.len
 refine Y.calls 9 Try.func67 rfl rfl ?_
 intro ac F0
 have F : Fr ac 9 [(0, .slice la m lc), (1, .func (.func 68) #[] #[Vp bc, Vp bt])] := F0.sub _
 clear F0
 refine Y.seq ?_
 refine Y.lit (by kernel_rfl) ?_
 refine Y.pval F (X.w0 rfl) rfl (X.assign rfl (X.kc (.bool false) rfl)) ?_
 clear F ac
 intro ac F
 refine Y.nil ?_
 replace F : Fr ac 9 [(0, .slice la m lc), (1, .func (.func 68) #[] #[Vp bc, Vp bt]), (4, .bool false)] := F.sub _
 refine X.thenN ?_
 refine Y.seq ?_
 refine Y.lit (by kernel_rfl) ?_
 refine Y.pval F (X.w0 rfl) rfl (X.move rfl (F.e 0 rfl)) ?_
 clear F ac
 intro ac F
 refine Y.pval F (X.w0 rfl) rfl (X.move rfl (F.e 1 rfl)) ?_
 clear F ac
 intro ac F
 refine Y.pcall F (X.w0 rfl) rfl (X.enter (F := 83) rfl (X.kc (.func (.func 83) #[] #[]) rfl) (X.a2 (F.e 5 rfl) (F.e 6 rfl)) (enters_of Try.func83 (by kernel_rfl) rfl _)) (indexF_any bc bt na la n nc m lc gr hold t nd l w ((RCells.cons (hC.at 0 rfl) (RCells.cons (hC.at 1 rfl) (RCells.cons (hC.at 2 rfl) (RCells.cons (hC.at 3 rfl) (RCells.nil _)))))) hnd hc ht hl) ?_
 clear F ac
 rintro e w3 ⟨z, rfl, hz, g⟩
 refine ⟨_, rfl, ?_⟩
 intro ac F
 replace G := G.trans g
 replace hC := hC.gr g
 replace hnd := hnd.gr g
 replace hl := hl.gr g
 clear g
 refine Y.pval F (X.w0 rfl) rfl (X.binop rfl (F.e 7 rfl) (X.kc (Vi 0) rfl) (X.geqI Try.underlying3 rfl)) ?_
 clear F ac
 intro ac F
 refine Y.pval F (X.w0 rfl) rfl (X.assign rfl (F.e 8 rfl)) ?_
 clear F ac
 intro ac F
 refine Y.nil ?_
 replace F : Fr ac 9 [(0, .slice la m lc), (1, .func (.func 68) #[] #[Vp bc, Vp bt]), (4, .bool (decide ((0 : Int) ≤ z)))] := F.sub _
 refine X.thenN ?_
 refine Y.ret ?_
 exact Y.ret0 (v := .bool (decide ((0 : Int) ≤ z))) F (Y.rs1 F rfl (by kernel_rfl)) ⟨by rw [← hz], G⟩
end
section
open Go.RowKit

theorem playE_bad1 {gr hold t : Int} {nd l : List (List Int)} {m : Nat} (hl : l.length = m) (hE : ticksE gr hold nd t = 0) (h : 200 < m) : playE gr hold nd t l = 91 := by
  unfold playE nudgeB
  rw [if_neg (by rw [hE]; simp), hl]
  simp [show ¬ m ≤ 200 by omega]
theorem playE_bad2 {gr hold t : Int} {nd l : List (List Int)} {m : Nat} (hl : l.length = m) (hE : ticksE gr hold nd t = 0) (h : allN (fun i => rightB gr nd t (l[i]?.getD [])) m = false) : playE gr hold nd t l = 91 := by
  unfold playE nudgeB
  rw [if_neg (by rw [hE]; simp), hl, h]
  simp
theorem playE_good {gr hold t : Int} {nd l : List (List Int)} {m n : Nat} (hn : nd.length = n) (hl : l.length = m) (hE : ticksE gr hold nd t = 0) (hm : m ≤ 200) (h : allN (fun i => rightB gr nd t (l[i]?.getD [])) m = true) : playE gr hold nd t l = 0 := by
  unfold playE nudgeB
  rw [if_neg (by rw [hE]; simp), hl, h]
  simp [hm]
theorem s9p {W : World} {bp : Nat} {gr hold : Int} {na la pa : Option Addr} {n nc m lc cap : Nat} (h : OwnP W bp 5 (PVal gr hold na n nc la m lc (.slice pa n cap))) : RCells W (PlC bp 0 gr hold na la pa n nc m lc cap) := by
  intro p hp
  simp only [PlC, List.mem_cons, List.not_mem_nil, or_false] at hp
  rcases hp with rfl | rfl | rfl | rfl | rfl
  · exact h.cell (k := 0) (by decide)
  · exact h.cell (k := 1) (by decide)
  · exact h.cell (k := 2) (by decide)
  · exact h.cell (k := 3) (by decide)
  · exact h.cell (k := 4) (by decide)

set_option maxRecDepth 100000 in
set_option maxHeartbeats 1000000 in
theorem begin_any (na la : Option Addr) (n nc m lc : Nat) (gr hold t : Int) (nd l : List (List Int)) (w : World) (hnd : StAt w 5 na n nd) (hl : StAt w 4 la m l) :
  Calls Try.prog 44 #[.agg #[Vi gr, Vi hold, .slice na n nc], Vi t, .slice la m lc] w fun e w' => (playE gr hold nd t l ≠ 0 → e = .returned (.tuple #[.pointer none, Vi (playE gr hold nd t l)])) ∧ Gr w w' ∧ (playE gr hold nd t l = 0 → ∃ bp, e = .returned (.tuple #[Vp bp, Vi 0]) ∧ Begun w w' gr hold na la n nc m lc l nd bp) := by
 have G := Gr.refl w
 have hnd0 := hnd
 have hl0 := hl
 have hlm := hl.lt
 have hln := hnd.lt
 refine Y.calls 52 Try.func44 rfl rfl ?_
 intro ac F0
 have F : Fr ac 52 [(0, .agg #[Vi gr, Vi hold, .slice na n nc]), (1, Vi t), (2, .slice la m lc)] := F0.sub _
 clear F0
 refine Y.seq ?_
 refine Y.lit (by kernel_rfl) ?_
 refine Y.pval F (X.w0 rfl) rfl (X.box rfl (F.e 0 rfl) X.bx) ?_
 clear F ac
 intro ac F
 have g := Gr.alloc w (.cells #[Vi gr, Vi hold, .slice na n nc] 24)
 have hb := heap_alloc_new w (.cells #[Vi gr, Vi hold, .slice na n nc] 24)
 have hbl : w.heap.size < (w.alloc (.cells #[Vi gr, Vi hold, .slice na n nc] 24)).heap.size := by simp
 have hC2 : RCells (w.alloc (.cells #[Vi gr, Vi hold, .slice na n nc] 24)) [(Ad w.heap.size 0, Vi gr), (Ad w.heap.size 1, Vi hold), (Ad w.heap.size 2, .slice na n nc)] := (RCells.nil w).box (b := w.heap.size) #[Vi gr, Vi hold, .slice na n nc] 24 rfl
 generalize w.alloc (.cells #[Vi gr, Vi hold, .slice na n nc] 24) = w3 at *
 replace G := G.trans g
 have hC := hC2
 clear hC2
 replace hnd := hnd.gr g
 replace hl := hl.gr g
 clear g hb hbl
 refine Y.pval F (X.w0 rfl) rfl (X.box rfl (F.e 1 rfl) (Y.bx1 rfl)) ?_
 clear F ac
 intro ac F
 have hq0 : w.heap.size < w3.heap.size := lt_cell (hC.at 0 rfl)
 have g := Gr.alloc w3 (.cells #[Vi t] 3)
 have hb := heap_alloc_new w3 (.cells #[Vi t] 3)
 have hbl : w3.heap.size < (w3.alloc (.cells #[Vi t] 3)).heap.size := by simp
 have hC2 : RCells (w3.alloc (.cells #[Vi t] 3)) [(Ad w.heap.size 0, Vi gr), (Ad w.heap.size 1, Vi hold), (Ad w.heap.size 2, .slice na n nc), (Ad w3.heap.size 0, Vi t)] := hC.box (b := w3.heap.size) #[Vi t] 3 rfl
 generalize w3.alloc (.cells #[Vi t] 3) = w4 at *
 replace G := G.trans g
 replace hC := hC2
 clear hC2
 replace hnd := hnd.gr g
 replace hl := hl.gr g
 have hT := ownP_zero (val := NV (startS nd)) hb
 clear g hb hbl
 refine Y.pval F (X.w0 rfl) rfl (X.assign rfl (X.kc (.pointer none) rfl)) ?_
 clear F ac
 intro ac F
 refine Y.pval F (X.w0 rfl) rfl (X.assign rfl (X.kc (Vi 0) rfl)) ?_
 clear F ac
 intro ac F
 refine Y.nil ?_
 replace F : Fr ac 52 [(0, .agg #[Vi gr, Vi hold, .slice na n nc]), (1, Vi t), (2, .slice la m lc), (3, Vp w.heap.size), (4, Vp w3.heap.size), (6, .pointer none), (7, Vi 0)] := F.sub _
 refine X.thenN ?_
 refine Y.seq ?_
 refine Y.seq ?_
 refine Y.lit (by kernel_rfl) ?_
 refine Y.pval F (X.w0 rfl) rfl (X.load rfl (F.e 3 rfl) (X.ldN (Try.agg24 _) (Try.siz24 _) (Y.atz (⟨w.heap.size, 0, none⟩) (Y.AtFrom.cons (hC.at 0 rfl) (Y.AtFrom.cons (hC.at 1 rfl) (Y.AtFrom.cons (hC.at 2 rfl) (Y.AtFrom.nil _ _ _))))))) ?_
 clear F ac
 intro ac F
 refine Y.pval F (X.w0 rfl) rfl (X.load rfl (F.e 4 rfl) (X.ld1 (Try.agg3 _) (hC.at 3 rfl))) ?_
 clear F ac
 intro ac F
 refine Y.pcall F (X.w0 rfl) rfl (X.enter (F := 50) rfl (X.kc (.func (.func 50) #[] #[]) rfl) (X.a2 (F.e 12 rfl) (F.e 13 rfl)) (enters_of Try.func50 (by kernel_rfl) rfl _)) (ticks_any na n nc gr hold t nd w4 hnd) ?_
 clear F ac
 rintro e w5 ⟨rfl, g⟩
 refine ⟨_, rfl, ?_⟩
 intro ac F
 replace G := G.trans g
 replace hC := hC.gr g
 replace hnd := hnd.gr g
 replace hl := hl.gr g
 replace hT := hT.gr g
 clear g
 refine Y.pval F (X.w0 rfl) rfl (X.assign rfl (F.e 14 rfl)) ?_
 clear F ac
 intro ac F
 refine Y.nil ?_
 replace F : Fr ac 52 [(0, .agg #[Vi gr, Vi hold, .slice na n nc]), (1, Vi t), (2, .slice la m lc), (3, Vp w.heap.size), (4, Vp w3.heap.size), (6, .pointer none), (7, Vi 0), (8, Vi (ticksE gr hold nd t))] := F.sub _
 refine X.thenN ?_
 refine Y.seq ?_
 refine Y.lit (by kernel_rfl) ?_
 refine Y.pval F (X.w0 rfl) rfl (X.move rfl (F.e 8 rfl)) ?_
 clear F ac
 intro ac F
 refine Y.pval F (X.w0 rfl) rfl (X.binop rfl (F.e 15 rfl) (X.kc (Vi 0) rfl) (X.neqI Try.underlying26 rfl)) ?_
 clear F ac
 intro ac F
 refine Y.nil ?_
 replace F : Fr ac 52 [(0, .agg #[Vi gr, Vi hold, .slice na n nc]), (1, Vi t), (2, .slice la m lc), (3, Vp w.heap.size), (4, Vp w3.heap.size), (6, .pointer none), (7, Vi 0), (8, Vi (ticksE gr hold nd t)), (16, .bool ((ticksE gr hold nd t : Int) != 0))] := F.sub _
 refine X.thenN ?_
 cases h6 : ((ticksE gr hold nd t : Int) != 0) with
 | false =>
  try rw [h6] at F
  have h6p : (ticksE gr hold nd t : Int) = 0 := by simpa using h6
  have hE : ticksE gr hold nd t = 0 := by simpa using h6p
  have hok := (ticksE_ok hE).1
  have ht := (ticksE_ok hE).2
  have h16 : n ≤ 16 := by have := hok.n16; rw [hnd.len] at this; exact this
  refine Y.condF (F.e 16 rfl) ?_
  refine Y.skip ?_
  refine X.thenN ?_
  refine Y.seq ?_
  refine Y.seq ?_
  refine Y.lit (by kernel_rfl) ?_
  refine Y.pval F (X.w0 rfl) rfl (X.move rfl (F.e 2 rfl)) ?_
  clear F ac
  intro ac F
  refine Y.pval F (X.w0 rfl) rfl (X.len1 Try.underlying25 rfl (F.e 18 rfl)) ?_
  clear F ac
  intro ac F
  refine Y.pval F (X.w0 rfl) rfl (X.binop rfl (F.e 19 rfl) (X.kc (Vi 200) rfl) (X.gtrI Try.underlying3 rfl)) ?_
  clear F ac
  intro ac F
  refine Y.pval F (X.w0 rfl) rfl (X.move rfl (F.e 20 rfl)) ?_
  clear F ac
  intro ac F
  cases h7 : decide ((200 : Int) < m) with
  | false =>
   try rw [h7] at F
   have h7p : ¬ ((200 : Int) < m) := of_decide_eq_false h7
   refine Y.pval F (X.w1 rfl (F.yl (j := 3) (d := 21) (b := false) rfl (by kernel_rfl))) rfl (X.move rfl (F.e 2 rfl)) ?_
   clear F ac
   intro ac F
   refine Y.pval F (X.w1 rfl (F.yl (j := 3) (d := 21) (b := false) rfl (by kernel_rfl))) rfl (Y.fnc rfl (Y.m2 (F.e 3 rfl) (F.e 4 rfl))) ?_
   clear F ac
   intro ac F
   refine Y.pcall F (X.w1 rfl (F.yl (j := 3) (d := 21) (b := false) rfl (by kernel_rfl))) rfl (X.enter (F := 67) rfl (X.kc (.func (.func 67) #[] #[]) rfl) (X.a2 (F.e 22 rfl) (F.e 23 rfl)) (enters_of Try.func67 (by kernel_rfl) rfl _)) (contF_any (w.heap.size) (w3.heap.size) na la n nc m lc gr hold t nd l w5 ((RCells.cons (hC.at 0 rfl) (RCells.cons (hC.at 1 rfl) (RCells.cons (hC.at 2 rfl) (RCells.cons (hC.at 3 rfl) (RCells.nil _)))))) hnd hok ⟨ht.1, ht.2⟩ hl) ?_
   clear F ac
   rintro e w8 ⟨rfl, g⟩
   refine ⟨_, rfl, ?_⟩
   intro ac F
   replace G := G.trans g
   replace hC := hC.gr g
   replace hnd := hnd.gr g
   replace hl := hl.gr g
   replace hT := hT.gr g
   clear g
   refine Y.pval F (X.w0 rfl) rfl (X.pickF rfl (F.e 21 rfl) (F.e 24 rfl)) ?_
   clear F ac
   intro ac F
   refine Y.nil ?_
   replace F : Fr ac 52 [(0, .agg #[Vi gr, Vi hold, .slice na n nc]), (1, Vi t), (2, .slice la m lc), (3, Vp w.heap.size), (4, Vp w3.heap.size), (6, .pointer none), (7, Vi 0), (8, Vi (ticksE gr hold nd t)), (16, .bool false), (25, .bool (!(allN (fun i => rightB gr nd t (l[i]?.getD [])) m)))] := F.sub _
   refine X.thenN ?_
   cases h9 : allN (fun i => rightB gr nd t (l[i]?.getD [])) m with
   | false =>
    try rw [h9] at F
    refine Y.condT (F.e 25 rfl) ?_
    refine Y.seq ?_
    refine Y.lit (by kernel_rfl) ?_
    refine Y.pval F (X.w0 rfl) rfl (X.assign rfl (X.kc (.pointer none) rfl)) ?_
    clear F ac
    intro ac F
    refine Y.pval F (X.w0 rfl) rfl (X.assign rfl (X.kc (Vi 91) rfl)) ?_
    clear F ac
    intro ac F
    refine Y.nil ?_
    replace F : Fr ac 52 [(0, .agg #[Vi gr, Vi hold, .slice na n nc]), (1, Vi t), (2, .slice la m lc), (3, Vp w.heap.size), (4, Vp w3.heap.size), (6, .pointer none), (7, Vi 91), (8, Vi (ticksE gr hold nd t)), (16, .bool false), (25, .bool true)] := F.sub _
    refine X.thenN ?_
    refine Y.ret ?_
    refine X.thenR ?_
    exact Y.ret0 (v := .tuple #[.pointer none, Vi 91]) F (Y.rs2 F rfl (by kernel_rfl) (by kernel_rfl)) ⟨fun _ => by rw [(playE_bad2 hl.len hE (by simpa using h9))], G, fun h => by rw [(playE_bad2 hl.len hE (by simpa using h9))] at h; cases h⟩
   | true =>
    try rw [h9] at F
    refine Y.condF (F.e 25 rfl) ?_
    refine Y.skip ?_
    refine X.thenN ?_
    refine Y.seq ?_
    refine Y.lit (by kernel_rfl) ?_
    refine Y.pval F (X.w0 rfl) rfl (X.load rfl (F.e 3 rfl) (X.ldN (Try.agg24 _) (Try.siz24 _) (Y.atz (⟨w.heap.size, 0, none⟩) (Y.AtFrom.cons (hC.at 0 rfl) (Y.AtFrom.cons (hC.at 1 rfl) (Y.AtFrom.cons (hC.at 2 rfl) (Y.AtFrom.nil _ _ _))))))) ?_
    clear F ac
    intro ac F
    refine Y.pval F (X.w0 rfl) rfl (X.move rfl (F.e 2 rfl)) ?_
    clear F ac
    intro ac F
    refine Y.pval F (X.w0 rfl) rfl (Y.bd rfl (X.b2 (F.e 26 rfl) (F.e 27 rfl)) (Try.bd101 _ _ _ _ _ _ _ _ _)) ?_
    clear F ac
    intro ac F
    refine Y.pval F (X.w0 rfl) rfl (X.box rfl (F.e 28 rfl) X.bx) ?_
    clear F ac
    intro ac F
    have hq1 : w3.heap.size < w8.heap.size := hT.lt
    have g := Gr.alloc w8 (.cells #[Vi gr, Vi hold, .slice na n nc, .slice la m lc, .slice none 0 0] 101)
    have hb := heap_alloc_new w8 (.cells #[Vi gr, Vi hold, .slice na n nc, .slice la m lc, .slice none 0 0] 101)
    have hbl : w8.heap.size < (w8.alloc (.cells #[Vi gr, Vi hold, .slice na n nc, .slice la m lc, .slice none 0 0] 101)).heap.size := by simp
    generalize w8.alloc (.cells #[Vi gr, Vi hold, .slice na n nc, .slice la m lc, .slice none 0 0] 101) = w10 at *
    replace G := G.trans g
    replace hC := hC.gr g
    replace hnd := hnd.gr g
    replace hl := hl.gr g
    replace hT := hT.gr g
    have hB := pval_new hb
    clear g hb hbl
    refine Y.pval F (X.w0 rfl) rfl (X.assign rfl (F.e 29 rfl)) ?_
    clear F ac
    intro ac F
    refine Y.nil ?_
    replace F : Fr ac 52 [(0, .agg #[Vi gr, Vi hold, .slice na n nc]), (1, Vi t), (2, .slice la m lc), (3, Vp w.heap.size), (4, Vp w3.heap.size), (6, .pointer none), (7, Vi 0), (8, Vi (ticksE gr hold nd t)), (9, Vp w8.heap.size), (16, .bool false), (25, .bool false)] := F.sub _
    refine X.thenN ?_
    refine Y.seq ?_
    refine Y.seq ?_
    refine Y.lit (by kernel_rfl) ?_
    refine Y.pval F (X.w0 rfl) rfl (X.field rfl (F.e 3 rfl) (X.fld Try.underlying24 rfl (Try.siz22 _) rfl rfl)) ?_
    clear F ac
    intro ac F
    refine Y.pval F (X.w0 rfl) rfl (X.load rfl (F.e 30 rfl) (X.ld1 (Try.agg22 _) (hC.at 2 rfl))) ?_
    clear F ac
    intro ac F
    refine Y.pval F (X.w0 rfl) rfl (X.len1 Try.underlying22 rfl (F.e 31 rfl)) ?_
    clear F ac
    intro ac F
    refine Y.pval F (X.w0 rfl) rfl (X.move rfl (X.kc (Vi 0) rfl)) ?_
    clear F ac
    intro ac F
    refine Y.nil ?_
    replace F : Fr ac 52 [(0, .agg #[Vi gr, Vi hold, .slice na n nc]), (1, Vi t), (2, .slice la m lc), (3, Vp w.heap.size), (4, Vp w3.heap.size), (6, .pointer none), (7, Vi 0), (8, Vi (ticksE gr hold nd t)), (9, Vp w8.heap.size), (16, .bool false), (25, .bool false), (31, .slice na n nc), (32, Vi n), (33, Vi 0)] := F.sub _
    refine X.thenN ?_
    refine Y.block ?_
    have hbp1 : w8.heap.size < w10.heap.size := hB.lt
    refine Y.loop (fun me_ ac wr => ∃ (i : Nat) (v : Value), me_ = n - i ∧ i ≤ n ∧ Only (fun b => b = w8.heap.size) w10 wr ∧ OwnP wr w8.heap.size 5 (PVal gr hold na n nc la m lc v) ∧ OwnR wr w10.heap.size 104 17 v i (flatN nd i) ∧ Fr ac 52 [(0, .agg #[Vi gr, Vi hold, .slice na n nc]), (1, Vi t), (2, .slice la m lc), (3, Vp w.heap.size), (4, Vp w3.heap.size), (6, .pointer none), (7, Vi 0), (8, Vi (ticksE gr hold nd t)), (9, Vp w8.heap.size), (16, .bool false), (25, .bool false), (31, .slice na n nc), (32, Vi n), (33, Vi i)]) _ ⟨0, _, rfl, Nat.zero_le _, Only.refl _ _, hB, OwnR.nil _ _ _ _, F.sub _⟩ ?_
    have hCs := hC
    have Gs := G
    have hTs := hT
    clear F hC G hB hT hnd hl ac
    intro me_ ac w11 hI_
    obtain ⟨i, v, rfl, hi, hI, hB, hO, F⟩ := hI_
    have G := Y.Only.up Gs hI (by omega)
    have hnd := hnd0.gr G
    have hl := hl0.gr G
    have hT := hTs.only hI (by show ¬ _ = _; omega)
    have hC := (hCs.kc hI 0 rfl (hCs.kc hI 1 rfl (hCs.kc hI 2 rfl (hCs.kc hI 3 rfl (RCells.nil _)))))
    refine Y.seq ?_
    refine Y.lit (by kernel_rfl) ?_
    refine Y.pval F (X.w0 rfl) rfl (X.binop rfl (F.e 33 rfl) (F.e 32 rfl) (X.lssI Try.underlying3 rfl)) ?_
    clear F ac
    intro ac F
    refine Y.nil ?_
    replace F : Fr ac 52 [(0, .agg #[Vi gr, Vi hold, .slice na n nc]), (1, Vi t), (2, .slice la m lc), (3, Vp w.heap.size), (4, Vp w3.heap.size), (6, .pointer none), (7, Vi 0), (8, Vi (ticksE gr hold nd t)), (9, Vp w8.heap.size), (16, .bool false), (25, .bool false), (31, .slice na n nc), (32, Vi n), (33, Vi i), (34, .bool (decide ((i : Int) < n)))] := F.sub _
    refine X.thenN ?_
    refine Y.seq ?_
    cases h12 : decide ((i : Int) < n) with
    | false =>
     try rw [h12] at F
     have h12p : ¬ ((i : Int) < n) := of_decide_eq_false h12
     obtain rfl : n = i := by omega
     refine Y.condF (F.e 34 rfl) ?_
     refine Y.exit ?_
     refine X.thenX ?_
     refine X.thenX ?_
     refine X.blockX ?_
     refine X.thenN ?_
     refine Y.seq ?_
     refine Y.lit (by kernel_rfl) ?_
     refine Y.pval F (X.w0 rfl) rfl (X.move rfl (F.e 9 rfl)) ?_
     clear F ac
     intro ac F
     refine Y.pval F (X.w0 rfl) rfl (X.assign rfl (F.e 51 rfl)) ?_
     clear F ac
     intro ac F
     refine Y.pval F (X.w0 rfl) rfl (X.assign rfl (X.kc (Vi 0) rfl)) ?_
     clear F ac
     intro ac F
     refine Y.nil ?_
     replace F : Fr ac 52 [(0, .agg #[Vi gr, Vi hold, .slice na n nc]), (1, Vi t), (2, .slice la m lc), (3, Vp w.heap.size), (4, Vp w3.heap.size), (6, Vp w8.heap.size), (7, Vi 0), (8, Vi (ticksE gr hold nd t)), (9, Vp w8.heap.size), (16, .bool false), (25, .bool false), (31, .slice na n nc), (32, Vi n), (33, Vi n), (34, .bool false)] := F.sub _
     refine X.thenN ?_
     refine Y.ret ?_
     refine Y.ret0 (v := .tuple #[Vp w8.heap.size, Vi 0]) F (Y.rs2 F rfl (by kernel_rfl) (by kernel_rfl)) ⟨fun h => absurd (playE_good hnd.len hl.len hE (by omega) (by simpa using h9)) h, G, fun _ => ⟨_, rfl, ?_⟩⟩
     rcases hO.shape with ⟨rfl, h0⟩ | ⟨g2, c2, rfl, hg2, hg3⟩
     ·subst h0
      exact ⟨w3.heap.size, none, 0, ⟨G, s9p hB, hl0, by omega, by omega, by omega, fun h => by omega⟩, hT⟩
     ·exact ⟨g2, _, c2, ⟨G, s9p hB, hl0, by omega, by omega, by omega, fun _ => rfl⟩, hO.ownP (fun j u h => flatN_at h)⟩
    | true =>
     try rw [h12] at F
     have h12p : ((i : Int) < n) := of_decide_eq_true h12
     refine Y.condT (F.e 34 rfl) ?_
     refine Y.skip ?_
     refine X.thenN ?_
     refine Y.seq ?_
     refine Y.block ?_
     refine Y.seq ?_
     refine Y.lit (by kernel_rfl) ?_
     obtain ⟨pd13, pe13, -, -, pc13⟩ := hnd.at (j := i) (by omega)
     subst pe13
     replace hC : RCells w11 [(Ad w.heap.size 0, Vi gr), (Ad w.heap.size 1, Vi hold), (Ad w.heap.size 2, .slice (some pd13) n nc), (Ad w3.heap.size 0, Vi t), (pd13.add (i * 5), Vi (cv nd i 0)), (⟨(pd13.add (i * 5)).block, (pd13.add (i * 5)).off + 1, none⟩, Vi (cv nd i 1)), (⟨(pd13.add (i * 5)).block, (pd13.add (i * 5)).off + 2, none⟩, Vi (cv nd i 2)), (⟨(pd13.add (i * 5)).block, (pd13.add (i * 5)).off + 3, none⟩, Vi (cv nd i 3)), (⟨(pd13.add (i * 5)).block, (pd13.add (i * 5)).off + 4, none⟩, Vi (cv nd i 4))] := hC.append ((RCells.cons (pc13 0 (by decide)) (RCells.cons (pc13 1 (by decide)) (RCells.cons (pc13 2 (by decide)) (RCells.cons (pc13 3 (by decide)) (RCells.cons (pc13 4 (by decide)) (RCells.nil _)))))))
     clear pc13
     refine Y.pval F (X.w0 rfl) rfl (X.index rfl (F.e 31 rfl) (F.e 33 rfl) (X.idx (k := i) Try.underlying22 (Try.siz31 _) (by omega) (by omega) rfl)) ?_
     clear F ac
     intro ac F
     refine Y.pval F (X.w0 rfl) rfl (X.load rfl (F.e 35 rfl) (X.ldN (Try.agg31 _) (Try.siz31 _) (Y.atz (pd13.add (i * 5)) (Y.AtFrom.cons (hC.at 4 rfl) (Y.AtFrom.cons (hC.at 5 rfl) (Y.AtFrom.cons (hC.at 6 rfl) (Y.AtFrom.cons (hC.at 7 rfl) (Y.AtFrom.cons (hC.at 8 rfl) (Y.AtFrom.nil _ _ _))))))))) ?_
     clear F ac
     intro ac F
     refine Y.pval F (X.w0 rfl) rfl (Y.al rfl (Try.new31 _)) ?_
     clear F ac
     intro ac F
     refine Y.punit F (X.w0 rfl) rfl (X.store rfl (F.e 11 rfl) (F.e 36 rfl) (Y.stNew [Vi (cv nd i 0), Vi (cv nd i 1), Vi (cv nd i 2), Vi (cv nd i 3), Vi (cv nd i 4)] [Vi 0, Vi 0, Vi 0, Vi 0, Vi 0] (Try.siz31 _) rfl rfl)) ?_
     clear F ac
     intro ac F
     have g := Gr.alloc w11 (.cells #[Vi (cv nd i 0), Vi (cv nd i 1), Vi (cv nd i 2), Vi (cv nd i 3), Vi (cv nd i 4)] 31)
     have hb := heap_alloc_new w11 (.cells #[Vi (cv nd i 0), Vi (cv nd i 1), Vi (cv nd i 2), Vi (cv nd i 3), Vi (cv nd i 4)] 31)
     have hbl : w11.heap.size < (w11.alloc (.cells #[Vi (cv nd i 0), Vi (cv nd i 1), Vi (cv nd i 2), Vi (cv nd i 3), Vi (cv nd i 4)] 31)).heap.size := by simp
     have hC2 : RCells (w11.alloc (.cells #[Vi (cv nd i 0), Vi (cv nd i 1), Vi (cv nd i 2), Vi (cv nd i 3), Vi (cv nd i 4)] 31)) [(Ad w.heap.size 0, Vi gr), (Ad w.heap.size 1, Vi hold), (Ad w.heap.size 2, .slice (some pd13) n nc), (Ad w3.heap.size 0, Vi t), (pd13.add (i * 5), Vi (cv nd i 0)), (⟨(pd13.add (i * 5)).block, (pd13.add (i * 5)).off + 1, none⟩, Vi (cv nd i 1)), (⟨(pd13.add (i * 5)).block, (pd13.add (i * 5)).off + 2, none⟩, Vi (cv nd i 2)), (⟨(pd13.add (i * 5)).block, (pd13.add (i * 5)).off + 3, none⟩, Vi (cv nd i 3)), (⟨(pd13.add (i * 5)).block, (pd13.add (i * 5)).off + 4, none⟩, Vi (cv nd i 4)), (Ad w11.heap.size 0, Vi (cv nd i 0)), (Ad w11.heap.size 1, Vi (cv nd i 1)), (Ad w11.heap.size 2, Vi (cv nd i 2)), (Ad w11.heap.size 3, Vi (cv nd i 3)), (Ad w11.heap.size 4, Vi (cv nd i 4))] := hC.box (b := w11.heap.size) #[Vi (cv nd i 0), Vi (cv nd i 1), Vi (cv nd i 2), Vi (cv nd i 3), Vi (cv nd i 4)] 31 rfl
     generalize w11.alloc (.cells #[Vi (cv nd i 0), Vi (cv nd i 1), Vi (cv nd i 2), Vi (cv nd i 3), Vi (cv nd i 4)] 31) = w14 at *
     replace G := G.trans g
     replace hC := hC2
     clear hC2
     replace hI := hI.thenGr g
     replace hnd := hnd.gr g
     replace hl := hl.gr g
     replace hB := hB.gr g
     replace hT := hT.gr g
     replace hO := hO.gr g
     clear g hb hbl
     refine Y.nil ?_
     replace F : Fr ac 52 [(0, .agg #[Vi gr, Vi hold, .slice (some pd13) n nc]), (1, Vi t), (2, .slice la m lc), (3, Vp w.heap.size), (4, Vp w3.heap.size), (6, .pointer none), (7, Vi 0), (8, Vi (ticksE gr hold nd t)), (9, Vp w8.heap.size), (11, Vp w11.heap.size), (16, .bool false), (25, .bool false), (31, .slice (some pd13) n nc), (32, Vi n), (33, Vi i), (34, .bool true)] := F.sub _
     refine X.thenN ?_
     replace hC : RCells w14 [(Ad w.heap.size 0, Vi gr), (Ad w.heap.size 1, Vi hold), (Ad w.heap.size 2, .slice (some pd13) n nc), (Ad w3.heap.size 0, Vi t), (pd13.add (i * 5), Vi (cv nd i 0)), (⟨(pd13.add (i * 5)).block, (pd13.add (i * 5)).off + 1, none⟩, Vi (cv nd i 1)), (⟨(pd13.add (i * 5)).block, (pd13.add (i * 5)).off + 2, none⟩, Vi (cv nd i 2)), (⟨(pd13.add (i * 5)).block, (pd13.add (i * 5)).off + 3, none⟩, Vi (cv nd i 3)), (⟨(pd13.add (i * 5)).block, (pd13.add (i * 5)).off + 4, none⟩, Vi (cv nd i 4)), (Ad w11.heap.size 0, Vi (cv nd i 0)), (Ad w11.heap.size 1, Vi (cv nd i 1)), (Ad w11.heap.size 2, Vi (cv nd i 2)), (Ad w11.heap.size 3, Vi (cv nd i 3)), (Ad w11.heap.size 4, Vi (cv nd i 4)), (Ad w8.heap.size 4, v)] := hC.append ((RCells.cons (hB.cell (k := 4) (by decide)) (RCells.nil _)))
     have hsz0 : w10.heap.size ≤ w14.heap.size := hI.size
     refine region_xi F [some (Vp w8.heap.size), some (Vp w8.heap.size), some (Vp w8.heap.size), some (.pointer (some ⟨w8.heap.size, 4, none⟩)), some (v), some (.agg #[Vi (cv nd i 0), Vi (cv nd i 1), Vi (cv nd i 2), Vi (cv nd i 3), Vi (cv nd i 4)]), some (.pointer (some ⟨w11.heap.size, 3, none⟩)), some (Vi (cv nd i 3)), some (.agg #[Vi (cv nd i 0), Vi (cv nd i 1), Vi (cv nd i 2), Vi (cv nd i 3), Vi (cv nd i 4), Vi 0, Vi 0, Vi 0, Vi 0, Vi 0, Vi 0, Vi 0, Vi 0, Vi 0, Vi 0, Vi (cv nd i 3), .bool false]), none, none, some (Vp w8.heap.size), some (.pointer (some ⟨w8.heap.size, 4, none⟩)), none] (RAp w14 9 10 13 (fun v W => ∃ g9, v = .slice (some ⟨g9, 0, none⟩) 1 1 ∧ W.heap[g9]? = some (.cells (row17 nd i).toArray 104)) (fun x W => ∃ g2 c2, x = .slice (some ⟨g2, 0, none⟩) (i + 1) c2 ∧ OwnR W w10.heap.size 104 17 (.slice (some ⟨g2, 0, none⟩) (i + 1) c2) (i + 1) (flatN nd i ++ row17 nd i) ∧ Only (fun b => v.ownBlock = some b) w14 W) (fun W => ∃ g2 c2, OwnR W w10.heap.size 104 17 (.slice (some ⟨g2, 0, none⟩) (i + 1) c2) (i + 1) (flatN nd i ++ row17 nd i) ∧ OwnP W w8.heap.size 5 (PVal gr hold (some pd13) n nc la m lc (.slice (some ⟨g2, 0, none⟩) (i + 1) c2)) ∧ Only (fun b => b = w8.heap.size) w10 W)) rfl ⟨by kernel_rfl, of_decide_eq_true (by kernel_rfl), by kernel_rfl, by kernel_rfl, by kernel_rfl⟩ (fun _ => ⟨RAp.start (Gr.refl _), RAp.start (Gr.drew _)⟩) ⟨?_, ?_, ?_, ?_, ?_, ?_, ?_, ?_, ?_, ?_, ?_, ?_, ?_, ?_, trivial⟩ ?_
     ·intro ac done u W Sx hR
      exact X.val (X.w0 rfl) rfl (X.move rfl (Sx.ev 9 (Vp w8.heap.size))) (hR.quiet (by decide))
     ·intro ac done u W Sx hR
      exact X.val (X.w0 rfl) rfl (X.move rfl (Sx.ev 9 (Vp w8.heap.size))) (hR.quiet (by decide))
     ·intro ac done u W Sx hR
      exact X.val (X.w0 rfl) rfl (Y.nilC rfl (Sx.ev 38 (Vp w8.heap.size))) (hR.quiet (by decide))
     ·intro ac done u W Sx hR
      exact X.val (X.w0 rfl) rfl (X.field rfl (Sx.ev 39 (Vp w8.heap.size)) (X.fld Try.underlying101 rfl (Try.siz99 _) rfl rfl)) (hR.quiet (by decide))
     ·intro ac done u W Sx hR
      have g : Gr w14 W := hR.g (Sx.no 10 (by kernel_rfl)) (Sx.no 13 (by kernel_rfl))
      exact X.val (X.w0 rfl) rfl (X.load rfl (Sx.ev 40 (.pointer (some ⟨w8.heap.size, 4, none⟩))) (X.ld1 (Try.agg99 _) ((hC.gr g).at 14 rfl))) (hR.quiet (by decide))
     ·intro ac done u W Sx hR
      have g : Gr w14 W := hR.g (Sx.no 10 (by kernel_rfl)) (Sx.no 13 (by kernel_rfl))
      exact X.val (X.w0 rfl) rfl (X.load rfl (Sx.ev 11 (Vp w11.heap.size)) (X.ldN (Try.agg31 _) (Try.siz31 _) (Y.atz (⟨w11.heap.size, 0, none⟩) (Y.AtFrom.cons ((hC.gr g).at 9 rfl) (Y.AtFrom.cons ((hC.gr g).at 10 rfl) (Y.AtFrom.cons ((hC.gr g).at 11 rfl) (Y.AtFrom.cons ((hC.gr g).at 12 rfl) (Y.AtFrom.cons ((hC.gr g).at 13 rfl) (Y.AtFrom.nil _ _ _))))))))) (hR.quiet (by decide))
     ·intro ac done u W Sx hR
      exact X.val (X.w0 rfl) rfl (X.field rfl (Sx.ev 11 (Vp w11.heap.size)) (X.fld Try.underlying31 rfl (Try.siz3 _) rfl rfl)) (hR.quiet (by decide))
     ·intro ac done u W Sx hR
      have g : Gr w14 W := hR.g (Sx.no 10 (by kernel_rfl)) (Sx.no 13 (by kernel_rfl))
      exact X.val (X.w0 rfl) rfl (X.load rfl (Sx.ev 43 (.pointer (some ⟨w11.heap.size, 3, none⟩))) (X.ld1 (Try.agg3 _) ((hC.gr g).at 12 rfl))) (hR.quiet (by decide))
     ·intro ac done u W Sx hR
      exact X.val (X.w0 rfl) rfl (Y.bd rfl (Y.b03 (Sx.ev 42 (.agg #[Vi (cv nd i 0), Vi (cv nd i 1), Vi (cv nd i 2), Vi (cv nd i 3), Vi (cv nd i 4)])) (Sx.ev 44 (Vi (cv nd i 3)))) (Try.bd104 _ _ _ _ _ _ _)) (hR.quiet (by decide))
     ·intro ac done u W Sx hR
      have g : Gr w14 W := hR.g (Sx.no 10 (by kernel_rfl)) (Sx.no 13 (by kernel_rfl))
      exact X.valN (X.w0 rfl) rfl (X.bs rfl (X.b1 (Sx.ev 45 (.agg #[Vi (cv nd i 0), Vi (cv nd i 1), Vi (cv nd i 2), Vi (cv nd i 3), Vi (cv nd i 4), Vi 0, Vi 0, Vi 0, Vi 0, Vi 0, Vi 0, Vi 0, Vi 0, Vi 0, Vi 0, Vi (cv nd i 3), .bool false]))) (Try.bs99 _ _ _ _ _ _ _)) (hR.s9 (by decide) (Sx.no 10 (by kernel_rfl)) (Sx.no 13 (by kernel_rfl)) (Gr.alloc _ _) ⟨_, rfl, World.alloc_heap_new _ _⟩)
     ·intro ac done u W Sx hR
      have g : Gr w14 W := hR.g Sx.nd (Sx.no 13 (by kernel_rfl))
      have hgs := g.size
      obtain ⟨g9, e9, hg9⟩ := hR.g9 (Sx.an 9 (by kernel_rfl)) Sx.nd (Sx.no 13 (by kernel_rfl))
      exact X.law (X.w0 rfl) (fun K hK => wp_pushV Try.underlying99 Try.info104 rfl (by decide) rfl (Sx.ev 41 (v)) ((Sx.own 9 46 rfl).trans e9) (hO.gr g) (m := 1) (news := row17 nd i) rfl (cells_at hg9) rfl (by omega) (by decide) (by omega) (fun v2 W2 hO2 hon hat => hK v2 W2 (fun x hx => by cases hx) (hR.s10 (by decide) (Sx.no 13 (by kernel_rfl)) (by
       have hsh := hO2.shape
       rcases hsh with ⟨_, h0⟩ | ⟨g2, c2, e2, _⟩
       ·omega
       ·subst e2; exact ⟨g2, c2, rfl, hO2, (g.only _).trans hon⟩))))
     ·intro ac done u W Sx hR
      exact X.val (X.w0 rfl) rfl (Y.nilC rfl (Sx.ev 37 (Vp w8.heap.size))) (hR.quiet (by decide))
     ·intro ac done u W Sx hR
      exact X.val (X.w0 rfl) rfl (X.field rfl (Sx.ev 48 (Vp w8.heap.size)) (X.fld Try.underlying101 rfl (Try.siz99 _) rfl rfl)) (hR.quiet (by decide))
     ·intro ac done u W Sx hR
      obtain ⟨g2, c2, e2, hO2, hon⟩ := hR.g10 (Sx.an 10 (by kernel_rfl)) Sx.nd
      have hge := fun b e => hO.ge (b := b) e
      have hB2 := hB.only hon (fun e => by have := (hge _ e).1; omega)
      have hg2 := (hO2.ge (b := g2) rfl).1
      refine X.unit (X.w0 rfl) rfl (X.store rfl (Sx.ev 49 (.pointer (some ⟨w8.heap.size, 4, none⟩))) ((Sx.own 10 47 rfl).trans e2) (hB2.st1 (Try.siz99 _) rfl rfl (by decide))) (RAp.s13 ⟨g2, c2, ?_, (hB2.set _).congr (PVal_set _ _ _ _ _ _ _ _ _ _), ?_⟩)
      ·exact hO2.only (Y.set_only _ _ _ _) (fun b e h => by simp [Value.ownBlock] at e; omega)
      ·exact (hI.step2 hon (fun r e => .inr (hge r e).1)).step (Y.set_only _ _ _ _) (.inl rfl)
     rintro ac u w15 hs hd hl_ ho hR
     obtain ⟨g2, c2, hO, hB, hI⟩ := hR.g13 rfl
     replace F : Fr ac 52 [(0, .agg #[Vi gr, Vi hold, .slice (some pd13) n nc]), (1, Vi t), (2, .slice la m lc), (3, Vp w.heap.size), (4, Vp w3.heap.size), (6, .pointer none), (7, Vi 0), (8, Vi (ticksE gr hold nd t)), (9, Vp w8.heap.size), (11, Vp w11.heap.size), (16, .bool false), (25, .bool false), (31, .slice (some pd13) n nc), (32, Vi n), (33, Vi i), (34, .bool true)] := X.fr hs hd hl_ _ (by kernel_rfl)
     clear hs hd hl_ ho hR hC G hnd hl hT
     have G := Y.Only.up Gs hI (by omega)
     have hC := RCells.nil w15
     refine X.blockN ?_
     refine X.thenN ?_
     refine Y.lit (by kernel_rfl) ?_
     refine Y.pval F (X.w0 rfl) rfl (X.binop rfl (F.e 33 rfl) (X.kc (Vi 1) rfl) (X.addI Try.underlying3 rfl (by omega) (by omega))) ?_
     clear F ac
     intro ac F
     refine Y.pval F (X.w0 rfl) rfl (X.move rfl (F.e 50 rfl)) ?_
     clear F ac
     intro ac F
     refine Y.nil ?_
     replace F : Fr ac 52 [(0, .agg #[Vi gr, Vi hold, .slice (some pd13) n nc]), (1, Vi t), (2, .slice la m lc), (3, Vp w.heap.size), (4, Vp w3.heap.size), (6, .pointer none), (7, Vi 0), (8, Vi (ticksE gr hold nd t)), (9, Vp w8.heap.size), (11, Vp w11.heap.size), (16, .bool false), (25, .bool false), (31, .slice (some pd13) n nc), (32, Vi n), (33, Vi ((i : Int) + 1)), (34, .bool true)] := F.sub _
     refine X.thenN ?_
     refine ⟨_, ?_, i + 1, .slice (some ⟨g2, 0, none⟩) (i + 1) c2, rfl, by omega, hI, hB, by rw [flatN_succ]; exact hO, F.sub _⟩
     omega
  | true =>
   try rw [h7] at F
   have h7p : ((200 : Int) < m) := of_decide_eq_true h7
   refine Y.pskip F (X.w2 rfl (F.yl (j := 3) (d := 21) (b := true) rfl (by kernel_rfl)) rfl) rfl ?_
   clear F ac
   intro ac F
   refine Y.pskip F (X.w2 rfl (F.yl (j := 3) (d := 21) (b := true) rfl (by kernel_rfl)) rfl) rfl ?_
   clear F ac
   intro ac F
   refine Y.pskip F (X.w2 rfl (F.yl (j := 3) (d := 21) (b := true) rfl (by kernel_rfl)) rfl) rfl ?_
   clear F ac
   intro ac F
   refine Y.pval F (X.w0 rfl) rfl (X.pickT rfl (F.e 21 rfl) (X.kc (.bool true) rfl)) ?_
   clear F ac
   intro ac F
   refine Y.nil ?_
   replace F : Fr ac 52 [(0, .agg #[Vi gr, Vi hold, .slice na n nc]), (1, Vi t), (2, .slice la m lc), (3, Vp w.heap.size), (4, Vp w3.heap.size), (6, .pointer none), (7, Vi 0), (8, Vi (ticksE gr hold nd t)), (16, .bool false), (25, .bool true)] := F.sub _
   refine X.thenN ?_
   refine Y.condT (F.e 25 rfl) ?_
   refine Y.seq ?_
   refine Y.lit (by kernel_rfl) ?_
   refine Y.pval F (X.w0 rfl) rfl (X.assign rfl (X.kc (.pointer none) rfl)) ?_
   clear F ac
   intro ac F
   refine Y.pval F (X.w0 rfl) rfl (X.assign rfl (X.kc (Vi 91) rfl)) ?_
   clear F ac
   intro ac F
   refine Y.nil ?_
   replace F : Fr ac 52 [(0, .agg #[Vi gr, Vi hold, .slice na n nc]), (1, Vi t), (2, .slice la m lc), (3, Vp w.heap.size), (4, Vp w3.heap.size), (6, .pointer none), (7, Vi 91), (8, Vi (ticksE gr hold nd t)), (16, .bool false), (25, .bool true)] := F.sub _
   refine X.thenN ?_
   refine Y.ret ?_
   refine X.thenR ?_
   exact Y.ret0 (v := .tuple #[.pointer none, Vi 91]) F (Y.rs2 F rfl (by kernel_rfl) (by kernel_rfl)) ⟨fun _ => by rw [(playE_bad1 hl.len hE (by omega))], G, fun h => by rw [(playE_bad1 hl.len hE (by omega))] at h; cases h⟩
 | true =>
  try rw [h6] at F
  have h6p : ¬ (ticksE gr hold nd t : Int) = 0 := by simpa using h6
  have hE : ¬ ticksE gr hold nd t = 0 := by simpa using h6p
  refine Y.condT (F.e 16 rfl) ?_
  refine Y.seq ?_
  refine Y.lit (by kernel_rfl) ?_
  refine Y.pval F (X.w0 rfl) rfl (X.move rfl (F.e 8 rfl)) ?_
  clear F ac
  intro ac F
  refine Y.pval F (X.w0 rfl) rfl (X.assign rfl (X.kc (.pointer none) rfl)) ?_
  clear F ac
  intro ac F
  refine Y.pval F (X.w0 rfl) rfl (X.assign rfl (F.e 17 rfl)) ?_
  clear F ac
  intro ac F
  refine Y.nil ?_
  replace F : Fr ac 52 [(0, .agg #[Vi gr, Vi hold, .slice na n nc]), (1, Vi t), (2, .slice la m lc), (3, Vp w.heap.size), (4, Vp w3.heap.size), (6, .pointer none), (7, Vi (ticksE gr hold nd t)), (8, Vi (ticksE gr hold nd t)), (16, .bool true)] := F.sub _
  refine X.thenN ?_
  refine Y.ret ?_
  refine X.thenR ?_
  exact Y.ret0 (v := .tuple #[.pointer none, Vi (ticksE gr hold nd t)]) F (Y.rs2 F rfl (by kernel_rfl) (by kernel_rfl)) ⟨fun _ => by rw [playE, if_pos hE], G, fun h => absurd h (by rw [playE, if_pos hE]; exact hE)⟩
end
section
open Go.RowKit

set_option maxRecDepth 100000 in
set_option maxHeartbeats 1000000 in
theorem ask_any (wB w : World) (bp bn : Nat) (gr hold : Int) (na la pa : Option Addr) (n nc m lc cap : Nat) (l : List (List Int)) (s : PS) (t : Int) (hP : PlE wB w bp bn gr hold na la pa n nc m lc cap l) (hS : OwnP w bn (n * 17) (NV s)) (h16 : n ≤ 16) (hn : ∃ nd : List (List Int), ∃ tt : Int, nd.length = n ∧ gr ≤ 8 ∧ ∀ x ∈ l, NuOk gr nd tt x) :
  Calls Try.prog 70 #[Vp bp, Vi t] w fun e w' => e = .returned (Vi (asksG n (askS l t s))) ∧ Only (fun b => b = bn) w w' ∧ OwnP w' bn (n * 17) (NV (askS l t s)) := by
 have G := Gr.refl w
 have hE := Only.refl (fun b => b = bn) w
 have hC := hP.p
 have hpb := hP.pb
 have hnb := hP.nb
 have hgb := hP.g.size
 have hpe := hP.ne
 have hplt := hP.lt
 have hnlt := hS.lt
 obtain ⟨nd, tt, hndl, hg8, hnu⟩ := hn
 refine Y.calls 59 Try.func70 rfl rfl ?_
 intro ac F0
 have F : Fr ac 59 [(0, Vp bp), (1, Vi t)] := F0.sub _
 clear F0
 refine Y.seq ?_
 refine Y.lit (by kernel_rfl) ?_
 refine Y.pval F (X.w0 rfl) rfl (X.box rfl (F.e 0 rfl) (Y.bx1 rfl)) ?_
 clear F ac
 intro ac F
 have hq3 : bn < w.heap.size := hS.lt
 have hq4 : bp < w.heap.size := lt_cell (hC.at 0 rfl)
 have g := Gr.alloc w (.cells #[Vp bp] 60)
 have hb := heap_alloc_new w (.cells #[Vp bp] 60)
 have hbl : w.heap.size < (w.alloc (.cells #[Vp bp] 60)).heap.size := by simp
 have hC2 : RCells (w.alloc (.cells #[Vp bp] 60)) [(Ad bp 0, Vi gr), (Ad bp 1, Vi hold), (Ad bp 2, .slice na n nc), (Ad bp 3, .slice la m lc), (Ad bp 4, .slice pa n cap), (Ad w.heap.size 0, Vp bp)] := hC.box (b := w.heap.size) #[Vp bp] 60 rfl
 generalize w.alloc (.cells #[Vp bp] 60) = w5 at *
 replace G := G.trans g
 replace hC := hC2
 clear hC2
 replace hE := hE.thenGr g
 replace hP := hP.gr g
 replace hS := hS.gr g
 clear g hb hbl
 refine Y.pval F (X.w0 rfl) rfl (X.assign rfl (X.kc (Vi 0) rfl)) ?_
 clear F ac
 intro ac F
 refine Y.nil ?_
 replace F : Fr ac 59 [(0, Vp bp), (1, Vi t), (2, Vp w.heap.size), (4, Vi 0)] := F.sub _
 refine X.thenN ?_
 refine Y.seq ?_
 refine Y.seq ?_
 refine Y.lit (by kernel_rfl) ?_
 refine Y.pval F (X.w0 rfl) rfl (X.load rfl (F.e 2 rfl) (X.ld1 (Try.agg60 _) (hC.at 5 rfl))) ?_
 clear F ac
 intro ac F
 refine Y.pval F (X.w0 rfl) rfl (X.move rfl (F.e 1 rfl)) ?_
 clear F ac
 intro ac F
 refine Y.pval F (X.w0 rfl) rfl (X.bs rfl (X.b2 (X.kc (Vi 1) rfl) (X.kc (Vi 2) rfl)) (Try.bs34_2 1 2 _)) ?_
 clear F ac
 intro ac F
 have hq6 : bn < w5.heap.size := hS.lt
 have hq7 : bp < w5.heap.size := lt_cell (hC.at 0 rfl)
 have hq8 : w.heap.size < w5.heap.size := lt_cell (hC.at 5 rfl)
 have g := Gr.alloc w5 (.cells #[Vi 1, Vi 2] 3)
 have hb := heap_alloc_new w5 (.cells #[Vi 1, Vi 2] 3)
 have hbl : w5.heap.size < (w5.alloc (.cells #[Vi 1, Vi 2] 3)).heap.size := by simp
 have hC2 : RCells (w5.alloc (.cells #[Vi 1, Vi 2] 3)) [(Ad bp 0, Vi gr), (Ad bp 1, Vi hold), (Ad bp 2, .slice na n nc), (Ad bp 3, .slice la m lc), (Ad bp 4, .slice pa n cap), (Ad w.heap.size 0, Vp bp), (Ad w5.heap.size 0, Vi 1), (Ad w5.heap.size 1, Vi 2)] := hC.box (b := w5.heap.size) #[Vi 1, Vi 2] 3 rfl
 generalize w5.alloc (.cells #[Vi 1, Vi 2] 3) = w9 at *
 replace G := G.trans g
 replace hC := hC2
 clear hC2
 replace hE := hE.thenGr g
 replace hP := hP.gr g
 replace hS := hS.gr g
 have hks := (ints_two (hC.at 6 rfl) (hC.at 7 rfl) : Ints w9 (some ⟨w5.heap.size, 0, none⟩) 2 [1, 2])
 clear g hb hbl
 refine Y.pcall F (X.w0 rfl) rfl (X.enter (F := 84) rfl (X.kc (.func (.func 84) #[] #[]) rfl) (X.a3 (F.e 9 rfl) (F.e 10 rfl) (F.e 11 rfl)) (enters_of Try.func84 (by kernel_rfl) rfl _)) (at_any bp t (some ⟨w5.heap.size, 0, none⟩) 2 2 w9) ?_
 have hq10 : bn < w9.heap.size := hS.lt
 have hq11 : bp < w9.heap.size := lt_cell (hC.at 0 rfl)
 have hq12 : w.heap.size < w9.heap.size := lt_cell (hC.at 5 rfl)
 have hq13 : w5.heap.size < w9.heap.size := lt_cell (hC.at 6 rfl)
 clear F ac
 rintro e w14 ⟨bx, bt, bk, rfl, cx, ct, ck, hb1, ⟨hb2, hb3⟩, g⟩
 refine ⟨_, rfl, ?_⟩
 intro ac F
 replace G := G.trans g
 replace hC := hC.gr g
 replace hE := hE.thenGr g
 replace hP := hP.gr g
 replace hS := hS.gr g
 replace hks := hks.gr g
 clear g
 replace hC : RCells w14 [(Ad bp 0, Vi gr), (Ad bp 1, Vi hold), (Ad bp 2, .slice na n nc), (Ad bp 3, .slice la m lc), (Ad bp 4, .slice pa n cap), (Ad w.heap.size 0, Vp bp), (Ad w5.heap.size 0, Vi 1), (Ad w5.heap.size 1, Vi 2), (Ad bx 0, Vp bp), (Ad bt 0, Vi t), (Ad bk 0, .slice (some ⟨w5.heap.size, 0, none⟩) 2 2)] := hC.append ((RCells.cons cx (RCells.cons ct (RCells.cons ck (RCells.nil _)))))
 refine Y.nil ?_
 replace F : Fr ac 59 [(0, Vp bp), (1, Vi t), (2, Vp w.heap.size), (4, Vi 0), (12, .func (.func 96) #[] #[Vp bx, Vp bt, Vp bk])] := F.sub _
 refine X.thenN ?_
 refine Y.block ?_
 replace F : Fr ac 59 [(0, Vp bp), (1, Vi t), (2, Vp w.heap.size), (4, Vi 0), (12, .func (.func 96) #[] #[Vp bx, Vp bt, Vp bk])] := F.sub _
 have hq15 : bn < w14.heap.size := hS.lt
 have hq16 : bk < w14.heap.size := lt_cell (hC.at 10 rfl)
 have hq17 : bp < w14.heap.size := lt_cell (hC.at 0 rfl)
 have hq18 : bt < w14.heap.size := lt_cell (hC.at 9 rfl)
 have hq19 : bx < w14.heap.size := lt_cell (hC.at 8 rfl)
 have hq20 : w.heap.size < w14.heap.size := lt_cell (hC.at 5 rfl)
 have hq21 : w5.heap.size < w14.heap.size := lt_cell (hC.at 6 rfl)
 have hPb := hP.pb
 have hPn := hP.nb
 have hPe := hP.ne
 have hgB := hP.g.size
 have hmut : bn < w14.heap.size := hS.lt
 have hkb : w5.heap.size < w14.heap.size := lt_cell (hC.at 6 rfl)
 refine Y.atRange (D := []) F (by decide) (by decide) rfl rfl rfl rfl rfl rfl rfl (F.ev 12 _) (fun b => b = bn) (fun b e => by rw [e]; exact hmut) (hP.ate (hC.at 8 rfl) (hC.at 9 rfl) (hC.at 10 rfl) hks hkb (fun b e => by subst e; exact ⟨by omega, by omega, by omega, by omega, by omega, by omega⟩)) (fun xs W => OwnP W bn (n * 17) (NV (xs.foldl askX s))) hS (fun xs W W2 h g => h.only g (by omega)) ?_ ?_
 ·have hP_r := hP
  have hC_r := hC
  clear F ac G hP hC hE
  clear hS
  intro pre x w22 ac xb hQ hS hpre hx4 hxb hN F
  have hP := hP_r.on hQ
  have hC : RCells w22 [(Ad bp 0, Vi gr), (Ad bp 1, Vi hold), (Ad bp 2, .slice na n nc), (Ad bp 3, .slice la m lc), (Ad bp 4, .slice pa n cap), (Ad w.heap.size 0, Vp bp), (Ad xb 0, Vi (nv x 0)), (Ad xb 1, Vi (nv x 1)), (Ad xb 2, Vi (nv x 2)), (Ad xb 3, Vi (nv x 3))] := (hC_r.kc hQ 0 rfl (hC_r.kc hQ 1 rfl (hC_r.kc hQ 2 rfl (hC_r.kc hQ 3 rfl (hC_r.kc hQ 4 rfl (hC_r.kc hQ 5 rfl hN))))))
  have G := Gr.refl w22
  have hR_ := Only.refl (fun b => b = bn) w22
  replace F : Fr ac 59 [(0, Vp bp), (1, Vi t), (2, Vp w.heap.size), (4, Vi 0), (5, Vp xb), (12, .func (.func 96) #[] #[Vp bx, Vp bt, Vp bk]), (13, .agg #[Vi (nv x 0), Vi (nv x 1), Vi (nv x 2), Vi (nv x 3)])] := F.sub _
  have hnx := hnu x (mem_pre hpre)
  have hxn := hnx.n0
  have hxn1 := hnx.n1
  have hpk := pick_pre hpre
  have hxa := hnx.ask (by simpa [pickB] using hpk.2)
  have hx30 := hxa.1
  have hx31 := hxa.2.1
  refine Y.block ?_
  refine Y.seq ?_
  obtain rfl : pa = some ⟨bn, 0, none⟩ := hP.hpa (by omega)
  refine Y.region F [some (Vp bp), some (Vp bp), some (.pointer (some ⟨bp, 4, none⟩)), some (.slice (some ⟨bn, 0, none⟩) n cap), some (.pointer (some ⟨xb, 2, none⟩)), some (Vi (nv x 2)), some (.pointer (some ⟨bn, ((nv x 2).toNat) * 17, none⟩)), some (.pointer (some ⟨bn, ((nv x 2).toNat) * 17, none⟩))] [] rfl ⟨by kernel_rfl, of_decide_eq_true (by kernel_rfl), by kernel_rfl, by kernel_rfl, by kernel_rfl⟩ ⟨?_, ?_, ?_, ?_, ?_, ?_, ?_, ?_, trivial⟩ ?_
  ·intro ac done u W Sx hR
   have g : Gr w22 W := hR.1
   exact X.val (X.w0 rfl) rfl (X.load rfl (Sx.ev 2 (Vp w.heap.size)) (X.ld1 (Try.agg60 _) ((hC.gr g).at 5 rfl))) (hR.step (Gr.refl _) rfl)
  ·intro ac done u W Sx hR
   exact X.val (X.w0 rfl) rfl (Y.nilC rfl (Sx.ev 14 (Vp bp))) (hR.step (Gr.refl _) rfl)
  ·intro ac done u W Sx hR
   exact X.val (X.w0 rfl) rfl (X.field rfl (Sx.ev 15 (Vp bp)) (X.fld Try.underlying101 rfl (Try.siz99 _) rfl rfl)) (hR.step (Gr.refl _) rfl)
  ·intro ac done u W Sx hR
   have g : Gr w22 W := hR.1
   exact X.val (X.w0 rfl) rfl (X.load rfl (Sx.ev 16 (.pointer (some ⟨bp, 4, none⟩))) (X.ld1 (Try.agg99 _) ((hC.gr g).at 4 rfl))) (hR.step (Gr.refl _) rfl)
  ·intro ac done u W Sx hR
   exact X.val (X.w0 rfl) rfl (X.field rfl (Sx.ev 5 (Vp xb)) (X.fld Try.underlying33 rfl (Try.siz3 _) rfl rfl)) (hR.step (Gr.refl _) rfl)
  ·intro ac done u W Sx hR
   have g : Gr w22 W := hR.1
   exact X.val (X.w0 rfl) rfl (X.load rfl (Sx.ev 18 (.pointer (some ⟨xb, 2, none⟩))) (X.ld1 (Try.agg3 _) ((hC.gr g).at 8 rfl))) (hR.step (Gr.refl _) rfl)
  ·intro ac done u W Sx hR
   exact X.val (X.w0 rfl) rfl (X.index rfl (Sx.ev 17 (.slice (some ⟨bn, 0, none⟩) n cap)) (Sx.ev 19 (Vi (nv x 2))) (X.idx (k := (nv x 2).toNat) Try.underlying99 (Try.siz104 _) (by omega) (by omega) (addr_add0 _ _))) (hR.step (Gr.refl _) rfl)
  ·intro ac done u W Sx hR
   exact X.val (X.w0 rfl) rfl (X.assign rfl (Sx.ev 20 (.pointer (some ⟨bn, ((nv x 2).toNat) * 17, none⟩)))) (hR.step (Gr.refl _) rfl)
  intro ac u w23 hs hd hl ho hR
  have g : Gr w22 w23 := hR.1
  replace F : Fr ac 59 [(0, Vp bp), (1, Vi t), (2, Vp w.heap.size), (4, Vi 0), (5, Vp xb), (6, .pointer (some ⟨bn, ((nv x 2).toNat) * 17, none⟩)), (12, .func (.func 96) #[] #[Vp bx, Vp bt, Vp bk]), (13, .agg #[Vi (nv x 0), Vi (nv x 1), Vi (nv x 2), Vi (nv x 3)])] := X.fr hs hd hl _ (by kernel_rfl)
  clear hs hd hl ho hR
  replace G := G.trans g
  replace hC := hC.gr g
  replace hQ := hQ.thenGr g
  replace hR_ := hR_.thenGr g
  replace hP := hP.gr g
  replace hS := hS.gr g
  clear g
  refine X.thenN ?_
  refine Y.seq ?_
  replace hC : RCells w23 [(Ad bp 0, Vi gr), (Ad bp 1, Vi hold), (Ad bp 2, .slice na n nc), (Ad bp 3, .slice la m lc), (Ad bp 4, .slice (some ⟨bn, 0, none⟩) n cap), (Ad w.heap.size 0, Vp bp), (Ad xb 0, Vi (nv x 0)), (Ad xb 1, Vi (nv x 1)), (Ad xb 2, Vi (nv x 2)), (Ad xb 3, Vi (nv x 3)), (⟨bn, ((nv x 2).toNat) * 17 + 5, none⟩, Vi ((pre.foldl askX s) ((nv x 2).toNat) 5))] := hC.append ((RCells.cons ((hS.cell (k := ((nv x 2).toNat) * 17 + 5) (by omega)).trans (congrArg some (NV_int (pre.foldl askX s) ((nv x 2).toNat) 5 (by decide)))) (RCells.nil _)))
  refine Y.regionS F [some (.pointer (some ⟨bn, ((nv x 2).toNat) * 17, none⟩)), some (.pointer (some ⟨bn, ((nv x 2).toNat) * 17, none⟩)), some (.pointer (some ⟨bn, ((nv x 2).toNat) * 17 + 5, none⟩)), some (Vi ((pre.foldl askX s) ((nv x 2).toNat) 5)), some (.pointer (some ⟨xb, 3, none⟩)), some (Vi (nv x 3)), some (Vi (shlV 1 (nv x 3 : Int))), some (Vi (orV ((pre.foldl askX s) ((nv x 2).toNat) 5 : Int) (shlV 1 (nv x 3 : Int) : Int))), some (.pointer (some ⟨bn, ((nv x 2).toNat) * 17, none⟩)), some (.pointer (some ⟨bn, ((nv x 2).toNat) * 17 + 5, none⟩)), none] [] 10 (fun _ W => Only (fun x => x = bn) w23 W ∧ OwnP W bn (n * 17) (NV (up (pre.foldl askX s) ((nv x 2).toNat) 5 (orV ((pre.foldl askX s) ((nv x 2).toNat) 5 : Int) (shlV 1 (nv x 3 : Int) : Int) : Int)))) rfl ⟨by kernel_rfl, of_decide_eq_true (by kernel_rfl), by kernel_rfl, by kernel_rfl, by kernel_rfl⟩ (of_decide_eq_true (by kernel_rfl)) ⟨?_, ?_, ?_, ?_, ?_, ?_, ?_, ?_, ?_, ?_, ?_, trivial⟩ ?_
  ·intro ac done u W Sx hT
   have hs := Sx.no 10 (by kernel_rfl)
   have hR := hT.1 hs
   exact X.val (X.w0 rfl) rfl (X.move rfl (Sx.ev 6 (.pointer (some ⟨bn, ((nv x 2).toNat) * 17, none⟩)))) (Y.RT.of hs rfl (hR.step (Gr.refl _) rfl))
  ·intro ac done u W Sx hT
   have hs := Sx.no 10 (by kernel_rfl)
   have hR := hT.1 hs
   exact X.val (X.w0 rfl) rfl (Y.nilC rfl (Sx.ev 21 (.pointer (some ⟨bn, ((nv x 2).toNat) * 17, none⟩)))) (Y.RT.of hs rfl (hR.step (Gr.refl _) rfl))
  ·intro ac done u W Sx hT
   have hs := Sx.no 10 (by kernel_rfl)
   have hR := hT.1 hs
   exact X.val (X.w0 rfl) rfl (X.field rfl (Sx.ev 22 (.pointer (some ⟨bn, ((nv x 2).toNat) * 17, none⟩))) (X.fld Try.underlying104 rfl (Try.siz3 _) rfl rfl)) (Y.RT.of hs rfl (hR.step (Gr.refl _) rfl))
  ·intro ac done u W Sx hT
   have hs := Sx.no 10 (by kernel_rfl)
   have hR := hT.1 hs
   have g : Gr w23 W := hR.1
   exact X.val (X.w0 rfl) rfl (X.load rfl (Sx.ev 23 (.pointer (some ⟨bn, ((nv x 2).toNat) * 17 + 5, none⟩))) (X.ld1 (Try.agg3 _) ((hC.gr g).at 10 rfl))) (Y.RT.of hs rfl (hR.step (Gr.refl _) rfl))
  ·intro ac done u W Sx hT
   have hs := Sx.no 10 (by kernel_rfl)
   have hR := hT.1 hs
   exact X.val (X.w0 rfl) rfl (X.field rfl (Sx.ev 5 (Vp xb)) (X.fld Try.underlying33 rfl (Try.siz3 _) rfl rfl)) (Y.RT.of hs rfl (hR.step (Gr.refl _) rfl))
  ·intro ac done u W Sx hT
   have hs := Sx.no 10 (by kernel_rfl)
   have hR := hT.1 hs
   have g : Gr w23 W := hR.1
   exact X.val (X.w0 rfl) rfl (X.load rfl (Sx.ev 25 (.pointer (some ⟨xb, 3, none⟩))) (X.ld1 (Try.agg3 _) ((hC.gr g).at 9 rfl))) (Y.RT.of hs rfl (hR.step (Gr.refl _) rfl))
  ·intro ac done u W Sx hT
   have hs := Sx.no 10 (by kernel_rfl)
   have hR := hT.1 hs
   exact X.val (X.w0 rfl) rfl (X.binop rfl (X.kc (Vi 1) rfl) (Sx.ev 26 (Vi (nv x 3))) (X.shlI Try.underlying3 rfl (by omega))) (Y.RT.of hs rfl (hR.step (Gr.refl _) rfl))
  ·intro ac done u W Sx hT
   have hs := Sx.no 10 (by kernel_rfl)
   have hR := hT.1 hs
   exact X.val (X.w0 rfl) rfl (X.binop rfl (Sx.ev 24 (Vi ((pre.foldl askX s) ((nv x 2).toNat) 5))) (Sx.ev 27 (Vi (shlV 1 (nv x 3 : Int)))) (X.orI Try.underlying3 rfl)) (Y.RT.of hs rfl (hR.step (Gr.refl _) rfl))
  ·intro ac done u W Sx hT
   have hs := Sx.no 10 (by kernel_rfl)
   have hR := hT.1 hs
   exact X.val (X.w0 rfl) rfl (Y.nilC rfl (Sx.ev 21 (.pointer (some ⟨bn, ((nv x 2).toNat) * 17, none⟩)))) (Y.RT.of hs rfl (hR.step (Gr.refl _) rfl))
  ·intro ac done u W Sx hT
   have hs := Sx.no 10 (by kernel_rfl)
   have hR := hT.1 hs
   exact X.val (X.w0 rfl) rfl (X.field rfl (Sx.ev 29 (.pointer (some ⟨bn, ((nv x 2).toNat) * 17, none⟩))) (X.fld Try.underlying104 rfl (Try.siz3 _) rfl rfl)) (Y.RT.of hs rfl (hR.step (Gr.refl _) rfl))
  ·intro ac done u W Sx hT
   have hR := hT.1 Sx.nd
   have g : Gr w23 W := hR.1
   have hS2 := (hS.gr g).set (k := ((nv x 2).toNat) * 17 + 5) (Vi (orV ((pre.foldl askX s) ((nv x 2).toNat) 5 : Int) (shlV 1 (nv x 3 : Int) : Int)))
   rw [NV_up _ _ _ (by decide)] at hS2
   exact X.unit (X.w0 rfl) rfl (X.store rfl (Sx.ev 30 (.pointer (some ⟨bn, ((nv x 2).toNat) * 17 + 5, none⟩))) (Sx.ev 28 (Vi (orV ((pre.foldl askX s) ((nv x 2).toNat) 5 : Int) (shlV 1 (nv x 3 : Int) : Int)))) ((hS.gr g).st1 (Try.siz3 _) rfl rfl (by omega))) (Y.RT.fin ⟨(g.only _).trans (Y.set_only _ _ _ _), hS2⟩)
  rintro ac u w24 hs hd hl_ ho ⟨hon, hS2⟩
  replace F : Fr ac 59 [(0, Vp bp), (1, Vi t), (2, Vp w.heap.size), (4, Vi 0), (5, Vp xb), (6, .pointer (some ⟨bn, ((nv x 2).toNat) * 17, none⟩)), (12, .func (.func 96) #[] #[Vp bx, Vp bt, Vp bk]), (13, .agg #[Vi (nv x 0), Vi (nv x 1), Vi (nv x 2), Vi (nv x 3)])] := X.fr hs hd hl_ _ (by kernel_rfl)
  clear hs hd hl_ ho
  replace hP := hP.on hon
  replace hC := (hC.kc hon 0 rfl (hC.kc hon 1 rfl (hC.kc hon 2 rfl (hC.kc hon 3 rfl (hC.kc hon 4 rfl (hC.kc hon 5 rfl (hC.kc hon 6 rfl (hC.kc hon 7 rfl (hC.kc hon 8 rfl (hC.kc hon 9 rfl (RCells.nil _)))))))))))
  replace hQ := hQ.step hon (.inl rfl)
  replace hR_ := hR_.step hon (.inl rfl)
  replace G := Gr.refl w24
  replace hS : OwnP w24 bn (n * 17) (NV (up (pre.foldl askX s) ((nv x 2).toNat) 5 (orV ((pre.foldl askX s) ((nv x 2).toNat) 5 : Int) (shlV 1 (nv x 3 : Int) : Int) : Int))) := hS2
  clear hS2 hon
  refine X.thenN ?_
  refine Y.seq ?_
  refine Y.lit (by kernel_rfl) ?_
  refine Y.pval F (X.w0 rfl) rfl (X.field rfl (F.e 5 rfl) (X.fld Try.underlying33 rfl (Try.siz3 _) rfl rfl)) ?_
  clear F ac
  intro ac F
  refine Y.pval F (X.w0 rfl) rfl (X.load rfl (F.e 31 rfl) (X.ld1 (Try.agg3 _) (hC.at 7 rfl))) ?_
  clear F ac
  intro ac F
  refine Y.pval F (X.w0 rfl) rfl (X.binop rfl (F.e 32 rfl) (X.kc (Vi 2) rfl) (X.eqlI Try.underlying3 rfl)) ?_
  clear F ac
  intro ac F
  refine Y.nil ?_
  replace F : Fr ac 59 [(0, Vp bp), (1, Vi t), (2, Vp w.heap.size), (4, Vi 0), (5, Vp xb), (6, .pointer (some ⟨bn, ((nv x 2).toNat) * 17, none⟩)), (12, .func (.func 96) #[] #[Vp bx, Vp bt, Vp bk]), (13, .agg #[Vi (nv x 0), Vi (nv x 1), Vi (nv x 2), Vi (nv x 3)]), (33, .bool ((nv x 1 : Int) == 2))] := F.sub _
  refine X.thenN ?_
  cases h25 : ((nv x 1 : Int) == 2) with
  | false =>
   try rw [h25] at F
   have h25p : ¬ (nv x 1 : Int) = 2 := by simpa using h25
   refine Y.condF (F.e 33 rfl) ?_
   refine Y.skip ?_
   refine X.blockN ?_
   exact ⟨hR_, hQ, by rw [List.foldl_append]; exact (by show OwnP _ _ _ (NV (askX _ x)); unfold askX; rw [if_neg (by simpa using h25)]; exact hS)⟩
  | true =>
   try rw [h25] at F
   have h25p : (nv x 1 : Int) = 2 := by simpa using h25
   refine Y.condT (F.e 33 rfl) ?_
   replace hC : RCells w24 [(Ad bp 0, Vi gr), (Ad bp 1, Vi hold), (Ad bp 2, .slice na n nc), (Ad bp 3, .slice la m lc), (Ad bp 4, .slice (some ⟨bn, 0, none⟩) n cap), (Ad w.heap.size 0, Vp bp), (Ad xb 0, Vi (nv x 0)), (Ad xb 1, Vi (nv x 1)), (Ad xb 2, Vi (nv x 2)), (Ad xb 3, Vi (nv x 3)), (⟨bn, ((nv x 2).toNat) * 17 + 5, none⟩, Vi ((up (pre.foldl askX s) ((nv x 2).toNat) 5 (orV ((pre.foldl askX s) ((nv x 2).toNat) 5 : Int) (shlV 1 (nv x 3 : Int) : Int) : Int)) ((nv x 2).toNat) 5))] := hC.append ((RCells.cons ((hS.cell (k := ((nv x 2).toNat) * 17 + 5) (by omega)).trans (congrArg some (NV_int (up (pre.foldl askX s) ((nv x 2).toNat) 5 (orV ((pre.foldl askX s) ((nv x 2).toNat) 5 : Int) (shlV 1 (nv x 3 : Int) : Int) : Int)) ((nv x 2).toNat) 5 (by decide)))) (RCells.nil _)))
   refine Y.regionS F [some (.pointer (some ⟨bn, ((nv x 2).toNat) * 17, none⟩)), some (.pointer (some ⟨bn, ((nv x 2).toNat) * 17, none⟩)), some (.pointer (some ⟨bn, ((nv x 2).toNat) * 17 + 5, none⟩)), some (Vi ((up (pre.foldl askX s) ((nv x 2).toNat) 5 (orV ((pre.foldl askX s) ((nv x 2).toNat) 5 : Int) (shlV 1 (nv x 3 : Int) : Int) : Int)) ((nv x 2).toNat) 5)), some (.pointer (some ⟨xb, 3, none⟩)), some (Vi (nv x 3)), some (Vi (shlV 1 (nv x 3 : Int))), some (Vi (anotV ((up (pre.foldl askX s) ((nv x 2).toNat) 5 (orV ((pre.foldl askX s) ((nv x 2).toNat) 5 : Int) (shlV 1 (nv x 3 : Int) : Int) : Int)) ((nv x 2).toNat) 5 : Int) (shlV 1 (nv x 3 : Int) : Int))), some (.pointer (some ⟨bn, ((nv x 2).toNat) * 17, none⟩)), some (.pointer (some ⟨bn, ((nv x 2).toNat) * 17 + 5, none⟩)), none] [] 10 (fun _ W => Only (fun x => x = bn) w24 W ∧ OwnP W bn (n * 17) (NV (up (up (pre.foldl askX s) ((nv x 2).toNat) 5 (orV ((pre.foldl askX s) ((nv x 2).toNat) 5 : Int) (shlV 1 (nv x 3 : Int) : Int) : Int)) ((nv x 2).toNat) 5 (anotV ((up (pre.foldl askX s) ((nv x 2).toNat) 5 (orV ((pre.foldl askX s) ((nv x 2).toNat) 5 : Int) (shlV 1 (nv x 3 : Int) : Int) : Int)) ((nv x 2).toNat) 5 : Int) (shlV 1 (nv x 3 : Int) : Int) : Int)))) rfl ⟨by kernel_rfl, of_decide_eq_true (by kernel_rfl), by kernel_rfl, by kernel_rfl, by kernel_rfl⟩ (of_decide_eq_true (by kernel_rfl)) ⟨?_, ?_, ?_, ?_, ?_, ?_, ?_, ?_, ?_, ?_, ?_, trivial⟩ ?_
   ·intro ac done u W Sx hT
    have hs := Sx.no 10 (by kernel_rfl)
    have hR := hT.1 hs
    exact X.val (X.w0 rfl) rfl (X.move rfl (Sx.ev 6 (.pointer (some ⟨bn, ((nv x 2).toNat) * 17, none⟩)))) (Y.RT.of hs rfl (hR.step (Gr.refl _) rfl))
   ·intro ac done u W Sx hT
    have hs := Sx.no 10 (by kernel_rfl)
    have hR := hT.1 hs
    exact X.val (X.w0 rfl) rfl (Y.nilC rfl (Sx.ev 34 (.pointer (some ⟨bn, ((nv x 2).toNat) * 17, none⟩)))) (Y.RT.of hs rfl (hR.step (Gr.refl _) rfl))
   ·intro ac done u W Sx hT
    have hs := Sx.no 10 (by kernel_rfl)
    have hR := hT.1 hs
    exact X.val (X.w0 rfl) rfl (X.field rfl (Sx.ev 35 (.pointer (some ⟨bn, ((nv x 2).toNat) * 17, none⟩))) (X.fld Try.underlying104 rfl (Try.siz3 _) rfl rfl)) (Y.RT.of hs rfl (hR.step (Gr.refl _) rfl))
   ·intro ac done u W Sx hT
    have hs := Sx.no 10 (by kernel_rfl)
    have hR := hT.1 hs
    have g : Gr w24 W := hR.1
    exact X.val (X.w0 rfl) rfl (X.load rfl (Sx.ev 36 (.pointer (some ⟨bn, ((nv x 2).toNat) * 17 + 5, none⟩))) (X.ld1 (Try.agg3 _) ((hC.gr g).at 10 rfl))) (Y.RT.of hs rfl (hR.step (Gr.refl _) rfl))
   ·intro ac done u W Sx hT
    have hs := Sx.no 10 (by kernel_rfl)
    have hR := hT.1 hs
    exact X.val (X.w0 rfl) rfl (X.field rfl (Sx.ev 5 (Vp xb)) (X.fld Try.underlying33 rfl (Try.siz3 _) rfl rfl)) (Y.RT.of hs rfl (hR.step (Gr.refl _) rfl))
   ·intro ac done u W Sx hT
    have hs := Sx.no 10 (by kernel_rfl)
    have hR := hT.1 hs
    have g : Gr w24 W := hR.1
    exact X.val (X.w0 rfl) rfl (X.load rfl (Sx.ev 38 (.pointer (some ⟨xb, 3, none⟩))) (X.ld1 (Try.agg3 _) ((hC.gr g).at 9 rfl))) (Y.RT.of hs rfl (hR.step (Gr.refl _) rfl))
   ·intro ac done u W Sx hT
    have hs := Sx.no 10 (by kernel_rfl)
    have hR := hT.1 hs
    exact X.val (X.w0 rfl) rfl (X.binop rfl (X.kc (Vi 1) rfl) (Sx.ev 39 (Vi (nv x 3))) (X.shlI Try.underlying3 rfl (by omega))) (Y.RT.of hs rfl (hR.step (Gr.refl _) rfl))
   ·intro ac done u W Sx hT
    have hs := Sx.no 10 (by kernel_rfl)
    have hR := hT.1 hs
    exact X.val (X.w0 rfl) rfl (X.binop rfl (Sx.ev 37 (Vi ((up (pre.foldl askX s) ((nv x 2).toNat) 5 (orV ((pre.foldl askX s) ((nv x 2).toNat) 5 : Int) (shlV 1 (nv x 3 : Int) : Int) : Int)) ((nv x 2).toNat) 5))) (Sx.ev 40 (Vi (shlV 1 (nv x 3 : Int)))) (X.andNotI Try.underlying3 rfl)) (Y.RT.of hs rfl (hR.step (Gr.refl _) rfl))
   ·intro ac done u W Sx hT
    have hs := Sx.no 10 (by kernel_rfl)
    have hR := hT.1 hs
    exact X.val (X.w0 rfl) rfl (Y.nilC rfl (Sx.ev 34 (.pointer (some ⟨bn, ((nv x 2).toNat) * 17, none⟩)))) (Y.RT.of hs rfl (hR.step (Gr.refl _) rfl))
   ·intro ac done u W Sx hT
    have hs := Sx.no 10 (by kernel_rfl)
    have hR := hT.1 hs
    exact X.val (X.w0 rfl) rfl (X.field rfl (Sx.ev 42 (.pointer (some ⟨bn, ((nv x 2).toNat) * 17, none⟩))) (X.fld Try.underlying104 rfl (Try.siz3 _) rfl rfl)) (Y.RT.of hs rfl (hR.step (Gr.refl _) rfl))
   ·intro ac done u W Sx hT
    have hR := hT.1 Sx.nd
    have g : Gr w24 W := hR.1
    have hS2 := (hS.gr g).set (k := ((nv x 2).toNat) * 17 + 5) (Vi (anotV ((up (pre.foldl askX s) ((nv x 2).toNat) 5 (orV ((pre.foldl askX s) ((nv x 2).toNat) 5 : Int) (shlV 1 (nv x 3 : Int) : Int) : Int)) ((nv x 2).toNat) 5 : Int) (shlV 1 (nv x 3 : Int) : Int)))
    rw [NV_up _ _ _ (by decide)] at hS2
    exact X.unit (X.w0 rfl) rfl (X.store rfl (Sx.ev 43 (.pointer (some ⟨bn, ((nv x 2).toNat) * 17 + 5, none⟩))) (Sx.ev 41 (Vi (anotV ((up (pre.foldl askX s) ((nv x 2).toNat) 5 (orV ((pre.foldl askX s) ((nv x 2).toNat) 5 : Int) (shlV 1 (nv x 3 : Int) : Int) : Int)) ((nv x 2).toNat) 5 : Int) (shlV 1 (nv x 3 : Int) : Int)))) ((hS.gr g).st1 (Try.siz3 _) rfl rfl (by omega))) (Y.RT.fin ⟨(g.only _).trans (Y.set_only _ _ _ _), hS2⟩)
   rintro ac u w26 hs hd hl_ ho ⟨hon, hS2⟩
   replace F : Fr ac 59 [(0, Vp bp), (1, Vi t), (2, Vp w.heap.size), (4, Vi 0), (5, Vp xb), (6, .pointer (some ⟨bn, ((nv x 2).toNat) * 17, none⟩)), (12, .func (.func 96) #[] #[Vp bx, Vp bt, Vp bk]), (13, .agg #[Vi (nv x 0), Vi (nv x 1), Vi (nv x 2), Vi (nv x 3)]), (33, .bool true)] := X.fr hs hd hl_ _ (by kernel_rfl)
   clear hs hd hl_ ho
   replace hP := hP.on hon
   replace hC := (hC.kc hon 0 rfl (hC.kc hon 1 rfl (hC.kc hon 2 rfl (hC.kc hon 3 rfl (hC.kc hon 4 rfl (hC.kc hon 5 rfl (hC.kc hon 6 rfl (hC.kc hon 7 rfl (hC.kc hon 8 rfl (hC.kc hon 9 rfl (RCells.nil _)))))))))))
   replace hQ := hQ.step hon (.inl rfl)
   replace hR_ := hR_.step hon (.inl rfl)
   replace G := Gr.refl w26
   replace hS : OwnP w26 bn (n * 17) (NV (up (up (pre.foldl askX s) ((nv x 2).toNat) 5 (orV ((pre.foldl askX s) ((nv x 2).toNat) 5 : Int) (shlV 1 (nv x 3 : Int) : Int) : Int)) ((nv x 2).toNat) 5 (anotV ((up (pre.foldl askX s) ((nv x 2).toNat) 5 (orV ((pre.foldl askX s) ((nv x 2).toNat) 5 : Int) (shlV 1 (nv x 3 : Int) : Int) : Int)) ((nv x 2).toNat) 5 : Int) (shlV 1 (nv x 3 : Int) : Int) : Int))) := hS2
   clear hS2 hon
   refine X.blockN ?_
   exact ⟨hR_, hQ, by rw [List.foldl_append]; exact (by show OwnP _ _ _ (NV (askX _ x)); unfold askX; rw [if_pos (by simpa using h25)]; exact hS)⟩
 have hE_r := hE
 have hP_r := hP
 have hC_r := hC
 clear F ac G hP hC hS
 intro w27 ac hQ hS2 hk F
 have hS := hS2
 clear hS2
 replace hE := hE_r.trans hQ
 have hP := hP_r.on hQ
 have hC := (hC_r.kc hQ 0 rfl (hC_r.kc hQ 1 rfl (hC_r.kc hQ 2 rfl (hC_r.kc hQ 3 rfl (hC_r.kc hQ 4 rfl (hC_r.kc hQ 5 rfl (RCells.nil _)))))))
 clear hC_r hP_r
 have G := Gr.refl w27
 have hmk : Mk1 w27 w14.heap.size := hk
 clear hk
 have hmlt : w14.heap.size < w27.heap.size := hmk.lt
 refine X.blockN ?_
 refine X.thenN ?_
 refine Y.seq ?_
 refine Y.seq ?_
 refine Y.lit (by kernel_rfl) ?_
 refine Y.pval F (X.w0 rfl) rfl (X.load rfl (F.e 2 rfl) (X.ld1 (Try.agg60 _) (hC.at 5 rfl))) ?_
 clear F ac
 intro ac F
 refine Y.pval F (X.w0 rfl) rfl (Y.nilC rfl (F.e 44 rfl)) ?_
 clear F ac
 intro ac F
 refine Y.pval F (X.w0 rfl) rfl (X.field rfl (F.e 45 rfl) (X.fld Try.underlying101 rfl (Try.siz99 _) rfl rfl)) ?_
 clear F ac
 intro ac F
 refine Y.pval F (X.w0 rfl) rfl (X.load rfl (F.e 46 rfl) (X.ld1 (Try.agg99 _) (hC.at 4 rfl))) ?_
 clear F ac
 intro ac F
 refine Y.pval F (X.w0 rfl) rfl (X.len1 Try.underlying99 rfl (F.e 47 rfl)) ?_
 clear F ac
 intro ac F
 refine Y.pval F (X.w0 rfl) rfl (X.move rfl (X.kc (Vi 0) rfl)) ?_
 clear F ac
 intro ac F
 refine Y.nil ?_
 replace F : Fr ac 59 [(0, Vp bp), (1, Vi t), (2, Vp w.heap.size), (4, Vi 0), (12, .func (.func 96) #[] #[Vp bx, Vp bt, Vp bk]), (47, .slice pa n cap), (48, Vi n), (49, Vi 0)] [{ target := .collected w14.heap.size, args := #[] }] := F.sub _
 refine X.thenN ?_
 refine Y.block ?_
 have hE_1 := hE
 have hmk_1 := hmk
 have hP_1 := hP
 have hC_1 := hC
 refine Y.loop (fun me_ ac wr => ∃ (i : Nat), me_ = n - i ∧ i ≤ n ∧ Only (fun b => b = bn) w27 wr ∧ OwnP wr bn (n * 17) (NV (askS l t s)) ∧ Fr ac 59 [(0, Vp bp), (1, Vi t), (2, Vp w.heap.size), (4, Vi (asksG i (askS l t s))), (12, .func (.func 96) #[] #[Vp bx, Vp bt, Vp bk]), (47, .slice pa n cap), (48, Vi n), (49, Vi i)] [{ target := .collected w14.heap.size, args := #[] }]) _ ⟨0, rfl, Nat.zero_le _, Only.refl _ _, hS, F.sub _⟩ ?_
 clear F hP hC hS ac hE hmk
 intro me_ ac w28 hI
 obtain ⟨i, rfl, hi, hI1, hS, F⟩ := hI
 have hP := hP_1.on hI1
 have hE := hE_1.trans hI1
 have hmk := hmk_1.only hI1 (by show ¬ _ = _; omega)
 have hC := (hC_1.kc hI1 0 rfl (hC_1.kc hI1 1 rfl (hC_1.kc hI1 2 rfl (hC_1.kc hI1 3 rfl (hC_1.kc hI1 4 rfl (hC_1.kc hI1 5 rfl (RCells.nil _)))))))
 replace G := Gr.refl w28
 refine Y.seq ?_
 refine Y.lit (by kernel_rfl) ?_
 refine Y.pval F (X.w0 rfl) rfl (X.binop rfl (F.e 49 rfl) (F.e 48 rfl) (X.lssI Try.underlying3 rfl)) ?_
 clear F ac
 intro ac F
 refine Y.nil ?_
 replace F : Fr ac 59 [(0, Vp bp), (1, Vi t), (2, Vp w.heap.size), (4, Vi (asksG i (askS l t s))), (12, .func (.func 96) #[] #[Vp bx, Vp bt, Vp bk]), (47, .slice pa n cap), (48, Vi n), (49, Vi i), (50, .bool (decide ((i : Int) < n)))] [{ target := .collected w14.heap.size, args := #[] }] := F.sub _
 refine X.thenN ?_
 refine Y.seq ?_
 cases h29 : decide ((i : Int) < n) with
 | false =>
  try rw [h29] at F
  have h29p : ¬ ((i : Int) < n) := of_decide_eq_false h29
  obtain rfl : n = i := by omega
  refine Y.condF (F.e 50 rfl) ?_
  refine Y.exit ?_
  refine X.thenX ?_
  refine X.thenX ?_
  refine X.blockX ?_
  refine X.thenN ?_
  refine Y.seq ?_
  refine Y.lit (by kernel_rfl) ?_
  refine Y.pval F (X.w0 rfl) rfl (X.move rfl (F.e 4 rfl)) ?_
  clear F ac
  intro ac F
  refine Y.pval F (X.w0 rfl) rfl (X.assign rfl (F.e 58 rfl)) ?_
  clear F ac
  intro ac F
  refine Y.nil ?_
  replace F : Fr ac 59 [(0, Vp bp), (1, Vi t), (2, Vp w.heap.size), (4, Vi (asksG n (askS l t s))), (12, .func (.func 96) #[] #[Vp bx, Vp bt, Vp bk]), (47, .slice pa n cap), (48, Vi n), (49, Vi n), (50, .bool false)] [{ target := .collected w14.heap.size, args := #[] }] := F.sub _
  refine X.thenN ?_
  refine Y.ret ?_
  exact ret_mark (v := Vi (asksG n (askS l t s))) F hmk (Y.rs1 F rfl (by kernel_rfl)) (fun W2 hW2 => ⟨rfl, hE.step hW2 (.inr (by omega)), hS.only hW2 (by show ¬ _ = _; omega)⟩)
 | true =>
  try rw [h29] at F
  have h29p : ((i : Int) < n) := of_decide_eq_true h29
  refine Y.condT (F.e 50 rfl) ?_
  refine Y.skip ?_
  refine X.thenN ?_
  refine Y.seq ?_
  refine Y.block ?_
  refine Y.seq ?_
  refine Y.lit (by kernel_rfl) ?_
  obtain rfl : pa = some ⟨bn, 0, none⟩ := hP.hpa (by omega)
  refine Y.pval F (X.w0 rfl) rfl (X.index rfl (F.e 47 rfl) (F.e 49 rfl) (X.idx (k := i) Try.underlying99 (Try.siz104 _) (by omega) (by omega) (addr_add0 _ _))) ?_
  clear F ac
  intro ac F
  replace hC : RCells w28 [(Ad bp 0, Vi gr), (Ad bp 1, Vi hold), (Ad bp 2, .slice na n nc), (Ad bp 3, .slice la m lc), (Ad bp 4, .slice (some ⟨bn, 0, none⟩) n cap), (Ad w.heap.size 0, Vp bp), (⟨bn, i * 17, none⟩, Vi ((askS l t s) i 0))] := hC.append ((RCells.cons ((hS.cell (k := i * 17 + 0) (by omega)).trans (congrArg some (NV_int (askS l t s) i 0 (by decide)))) (RCells.nil _)))
  replace hC : RCells w28 [(Ad bp 0, Vi gr), (Ad bp 1, Vi hold), (Ad bp 2, .slice na n nc), (Ad bp 3, .slice la m lc), (Ad bp 4, .slice (some ⟨bn, 0, none⟩) n cap), (Ad w.heap.size 0, Vp bp), (⟨bn, i * 17, none⟩, Vi ((askS l t s) i 0)), (⟨bn, i * 17 + 1, none⟩, Vi ((askS l t s) i 1))] := hC.append ((RCells.cons ((hS.cell (k := i * 17 + 1) (by omega)).trans (congrArg some (NV_int (askS l t s) i 1 (by decide)))) (RCells.nil _)))
  replace hC : RCells w28 [(Ad bp 0, Vi gr), (Ad bp 1, Vi hold), (Ad bp 2, .slice na n nc), (Ad bp 3, .slice la m lc), (Ad bp 4, .slice (some ⟨bn, 0, none⟩) n cap), (Ad w.heap.size 0, Vp bp), (⟨bn, i * 17, none⟩, Vi ((askS l t s) i 0)), (⟨bn, i * 17 + 1, none⟩, Vi ((askS l t s) i 1)), (⟨bn, i * 17 + 2, none⟩, Vi ((askS l t s) i 2))] := hC.append ((RCells.cons ((hS.cell (k := i * 17 + 2) (by omega)).trans (congrArg some (NV_int (askS l t s) i 2 (by decide)))) (RCells.nil _)))
  replace hC : RCells w28 [(Ad bp 0, Vi gr), (Ad bp 1, Vi hold), (Ad bp 2, .slice na n nc), (Ad bp 3, .slice la m lc), (Ad bp 4, .slice (some ⟨bn, 0, none⟩) n cap), (Ad w.heap.size 0, Vp bp), (⟨bn, i * 17, none⟩, Vi ((askS l t s) i 0)), (⟨bn, i * 17 + 1, none⟩, Vi ((askS l t s) i 1)), (⟨bn, i * 17 + 2, none⟩, Vi ((askS l t s) i 2)), (⟨bn, i * 17 + 3, none⟩, Vi ((askS l t s) i 3))] := hC.append ((RCells.cons ((hS.cell (k := i * 17 + 3) (by omega)).trans (congrArg some (NV_int (askS l t s) i 3 (by decide)))) (RCells.nil _)))
  replace hC : RCells w28 [(Ad bp 0, Vi gr), (Ad bp 1, Vi hold), (Ad bp 2, .slice na n nc), (Ad bp 3, .slice la m lc), (Ad bp 4, .slice (some ⟨bn, 0, none⟩) n cap), (Ad w.heap.size 0, Vp bp), (⟨bn, i * 17, none⟩, Vi ((askS l t s) i 0)), (⟨bn, i * 17 + 1, none⟩, Vi ((askS l t s) i 1)), (⟨bn, i * 17 + 2, none⟩, Vi ((askS l t s) i 2)), (⟨bn, i * 17 + 3, none⟩, Vi ((askS l t s) i 3)), (⟨bn, i * 17 + 4, none⟩, Vi ((askS l t s) i 4))] := hC.append ((RCells.cons ((hS.cell (k := i * 17 + 4) (by omega)).trans (congrArg some (NV_int (askS l t s) i 4 (by decide)))) (RCells.nil _)))
  replace hC : RCells w28 [(Ad bp 0, Vi gr), (Ad bp 1, Vi hold), (Ad bp 2, .slice na n nc), (Ad bp 3, .slice la m lc), (Ad bp 4, .slice (some ⟨bn, 0, none⟩) n cap), (Ad w.heap.size 0, Vp bp), (⟨bn, i * 17, none⟩, Vi ((askS l t s) i 0)), (⟨bn, i * 17 + 1, none⟩, Vi ((askS l t s) i 1)), (⟨bn, i * 17 + 2, none⟩, Vi ((askS l t s) i 2)), (⟨bn, i * 17 + 3, none⟩, Vi ((askS l t s) i 3)), (⟨bn, i * 17 + 4, none⟩, Vi ((askS l t s) i 4)), (⟨bn, i * 17 + 5, none⟩, Vi ((askS l t s) i 5))] := hC.append ((RCells.cons ((hS.cell (k := i * 17 + 5) (by omega)).trans (congrArg some (NV_int (askS l t s) i 5 (by decide)))) (RCells.nil _)))
  replace hC : RCells w28 [(Ad bp 0, Vi gr), (Ad bp 1, Vi hold), (Ad bp 2, .slice na n nc), (Ad bp 3, .slice la m lc), (Ad bp 4, .slice (some ⟨bn, 0, none⟩) n cap), (Ad w.heap.size 0, Vp bp), (⟨bn, i * 17, none⟩, Vi ((askS l t s) i 0)), (⟨bn, i * 17 + 1, none⟩, Vi ((askS l t s) i 1)), (⟨bn, i * 17 + 2, none⟩, Vi ((askS l t s) i 2)), (⟨bn, i * 17 + 3, none⟩, Vi ((askS l t s) i 3)), (⟨bn, i * 17 + 4, none⟩, Vi ((askS l t s) i 4)), (⟨bn, i * 17 + 5, none⟩, Vi ((askS l t s) i 5)), (⟨bn, i * 17 + 6, none⟩, Vi ((askS l t s) i 6))] := hC.append ((RCells.cons ((hS.cell (k := i * 17 + 6) (by omega)).trans (congrArg some (NV_int (askS l t s) i 6 (by decide)))) (RCells.nil _)))
  replace hC : RCells w28 [(Ad bp 0, Vi gr), (Ad bp 1, Vi hold), (Ad bp 2, .slice na n nc), (Ad bp 3, .slice la m lc), (Ad bp 4, .slice (some ⟨bn, 0, none⟩) n cap), (Ad w.heap.size 0, Vp bp), (⟨bn, i * 17, none⟩, Vi ((askS l t s) i 0)), (⟨bn, i * 17 + 1, none⟩, Vi ((askS l t s) i 1)), (⟨bn, i * 17 + 2, none⟩, Vi ((askS l t s) i 2)), (⟨bn, i * 17 + 3, none⟩, Vi ((askS l t s) i 3)), (⟨bn, i * 17 + 4, none⟩, Vi ((askS l t s) i 4)), (⟨bn, i * 17 + 5, none⟩, Vi ((askS l t s) i 5)), (⟨bn, i * 17 + 6, none⟩, Vi ((askS l t s) i 6)), (⟨bn, i * 17 + 7, none⟩, Vi ((askS l t s) i 7))] := hC.append ((RCells.cons ((hS.cell (k := i * 17 + 7) (by omega)).trans (congrArg some (NV_int (askS l t s) i 7 (by decide)))) (RCells.nil _)))
  replace hC : RCells w28 [(Ad bp 0, Vi gr), (Ad bp 1, Vi hold), (Ad bp 2, .slice na n nc), (Ad bp 3, .slice la m lc), (Ad bp 4, .slice (some ⟨bn, 0, none⟩) n cap), (Ad w.heap.size 0, Vp bp), (⟨bn, i * 17, none⟩, Vi ((askS l t s) i 0)), (⟨bn, i * 17 + 1, none⟩, Vi ((askS l t s) i 1)), (⟨bn, i * 17 + 2, none⟩, Vi ((askS l t s) i 2)), (⟨bn, i * 17 + 3, none⟩, Vi ((askS l t s) i 3)), (⟨bn, i * 17 + 4, none⟩, Vi ((askS l t s) i 4)), (⟨bn, i * 17 + 5, none⟩, Vi ((askS l t s) i 5)), (⟨bn, i * 17 + 6, none⟩, Vi ((askS l t s) i 6)), (⟨bn, i * 17 + 7, none⟩, Vi ((askS l t s) i 7)), (⟨bn, i * 17 + 8, none⟩, Vi ((askS l t s) i 8))] := hC.append ((RCells.cons ((hS.cell (k := i * 17 + 8) (by omega)).trans (congrArg some (NV_int (askS l t s) i 8 (by decide)))) (RCells.nil _)))
  replace hC : RCells w28 [(Ad bp 0, Vi gr), (Ad bp 1, Vi hold), (Ad bp 2, .slice na n nc), (Ad bp 3, .slice la m lc), (Ad bp 4, .slice (some ⟨bn, 0, none⟩) n cap), (Ad w.heap.size 0, Vp bp), (⟨bn, i * 17, none⟩, Vi ((askS l t s) i 0)), (⟨bn, i * 17 + 1, none⟩, Vi ((askS l t s) i 1)), (⟨bn, i * 17 + 2, none⟩, Vi ((askS l t s) i 2)), (⟨bn, i * 17 + 3, none⟩, Vi ((askS l t s) i 3)), (⟨bn, i * 17 + 4, none⟩, Vi ((askS l t s) i 4)), (⟨bn, i * 17 + 5, none⟩, Vi ((askS l t s) i 5)), (⟨bn, i * 17 + 6, none⟩, Vi ((askS l t s) i 6)), (⟨bn, i * 17 + 7, none⟩, Vi ((askS l t s) i 7)), (⟨bn, i * 17 + 8, none⟩, Vi ((askS l t s) i 8)), (⟨bn, i * 17 + 9, none⟩, Vi ((askS l t s) i 9))] := hC.append ((RCells.cons ((hS.cell (k := i * 17 + 9) (by omega)).trans (congrArg some (NV_int (askS l t s) i 9 (by decide)))) (RCells.nil _)))
  replace hC : RCells w28 [(Ad bp 0, Vi gr), (Ad bp 1, Vi hold), (Ad bp 2, .slice na n nc), (Ad bp 3, .slice la m lc), (Ad bp 4, .slice (some ⟨bn, 0, none⟩) n cap), (Ad w.heap.size 0, Vp bp), (⟨bn, i * 17, none⟩, Vi ((askS l t s) i 0)), (⟨bn, i * 17 + 1, none⟩, Vi ((askS l t s) i 1)), (⟨bn, i * 17 + 2, none⟩, Vi ((askS l t s) i 2)), (⟨bn, i * 17 + 3, none⟩, Vi ((askS l t s) i 3)), (⟨bn, i * 17 + 4, none⟩, Vi ((askS l t s) i 4)), (⟨bn, i * 17 + 5, none⟩, Vi ((askS l t s) i 5)), (⟨bn, i * 17 + 6, none⟩, Vi ((askS l t s) i 6)), (⟨bn, i * 17 + 7, none⟩, Vi ((askS l t s) i 7)), (⟨bn, i * 17 + 8, none⟩, Vi ((askS l t s) i 8)), (⟨bn, i * 17 + 9, none⟩, Vi ((askS l t s) i 9)), (⟨bn, i * 17 + 10, none⟩, Vi ((askS l t s) i 10))] := hC.append ((RCells.cons ((hS.cell (k := i * 17 + 10) (by omega)).trans (congrArg some (NV_int (askS l t s) i 10 (by decide)))) (RCells.nil _)))
  replace hC : RCells w28 [(Ad bp 0, Vi gr), (Ad bp 1, Vi hold), (Ad bp 2, .slice na n nc), (Ad bp 3, .slice la m lc), (Ad bp 4, .slice (some ⟨bn, 0, none⟩) n cap), (Ad w.heap.size 0, Vp bp), (⟨bn, i * 17, none⟩, Vi ((askS l t s) i 0)), (⟨bn, i * 17 + 1, none⟩, Vi ((askS l t s) i 1)), (⟨bn, i * 17 + 2, none⟩, Vi ((askS l t s) i 2)), (⟨bn, i * 17 + 3, none⟩, Vi ((askS l t s) i 3)), (⟨bn, i * 17 + 4, none⟩, Vi ((askS l t s) i 4)), (⟨bn, i * 17 + 5, none⟩, Vi ((askS l t s) i 5)), (⟨bn, i * 17 + 6, none⟩, Vi ((askS l t s) i 6)), (⟨bn, i * 17 + 7, none⟩, Vi ((askS l t s) i 7)), (⟨bn, i * 17 + 8, none⟩, Vi ((askS l t s) i 8)), (⟨bn, i * 17 + 9, none⟩, Vi ((askS l t s) i 9)), (⟨bn, i * 17 + 10, none⟩, Vi ((askS l t s) i 10)), (⟨bn, i * 17 + 11, none⟩, Vi ((askS l t s) i 11))] := hC.append ((RCells.cons ((hS.cell (k := i * 17 + 11) (by omega)).trans (congrArg some (NV_int (askS l t s) i 11 (by decide)))) (RCells.nil _)))
  replace hC : RCells w28 [(Ad bp 0, Vi gr), (Ad bp 1, Vi hold), (Ad bp 2, .slice na n nc), (Ad bp 3, .slice la m lc), (Ad bp 4, .slice (some ⟨bn, 0, none⟩) n cap), (Ad w.heap.size 0, Vp bp), (⟨bn, i * 17, none⟩, Vi ((askS l t s) i 0)), (⟨bn, i * 17 + 1, none⟩, Vi ((askS l t s) i 1)), (⟨bn, i * 17 + 2, none⟩, Vi ((askS l t s) i 2)), (⟨bn, i * 17 + 3, none⟩, Vi ((askS l t s) i 3)), (⟨bn, i * 17 + 4, none⟩, Vi ((askS l t s) i 4)), (⟨bn, i * 17 + 5, none⟩, Vi ((askS l t s) i 5)), (⟨bn, i * 17 + 6, none⟩, Vi ((askS l t s) i 6)), (⟨bn, i * 17 + 7, none⟩, Vi ((askS l t s) i 7)), (⟨bn, i * 17 + 8, none⟩, Vi ((askS l t s) i 8)), (⟨bn, i * 17 + 9, none⟩, Vi ((askS l t s) i 9)), (⟨bn, i * 17 + 10, none⟩, Vi ((askS l t s) i 10)), (⟨bn, i * 17 + 11, none⟩, Vi ((askS l t s) i 11)), (⟨bn, i * 17 + 12, none⟩, Vi ((askS l t s) i 12))] := hC.append ((RCells.cons ((hS.cell (k := i * 17 + 12) (by omega)).trans (congrArg some (NV_int (askS l t s) i 12 (by decide)))) (RCells.nil _)))
  replace hC : RCells w28 [(Ad bp 0, Vi gr), (Ad bp 1, Vi hold), (Ad bp 2, .slice na n nc), (Ad bp 3, .slice la m lc), (Ad bp 4, .slice (some ⟨bn, 0, none⟩) n cap), (Ad w.heap.size 0, Vp bp), (⟨bn, i * 17, none⟩, Vi ((askS l t s) i 0)), (⟨bn, i * 17 + 1, none⟩, Vi ((askS l t s) i 1)), (⟨bn, i * 17 + 2, none⟩, Vi ((askS l t s) i 2)), (⟨bn, i * 17 + 3, none⟩, Vi ((askS l t s) i 3)), (⟨bn, i * 17 + 4, none⟩, Vi ((askS l t s) i 4)), (⟨bn, i * 17 + 5, none⟩, Vi ((askS l t s) i 5)), (⟨bn, i * 17 + 6, none⟩, Vi ((askS l t s) i 6)), (⟨bn, i * 17 + 7, none⟩, Vi ((askS l t s) i 7)), (⟨bn, i * 17 + 8, none⟩, Vi ((askS l t s) i 8)), (⟨bn, i * 17 + 9, none⟩, Vi ((askS l t s) i 9)), (⟨bn, i * 17 + 10, none⟩, Vi ((askS l t s) i 10)), (⟨bn, i * 17 + 11, none⟩, Vi ((askS l t s) i 11)), (⟨bn, i * 17 + 12, none⟩, Vi ((askS l t s) i 12)), (⟨bn, i * 17 + 13, none⟩, Vi ((askS l t s) i 13))] := hC.append ((RCells.cons ((hS.cell (k := i * 17 + 13) (by omega)).trans (congrArg some (NV_int (askS l t s) i 13 (by decide)))) (RCells.nil _)))
  replace hC : RCells w28 [(Ad bp 0, Vi gr), (Ad bp 1, Vi hold), (Ad bp 2, .slice na n nc), (Ad bp 3, .slice la m lc), (Ad bp 4, .slice (some ⟨bn, 0, none⟩) n cap), (Ad w.heap.size 0, Vp bp), (⟨bn, i * 17, none⟩, Vi ((askS l t s) i 0)), (⟨bn, i * 17 + 1, none⟩, Vi ((askS l t s) i 1)), (⟨bn, i * 17 + 2, none⟩, Vi ((askS l t s) i 2)), (⟨bn, i * 17 + 3, none⟩, Vi ((askS l t s) i 3)), (⟨bn, i * 17 + 4, none⟩, Vi ((askS l t s) i 4)), (⟨bn, i * 17 + 5, none⟩, Vi ((askS l t s) i 5)), (⟨bn, i * 17 + 6, none⟩, Vi ((askS l t s) i 6)), (⟨bn, i * 17 + 7, none⟩, Vi ((askS l t s) i 7)), (⟨bn, i * 17 + 8, none⟩, Vi ((askS l t s) i 8)), (⟨bn, i * 17 + 9, none⟩, Vi ((askS l t s) i 9)), (⟨bn, i * 17 + 10, none⟩, Vi ((askS l t s) i 10)), (⟨bn, i * 17 + 11, none⟩, Vi ((askS l t s) i 11)), (⟨bn, i * 17 + 12, none⟩, Vi ((askS l t s) i 12)), (⟨bn, i * 17 + 13, none⟩, Vi ((askS l t s) i 13)), (⟨bn, i * 17 + 14, none⟩, Vi ((askS l t s) i 14))] := hC.append ((RCells.cons ((hS.cell (k := i * 17 + 14) (by omega)).trans (congrArg some (NV_int (askS l t s) i 14 (by decide)))) (RCells.nil _)))
  replace hC : RCells w28 [(Ad bp 0, Vi gr), (Ad bp 1, Vi hold), (Ad bp 2, .slice na n nc), (Ad bp 3, .slice la m lc), (Ad bp 4, .slice (some ⟨bn, 0, none⟩) n cap), (Ad w.heap.size 0, Vp bp), (⟨bn, i * 17, none⟩, Vi ((askS l t s) i 0)), (⟨bn, i * 17 + 1, none⟩, Vi ((askS l t s) i 1)), (⟨bn, i * 17 + 2, none⟩, Vi ((askS l t s) i 2)), (⟨bn, i * 17 + 3, none⟩, Vi ((askS l t s) i 3)), (⟨bn, i * 17 + 4, none⟩, Vi ((askS l t s) i 4)), (⟨bn, i * 17 + 5, none⟩, Vi ((askS l t s) i 5)), (⟨bn, i * 17 + 6, none⟩, Vi ((askS l t s) i 6)), (⟨bn, i * 17 + 7, none⟩, Vi ((askS l t s) i 7)), (⟨bn, i * 17 + 8, none⟩, Vi ((askS l t s) i 8)), (⟨bn, i * 17 + 9, none⟩, Vi ((askS l t s) i 9)), (⟨bn, i * 17 + 10, none⟩, Vi ((askS l t s) i 10)), (⟨bn, i * 17 + 11, none⟩, Vi ((askS l t s) i 11)), (⟨bn, i * 17 + 12, none⟩, Vi ((askS l t s) i 12)), (⟨bn, i * 17 + 13, none⟩, Vi ((askS l t s) i 13)), (⟨bn, i * 17 + 14, none⟩, Vi ((askS l t s) i 14)), (⟨bn, i * 17 + 15, none⟩, Vi ((askS l t s) i 15))] := hC.append ((RCells.cons ((hS.cell (k := i * 17 + 15) (by omega)).trans (congrArg some (NV_int (askS l t s) i 15 (by decide)))) (RCells.nil _)))
  replace hC : RCells w28 [(Ad bp 0, Vi gr), (Ad bp 1, Vi hold), (Ad bp 2, .slice na n nc), (Ad bp 3, .slice la m lc), (Ad bp 4, .slice (some ⟨bn, 0, none⟩) n cap), (Ad w.heap.size 0, Vp bp), (⟨bn, i * 17, none⟩, Vi ((askS l t s) i 0)), (⟨bn, i * 17 + 1, none⟩, Vi ((askS l t s) i 1)), (⟨bn, i * 17 + 2, none⟩, Vi ((askS l t s) i 2)), (⟨bn, i * 17 + 3, none⟩, Vi ((askS l t s) i 3)), (⟨bn, i * 17 + 4, none⟩, Vi ((askS l t s) i 4)), (⟨bn, i * 17 + 5, none⟩, Vi ((askS l t s) i 5)), (⟨bn, i * 17 + 6, none⟩, Vi ((askS l t s) i 6)), (⟨bn, i * 17 + 7, none⟩, Vi ((askS l t s) i 7)), (⟨bn, i * 17 + 8, none⟩, Vi ((askS l t s) i 8)), (⟨bn, i * 17 + 9, none⟩, Vi ((askS l t s) i 9)), (⟨bn, i * 17 + 10, none⟩, Vi ((askS l t s) i 10)), (⟨bn, i * 17 + 11, none⟩, Vi ((askS l t s) i 11)), (⟨bn, i * 17 + 12, none⟩, Vi ((askS l t s) i 12)), (⟨bn, i * 17 + 13, none⟩, Vi ((askS l t s) i 13)), (⟨bn, i * 17 + 14, none⟩, Vi ((askS l t s) i 14)), (⟨bn, i * 17 + 15, none⟩, Vi ((askS l t s) i 15)), (⟨bn, i * 17 + 16, none⟩, .bool (bz ((askS l t s) i 16)))] := hC.append ((RCells.cons ((hS.cell (k := i * 17 + 16) (by omega)).trans (congrArg some (NV_bool (askS l t s) i))) (RCells.nil _)))
  refine Y.pval F (X.w0 rfl) rfl (X.load rfl (F.e 51 rfl) (X.ldN (Try.agg104 _) (Try.siz104 _) (Y.atz (⟨bn, i * 17, none⟩) (Y.AtFrom.cons (hC.at 6 rfl) (Y.AtFrom.cons (hC.at 7 rfl) (Y.AtFrom.cons (hC.at 8 rfl) (Y.AtFrom.cons (hC.at 9 rfl) (Y.AtFrom.cons (hC.at 10 rfl) (Y.AtFrom.cons (hC.at 11 rfl) (Y.AtFrom.cons (hC.at 12 rfl) (Y.AtFrom.cons (hC.at 13 rfl) (Y.AtFrom.cons (hC.at 14 rfl) (Y.AtFrom.cons (hC.at 15 rfl) (Y.AtFrom.cons (hC.at 16 rfl) (Y.AtFrom.cons (hC.at 17 rfl) (Y.AtFrom.cons (hC.at 18 rfl) (Y.AtFrom.cons (hC.at 19 rfl) (Y.AtFrom.cons (hC.at 20 rfl) (Y.AtFrom.cons (hC.at 21 rfl) (Y.AtFrom.cons (hC.at 22 rfl) (Y.AtFrom.nil _ _ _))))))))))))))))))))) ?_
  clear F ac
  intro ac F
  refine Y.pval F (X.w0 rfl) rfl (Y.al rfl (Try.new104 _)) ?_
  clear F ac
  intro ac F
  refine Y.punit F (X.w0 rfl) rfl (X.store rfl (F.e 8 rfl) (F.e 52 rfl) (Y.stNew [Vi ((askS l t s) i 0), Vi ((askS l t s) i 1), Vi ((askS l t s) i 2), Vi ((askS l t s) i 3), Vi ((askS l t s) i 4), Vi ((askS l t s) i 5), Vi ((askS l t s) i 6), Vi ((askS l t s) i 7), Vi ((askS l t s) i 8), Vi ((askS l t s) i 9), Vi ((askS l t s) i 10), Vi ((askS l t s) i 11), Vi ((askS l t s) i 12), Vi ((askS l t s) i 13), Vi ((askS l t s) i 14), Vi ((askS l t s) i 15), .bool (bz ((askS l t s) i 16))] [Vi 0, Vi 0, Vi 0, Vi 0, Vi 0, Vi 0, Vi 0, Vi 0, Vi 0, Vi 0, Vi 0, Vi 0, Vi 0, Vi 0, Vi 0, Vi 0, .bool false] (Try.siz104 _) rfl rfl)) ?_
  clear F ac
  intro ac F
  have hq30 : bn < w28.heap.size := hS.lt
  have hq31 : bp < w28.heap.size := lt_cell (hC.at 0 rfl)
  have hq32 : w.heap.size < w28.heap.size := lt_cell (hC.at 5 rfl)
  have g := Gr.alloc w28 (.cells #[Vi ((askS l t s) i 0), Vi ((askS l t s) i 1), Vi ((askS l t s) i 2), Vi ((askS l t s) i 3), Vi ((askS l t s) i 4), Vi ((askS l t s) i 5), Vi ((askS l t s) i 6), Vi ((askS l t s) i 7), Vi ((askS l t s) i 8), Vi ((askS l t s) i 9), Vi ((askS l t s) i 10), Vi ((askS l t s) i 11), Vi ((askS l t s) i 12), Vi ((askS l t s) i 13), Vi ((askS l t s) i 14), Vi ((askS l t s) i 15), .bool (bz ((askS l t s) i 16))] 104)
  have hb := heap_alloc_new w28 (.cells #[Vi ((askS l t s) i 0), Vi ((askS l t s) i 1), Vi ((askS l t s) i 2), Vi ((askS l t s) i 3), Vi ((askS l t s) i 4), Vi ((askS l t s) i 5), Vi ((askS l t s) i 6), Vi ((askS l t s) i 7), Vi ((askS l t s) i 8), Vi ((askS l t s) i 9), Vi ((askS l t s) i 10), Vi ((askS l t s) i 11), Vi ((askS l t s) i 12), Vi ((askS l t s) i 13), Vi ((askS l t s) i 14), Vi ((askS l t s) i 15), .bool (bz ((askS l t s) i 16))] 104)
  have hbl : w28.heap.size < (w28.alloc (.cells #[Vi ((askS l t s) i 0), Vi ((askS l t s) i 1), Vi ((askS l t s) i 2), Vi ((askS l t s) i 3), Vi ((askS l t s) i 4), Vi ((askS l t s) i 5), Vi ((askS l t s) i 6), Vi ((askS l t s) i 7), Vi ((askS l t s) i 8), Vi ((askS l t s) i 9), Vi ((askS l t s) i 10), Vi ((askS l t s) i 11), Vi ((askS l t s) i 12), Vi ((askS l t s) i 13), Vi ((askS l t s) i 14), Vi ((askS l t s) i 15), .bool (bz ((askS l t s) i 16))] 104)).heap.size := by simp
  have hC2 : RCells (w28.alloc (.cells #[Vi ((askS l t s) i 0), Vi ((askS l t s) i 1), Vi ((askS l t s) i 2), Vi ((askS l t s) i 3), Vi ((askS l t s) i 4), Vi ((askS l t s) i 5), Vi ((askS l t s) i 6), Vi ((askS l t s) i 7), Vi ((askS l t s) i 8), Vi ((askS l t s) i 9), Vi ((askS l t s) i 10), Vi ((askS l t s) i 11), Vi ((askS l t s) i 12), Vi ((askS l t s) i 13), Vi ((askS l t s) i 14), Vi ((askS l t s) i 15), .bool (bz ((askS l t s) i 16))] 104)) [(Ad bp 0, Vi gr), (Ad bp 1, Vi hold), (Ad bp 2, .slice na n nc), (Ad bp 3, .slice la m lc), (Ad bp 4, .slice (some ⟨bn, 0, none⟩) n cap), (Ad w.heap.size 0, Vp bp), (⟨bn, i * 17, none⟩, Vi ((askS l t s) i 0)), (⟨bn, i * 17 + 1, none⟩, Vi ((askS l t s) i 1)), (⟨bn, i * 17 + 2, none⟩, Vi ((askS l t s) i 2)), (⟨bn, i * 17 + 3, none⟩, Vi ((askS l t s) i 3)), (⟨bn, i * 17 + 4, none⟩, Vi ((askS l t s) i 4)), (⟨bn, i * 17 + 5, none⟩, Vi ((askS l t s) i 5)), (⟨bn, i * 17 + 6, none⟩, Vi ((askS l t s) i 6)), (⟨bn, i * 17 + 7, none⟩, Vi ((askS l t s) i 7)), (⟨bn, i * 17 + 8, none⟩, Vi ((askS l t s) i 8)), (⟨bn, i * 17 + 9, none⟩, Vi ((askS l t s) i 9)), (⟨bn, i * 17 + 10, none⟩, Vi ((askS l t s) i 10)), (⟨bn, i * 17 + 11, none⟩, Vi ((askS l t s) i 11)), (⟨bn, i * 17 + 12, none⟩, Vi ((askS l t s) i 12)), (⟨bn, i * 17 + 13, none⟩, Vi ((askS l t s) i 13)), (⟨bn, i * 17 + 14, none⟩, Vi ((askS l t s) i 14)), (⟨bn, i * 17 + 15, none⟩, Vi ((askS l t s) i 15)), (⟨bn, i * 17 + 16, none⟩, .bool (bz ((askS l t s) i 16))), (Ad w28.heap.size 0, Vi ((askS l t s) i 0)), (Ad w28.heap.size 1, Vi ((askS l t s) i 1)), (Ad w28.heap.size 2, Vi ((askS l t s) i 2)), (Ad w28.heap.size 3, Vi ((askS l t s) i 3)), (Ad w28.heap.size 4, Vi ((askS l t s) i 4)), (Ad w28.heap.size 5, Vi ((askS l t s) i 5)), (Ad w28.heap.size 6, Vi ((askS l t s) i 6)), (Ad w28.heap.size 7, Vi ((askS l t s) i 7)), (Ad w28.heap.size 8, Vi ((askS l t s) i 8)), (Ad w28.heap.size 9, Vi ((askS l t s) i 9)), (Ad w28.heap.size 10, Vi ((askS l t s) i 10)), (Ad w28.heap.size 11, Vi ((askS l t s) i 11)), (Ad w28.heap.size 12, Vi ((askS l t s) i 12)), (Ad w28.heap.size 13, Vi ((askS l t s) i 13)), (Ad w28.heap.size 14, Vi ((askS l t s) i 14)), (Ad w28.heap.size 15, Vi ((askS l t s) i 15)), (Ad w28.heap.size 16, .bool (bz ((askS l t s) i 16)))] := hC.box (b := w28.heap.size) #[Vi ((askS l t s) i 0), Vi ((askS l t s) i 1), Vi ((askS l t s) i 2), Vi ((askS l t s) i 3), Vi ((askS l t s) i 4), Vi ((askS l t s) i 5), Vi ((askS l t s) i 6), Vi ((askS l t s) i 7), Vi ((askS l t s) i 8), Vi ((askS l t s) i 9), Vi ((askS l t s) i 10), Vi ((askS l t s) i 11), Vi ((askS l t s) i 12), Vi ((askS l t s) i 13), Vi ((askS l t s) i 14), Vi ((askS l t s) i 15), .bool (bz ((askS l t s) i 16))] 104 rfl
  generalize w28.alloc (.cells #[Vi ((askS l t s) i 0), Vi ((askS l t s) i 1), Vi ((askS l t s) i 2), Vi ((askS l t s) i 3), Vi ((askS l t s) i 4), Vi ((askS l t s) i 5), Vi ((askS l t s) i 6), Vi ((askS l t s) i 7), Vi ((askS l t s) i 8), Vi ((askS l t s) i 9), Vi ((askS l t s) i 10), Vi ((askS l t s) i 11), Vi ((askS l t s) i 12), Vi ((askS l t s) i 13), Vi ((askS l t s) i 14), Vi ((askS l t s) i 15), .bool (bz ((askS l t s) i 16))] 104) = w33 at *
  replace G := G.trans g
  replace hC := hC2
  clear hC2
  replace hE := hE.thenGr g
  replace hI1 := hI1.thenGr g
  replace hP := hP.gr g
  replace hmk := hmk.gr g
  replace hS := hS.gr g
  clear g hb hbl
  refine Y.nil ?_
  replace F : Fr ac 59 [(0, Vp bp), (1, Vi t), (2, Vp w.heap.size), (4, Vi (asksG i (askS l t s))), (8, Vp w28.heap.size), (12, .func (.func 96) #[] #[Vp bx, Vp bt, Vp bk]), (47, .slice (some ⟨bn, 0, none⟩) n cap), (48, Vi n), (49, Vi i), (50, .bool true)] [{ target := .collected w14.heap.size, args := #[] }] := F.sub _
  refine X.thenN ?_
  refine Y.lit (by kernel_rfl) ?_
  refine Y.pval F (X.w0 rfl) rfl (X.move rfl (F.e 4 rfl)) ?_
  clear F ac
  intro ac F
  refine Y.pval F (X.w0 rfl) rfl (X.field rfl (F.e 8 rfl) (X.fld Try.underlying104 rfl (Try.siz3 _) rfl rfl)) ?_
  clear F ac
  intro ac F
  refine Y.pval F (X.w0 rfl) rfl (X.load rfl (F.e 54 rfl) (X.ld1 (Try.agg3 _) (hC.at 28 rfl))) ?_
  clear F ac
  intro ac F
  refine Y.pval F (X.w0 rfl) rfl (X.binop rfl (F.e 53 rfl) (F.e 55 rfl) (X.orI Try.underlying3 rfl)) ?_
  clear F ac
  intro ac F
  refine Y.pval F (X.w0 rfl) rfl (X.assign rfl (F.e 56 rfl)) ?_
  clear F ac
  intro ac F
  refine Y.nil ?_
  replace F : Fr ac 59 [(0, Vp bp), (1, Vi t), (2, Vp w.heap.size), (4, Vi (orV (asksG i (askS l t s) : Int) ((askS l t s) i 5 : Int))), (8, Vp w28.heap.size), (12, .func (.func 96) #[] #[Vp bx, Vp bt, Vp bk]), (47, .slice (some ⟨bn, 0, none⟩) n cap), (48, Vi n), (49, Vi i), (50, .bool true)] [{ target := .collected w14.heap.size, args := #[] }] := F.sub _
  refine X.blockN ?_
  refine X.thenN ?_
  refine Y.lit (by kernel_rfl) ?_
  refine Y.pval F (X.w0 rfl) rfl (X.binop rfl (F.e 49 rfl) (X.kc (Vi 1) rfl) (X.addI Try.underlying3 rfl (by omega) (by omega))) ?_
  clear F ac
  intro ac F
  refine Y.pval F (X.w0 rfl) rfl (X.move rfl (F.e 57 rfl)) ?_
  clear F ac
  intro ac F
  refine Y.nil ?_
  replace F : Fr ac 59 [(0, Vp bp), (1, Vi t), (2, Vp w.heap.size), (4, Vi (orV (asksG i (askS l t s) : Int) ((askS l t s) i 5 : Int))), (8, Vp w28.heap.size), (12, .func (.func 96) #[] #[Vp bx, Vp bt, Vp bk]), (47, .slice (some ⟨bn, 0, none⟩) n cap), (48, Vi n), (49, Vi ((i : Int) + 1)), (50, .bool true)] [{ target := .collected w14.heap.size, args := #[] }] := F.sub _
  refine X.thenN ?_
  refine ⟨_, ?_, i + 1, rfl, by omega, hI1, hS, F.sub _⟩
  omega
end
end Go.Proofs.Ytoalamakhjbedaa
