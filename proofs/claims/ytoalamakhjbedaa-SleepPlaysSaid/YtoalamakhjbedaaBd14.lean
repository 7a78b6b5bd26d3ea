/- Several texts of this claim in one file. (1) Contracts: slices.ContainsFunc of nudges that are not right. (2) Contract: the beginning of a play. (3) Contract: Play. -/
import Derived.Test.YtoalamakhjbedaaBd5
import Derived.Test.YtoalamakhjbedaaBd2
import Derived.Test.YtoalamakhjbedaaBd3
import Derived.Test.YtoalamakhjbedaaBd12
namespace Go.Proofs.Ytoalamakhjbedaa
section
open Go.RowKit

set_option maxRecDepth 100000 in
set_option maxHeartbeats 400000 in
theorem beg1_any (bc bt : Nat) (na : Option Addr) (n nc : Nat) (gr hold t : Int) (nd : List (List Int)) (x : List Int) (w : World) (hcb : RCells w [(⟨bc, 0, none⟩, .int .i64 gr), (⟨bc, 1, none⟩, .int .i64 hold), (⟨bc, 2, none⟩, .slice na n nc), (⟨bt, 0, none⟩, .int .i64 t)]) (hnd : StAt w 5 na n nd) (hc : CluOk gr hold nd) (ht : 0 ≤ t ∧ t ≤ 1000) :
  Calls Try.prog 68 #[.agg #[Vi (nv x 0), Vi (nv x 1), Vi (nv x 2), Vi (nv x 3)], Vp bc, Vp bt] w fun e w' => e = .returned (.bool (!rightB gr nd t x)) ∧ Gr w w' := by
 have G := Gr.refl w
 have hC := hcb
 have hlen := hnd.len
 refine Y.calls 10 Try.func68 rfl rfl ?_
 intro ac F0
 have F : Fr ac 10 [(0, .agg #[Vi (nv x 0), Vi (nv x 1), Vi (nv x 2), Vi (nv x 3)]), (1, Vp bc), (2, Vp bt)] := F0.sub _
 clear F0
 refine Y.seq ?_
 refine Y.lit (by kernel_rfl) ?_
 refine Y.pv F (X.box rfl (F.e 0 rfl) X.bx) ?_;clear F ac;intro ac F
 have g := Gr.alloc w (.cells #[Vi (nv x 0), Vi (nv x 1), Vi (nv x 2), Vi (nv x 3)] 33)
 have hb := heap_alloc_new w (.cells #[Vi (nv x 0), Vi (nv x 1), Vi (nv x 2), Vi (nv x 3)] 33)
 have hbl : w.heap.size < (w.alloc (.cells #[Vi (nv x 0), Vi (nv x 1), Vi (nv x 2), Vi (nv x 3)] 33)).heap.size := by simp
 have hC2 : RCells (w.alloc (.cells #[Vi (nv x 0), Vi (nv x 1), Vi (nv x 2), Vi (nv x 3)] 33)) [(Ad bc 0, Vi gr), (Ad bc 1, Vi hold), (Ad bc 2, .slice na n nc), (Ad bt 0, Vi t), (Ad w.heap.size 0, Vi (nv x 0)), (Ad w.heap.size 1, Vi (nv x 1)), (Ad w.heap.size 2, Vi (nv x 2)), (Ad w.heap.size 3, Vi (nv x 3))] := hC.box (b := w.heap.size) #[Vi (nv x 0), Vi (nv x 1), Vi (nv x 2), Vi (nv x 3)] 33 rfl
 generalize w.alloc (.cells #[Vi (nv x 0), Vi (nv x 1), Vi (nv x 2), Vi (nv x 3)] 33) = w3 at *
 replace G := G.trans g
 replace hC := hC2
 clear hC2
 replace hnd := hnd.gr g
 clear g hb hbl
 refine Y.pv F (X.assign rfl (X.kc (.bool false) rfl)) ?_;clear F ac;intro ac F
 refine Y.nil ?_
 replace F : Fr ac 10 [(1, Vp bc), (2, Vp bt), (3, Vp w.heap.size)] := F.sub _
 refine X.thenN ?_
 refine Y.seq ?_
 refine Y.lit (by kernel_rfl) ?_
 refine Y.pv F (X.load rfl (F.e 1 rfl) (X.ldN (Try.agg24 _) (Try.siz24 _) (Y.atz (⟨bc, 0, none⟩) (Y.AtFrom.cons (hC.at 0 rfl) (Y.AtFrom.cons (hC.at 1 rfl) (Y.AtFrom.cons (hC.at 2 rfl) (Y.AtFrom.nil _ _ _))))))) ?_;clear F ac;intro ac F
 refine Y.pv F (X.load rfl (F.e 2 rfl) (X.ld1 (Try.agg3 _) (hC.at 3 rfl))) ?_;clear F ac;intro ac F
 refine Y.pv F (X.load rfl (F.e 3 rfl) (X.ldN (Try.agg33 _) (Try.siz33 _) (Y.atz (⟨w.heap.size, 0, none⟩) (Y.AtFrom.cons (hC.at 4 rfl) (Y.AtFrom.cons (hC.at 5 rfl) (Y.AtFrom.cons (hC.at 6 rfl) (Y.AtFrom.cons (hC.at 7 rfl) (Y.AtFrom.nil _ _ _)))))))) ?_;clear F ac;intro ac F
 refine Y.pcall F (X.w0 rfl) rfl (X.enter (F := 69) rfl (X.kc (.func (.func 69) #[] #[]) rfl) (X.a3 (F.e 5 rfl) (F.e 6 rfl) (F.e 7 rfl)) (enters_of Try.func69 (by kernel_rfl) rfl _)) (right_any na n nc gr hold t nd x w3 hnd hc ht) ?_
 clear F ac
 rintro e w4 ⟨rfl, g⟩
 refine ⟨_, rfl, ?_⟩
 intro ac F
 replace G := G.trans g
 replace hC := hC.gr g
 replace hnd := hnd.gr g
 clear g
 refine Y.pv F (X.notB rfl (F.e 8 rfl) rfl) ?_;clear F ac;intro ac F
 refine Y.pv F (X.assign rfl (F.e 9 rfl)) ?_;clear F ac;intro ac F
 refine Y.nil ?_
 replace F : Fr ac 10 [(4, .bool (!(rightB gr nd t x)))] := F.sub _
 refine X.thenN ?_
 refine Y.ret ?_
 exact Y.ret0 (v := .bool (!(rightB gr nd t x))) F (Y.rs1 F rfl (by kernel_rfl)) ⟨rfl, G⟩
set_option maxRecDepth 100000 in
set_option maxHeartbeats 400000 in
theorem indexF_any (bc bt : Nat) (na la : Option Addr) (n nc m lc : Nat) (gr hold t : Int) (nd l : List (List Int)) (w : World) (hcb : RCells w [(⟨bc, 0, none⟩, .int .i64 gr), (⟨bc, 1, none⟩, .int .i64 hold), (⟨bc, 2, none⟩, .slice na n nc), (⟨bt, 0, none⟩, .int .i64 t)]) (hnd : StAt w 5 na n nd) (hc : CluOk gr hold nd) (ht : 0 ≤ t ∧ t ≤ 1000) (hl : StAt w 4 la m l) :
  Calls Try.prog 83 #[.slice la m lc, .func (.func 68) #[] #[Vp bc, Vp bt]] w fun e w' => ∃ z, e = .returned (Vi z) ∧ decide (0 ≤ z) = !(allN (fun i => rightB gr nd t (l[i]?.getD [])) m) ∧ Gr w w' := by
 have G := Gr.refl w
 have hC := hcb
 have hlen := hnd.len
 have hlm := hl.lt
 have hll := hl.len
 refine Y.calls 19 Try.func83 rfl rfl ?_
 intro ac F0
 have F : Fr ac 19 [(0, .slice la m lc), (1, .func (.func 68) #[] #[Vp bc, Vp bt])] := F0.sub _
 clear F0
 refine Y.seq ?_
 refine Y.lit (by kernel_rfl) ?_
 refine Y.pv F (X.assign rfl (X.kc (Vi 0) rfl)) ?_;clear F ac;intro ac F
 refine Y.nil ?_
 replace F : Fr ac 19 [(0, .slice la m lc), (1, .func (.func 68) #[] #[Vp bc, Vp bt])] := F.sub _
 refine X.thenN ?_
 refine Y.seq ?_
 refine Y.seq ?_
 refine Y.lit (by kernel_rfl) ?_
 refine Y.pv F (X.move rfl (F.e 0 rfl)) ?_;clear F ac;intro ac F
 refine Y.pv F (X.len1 Try.underlying25 rfl (F.e 6 rfl)) ?_;clear F ac;intro ac F
 refine Y.pv F (X.move rfl (X.kc (Vi 0) rfl)) ?_;clear F ac;intro ac F
 refine Y.nil ?_
 replace F : Fr ac 19 [(0, .slice la m lc), (1, .func (.func 68) #[] #[Vp bc, Vp bt]), (7, Vi m), (8, Vi 0)] := F.sub _
 refine X.thenN ?_
 refine Y.block ?_
 have hndB := hnd
 have hlB := hl
 have hCB := hC
 have GB := G
 refine Y.loop (fun me_ ac wr => ∃ (i : Nat), me_ = m - i ∧ Gr w wr ∧ i ≤ m ∧ allN (fun i => rightB gr nd t (l[i]?.getD [])) i = true ∧ Fr ac 19 [(0, .slice la m lc), (1, .func (.func 68) #[] #[Vp bc, Vp bt]), (7, Vi m), (8, Vi i)]) _ ⟨0, rfl, Gr.refl _, Nat.zero_le _, rfl, F.sub _⟩ ?_
 clear F
 intro me_ ac w3 hI
 obtain ⟨i, rfl, gr, hi0, hall, F⟩ := hI
 replace G := GB.trans gr
 replace hC := hCB.gr gr
 replace hnd := hndB.gr gr
 replace hl := hlB.gr gr
 have GB_ := gr
 clear gr
 refine Y.seq ?_
 refine Y.lit (by kernel_rfl) ?_
 refine Y.pv F (X.binop rfl (F.e 8 rfl) (F.e 7 rfl) (X.lssI Try.underlying3 rfl)) ?_;clear F ac;intro ac F
 refine Y.nil ?_
 replace F : Fr ac 19 [(0, .slice la m lc), (1, .func (.func 68) #[] #[Vp bc, Vp bt]), (7, Vi m), (8, Vi i), (9, .bool (decide ((i : Int) < m)))] := F.sub _
 refine X.thenN ?_
 refine Y.seq ?_
 cases h4 : decide ((i : Int) < m) with
 | false =>
  try rw [h4] at F
  have h4p : ¬ ((i : Int) < m) := of_decide_eq_false h4
  have him : i = m := by omega
  rw [him] at hall
  refine Y.condF (F.e 9 rfl) ?_
  refine Y.exit ?_
  refine X.thenX ?_
  refine X.thenX ?_
  refine X.blockX ?_
  refine X.thenN ?_
  refine Y.seq ?_
  refine Y.lit (by kernel_rfl) ?_
  refine Y.pv F (X.assign rfl (X.kc (Vi (-1)) rfl)) ?_;clear F ac;intro ac F
  refine Y.nil ?_
  replace F : Fr ac 19 [(4, Vi (-1))] := F.sub _
  refine X.thenN ?_
  refine Y.ret ?_
  exact Y.ret0 (v := Vi (-1)) F (Y.rs1 F rfl (by kernel_rfl)) ⟨_, rfl, by rw [hall]; decide, G⟩
 | true =>
  try rw [h4] at F
  have h4p : ((i : Int) < m) := of_decide_eq_true h4
  refine Y.condT (F.e 9 rfl) ?_
  refine Y.skip ?_
  refine X.thenN ?_
  refine Y.seq ?_
  refine Y.block ?_
  refine Y.seq ?_
  refine Y.lit (by kernel_rfl) ?_
  refine Y.pv F (X.move rfl (F.e 8 rfl)) ?_;clear F ac;intro ac F
  refine Y.pv F (X.assign rfl (F.e 10 rfl)) ?_;clear F ac;intro ac F
  refine Y.nil ?_
  replace F : Fr ac 19 [(0, .slice la m lc), (1, .func (.func 68) #[] #[Vp bc, Vp bt]), (5, Vi i), (7, Vi m), (8, Vi i)] := F.sub _
  refine X.thenN ?_
  refine Y.seq ?_
  refine Y.lit (by kernel_rfl) ?_
  refine Y.pv F (X.move rfl (F.e 1 rfl)) ?_;clear F ac;intro ac F
  refine Y.pv F (X.move rfl (F.e 0 rfl)) ?_;clear F ac;intro ac F
  refine Y.pv F (X.move rfl (F.e 5 rfl)) ?_;clear F ac;intro ac F
  obtain ⟨pd5, pe5, -, -, pc5⟩ := hl.at (j := i) (by omega)
  subst pe5
  replace hC : RCells w3 [(Ad bc 0, Vi gr), (Ad bc 1, Vi hold), (Ad bc 2, .slice na n nc), (Ad bt 0, Vi t), (pd5.add (i * 4), Vi (cv l i 0)), (⟨(pd5.add (i * 4)).block, (pd5.add (i * 4)).off + 1, none⟩, Vi (cv l i 1)), (⟨(pd5.add (i * 4)).block, (pd5.add (i * 4)).off + 2, none⟩, Vi (cv l i 2)), (⟨(pd5.add (i * 4)).block, (pd5.add (i * 4)).off + 3, none⟩, Vi (cv l i 3))] := hC.append ((RCells.cons (pc5 0 (by decide)) (RCells.cons (pc5 1 (by decide)) (RCells.cons (pc5 2 (by decide)) (RCells.cons (pc5 3 (by decide)) (RCells.nil _))))))
  clear pc5
  refine Y.pv F (X.index rfl (F.e 12 rfl) (F.e 13 rfl) (X.idx (k := i) Try.underlying25 (Try.siz33 _) (by omega) (by omega) rfl)) ?_;clear F ac;intro ac F
  refine Y.pv F (X.load rfl (F.e 14 rfl) (X.ldN (Try.agg33 _) (Try.siz33 _) (Y.atz (pd5.add (i * 4)) (Y.AtFrom.cons (hC.at 4 rfl) (Y.AtFrom.cons (hC.at 5 rfl) (Y.AtFrom.cons (hC.at 6 rfl) (Y.AtFrom.cons (hC.at 7 rfl) (Y.AtFrom.nil _ _ _)))))))) ?_;clear F ac;intro ac F
  refine Y.pcall F (X.w0 rfl) rfl (X.enter (F := 68) rfl (F.e 11 rfl) (X.a1 (F.e 15 rfl)) (enters_of Try.func68 (by kernel_rfl) rfl _)) (beg1_any bc bt na n nc gr hold t nd (l[i]?.getD []) w3 ((RCells.cons (hC.at 0 rfl) (RCells.cons (hC.at 1 rfl) (RCells.cons (hC.at 2 rfl) (RCells.cons (hC.at 3 rfl) (RCells.nil _)))))) hnd hc ht) ?_
  clear F ac
  rintro e w6 ⟨rfl, g⟩
  refine ⟨_, rfl, ?_⟩
  intro ac F
  replace G := G.trans g
  replace hC := hC.gr g
  replace GB_ := GB_.trans g
  replace hnd := hnd.gr g
  replace hl := hl.gr g
  clear g
  refine Y.nil ?_
  replace F : Fr ac 19 [(0, .slice (some pd5) m lc), (1, .func (.func 68) #[] #[Vp bc, Vp bt]), (5, Vi i), (7, Vi m), (8, Vi i), (16, .bool (!(rightB gr nd t (l[i]?.getD []))))] := F.sub _
  refine X.thenN ?_
  cases h7 : rightB gr nd t (l[i]?.getD []) with
  | false =>
   try rw [h7] at F
   refine Y.condT (F.e 16 rfl) ?_
   refine Y.seq ?_
   refine Y.lit (by kernel_rfl) ?_
   refine Y.pv F (X.move rfl (F.e 5 rfl)) ?_;clear F ac;intro ac F
   refine Y.pv F (X.assign rfl (F.e 17 rfl)) ?_;clear F ac;intro ac F
   refine Y.nil ?_
   replace F : Fr ac 19 [(4, Vi i)] := F.sub _
   refine X.thenN ?_
   refine Y.ret ?_
   refine X.blockR ?_
   refine X.thenR ?_
   refine X.thenR ?_
   refine X.blockR ?_
   refine X.thenR ?_
   exact Y.ret0 (v := Vi i) F (Y.rs1 F rfl (by kernel_rfl)) ⟨_, rfl, by rw [allN_bad (i := i) (by omega) (by simpa using h7)]; simp, G⟩
  | true =>
   try rw [h7] at F
   refine Y.condF (F.e 16 rfl) ?_
   refine Y.skip ?_
   refine X.blockN ?_
   refine X.thenN ?_
   refine Y.lit (by kernel_rfl) ?_
   refine Y.pv F (X.binop rfl (F.e 8 rfl) (X.kc (Vi 1) rfl) (X.addI Try.underlying3 rfl (by omega) (by omega))) ?_;clear F ac;intro ac F
   refine Y.pv F (X.move rfl (F.e 18 rfl)) ?_;clear F ac;intro ac F
   refine Y.nil ?_
   replace F : Fr ac 19 [(0, .slice (some pd5) m lc), (1, .func (.func 68) #[] #[Vp bc, Vp bt]), (7, Vi m), (8, Vi ((i : Int) + 1))] := F.sub _
   refine X.thenN ?_
   refine ⟨_, ?_, i + 1, rfl, GB_, by omega, by simp only [allN, hall, Bool.true_and]; simpa using h7, F.sub _⟩
   omega
set_option maxRecDepth 100000 in
set_option maxHeartbeats 400000 in
theorem contF_any (bc bt : Nat) (na la : Option Addr) (n nc m lc : Nat) (gr hold t : Int) (nd l : List (List Int)) (w : World) (hcb : RCells w [(⟨bc, 0, none⟩, .int .i64 gr), (⟨bc, 1, none⟩, .int .i64 hold), (⟨bc, 2, none⟩, .slice na n nc), (⟨bt, 0, none⟩, .int .i64 t)]) (hnd : StAt w 5 na n nd) (hc : CluOk gr hold nd) (ht : 0 ≤ t ∧ t ≤ 1000) (hl : StAt w 4 la m l) :
  Calls Try.prog 67 #[.slice la m lc, .func (.func 68) #[] #[Vp bc, Vp bt]] w fun e w' => e = .returned (.bool (!(allN (fun i => rightB gr nd t (l[i]?.getD [])) m))) ∧ Gr w w' := by
 have G := Gr.refl w
 have hC := hcb
 have hlen := hnd.len
 have hlm := hl.lt
 have hll := hl.len
 refine Y.calls 9 Try.func67 rfl rfl ?_
 intro ac F0
 have F : Fr ac 9 [(0, .slice la m lc), (1, .func (.func 68) #[] #[Vp bc, Vp bt])] := F0.sub _
 clear F0
 refine Y.seq ?_
 refine Y.lit (by kernel_rfl) ?_
 refine Y.pv F (X.assign rfl (X.kc (.bool false) rfl)) ?_;clear F ac;intro ac F
 refine Y.nil ?_
 replace F : Fr ac 9 [(0, .slice la m lc), (1, .func (.func 68) #[] #[Vp bc, Vp bt])] := F.sub _
 refine X.thenN ?_
 refine Y.seq ?_
 refine Y.lit (by kernel_rfl) ?_
 refine Y.pv F (X.move rfl (F.e 0 rfl)) ?_;clear F ac;intro ac F
 refine Y.pv F (X.move rfl (F.e 1 rfl)) ?_;clear F ac;intro ac F
 refine Y.pcall F (X.w0 rfl) rfl (X.enter (F := 83) rfl (X.kc (.func (.func 83) #[] #[]) rfl) (X.a2 (F.e 5 rfl) (F.e 6 rfl)) (enters_of Try.func83 (by kernel_rfl) rfl _)) (indexF_any bc bt na la n nc m lc gr hold t nd l w ((RCells.cons (hC.at 0 rfl) (RCells.cons (hC.at 1 rfl) (RCells.cons (hC.at 2 rfl) (RCells.cons (hC.at 3 rfl) (RCells.nil _)))))) hnd hc ht hl) ?_
 clear F ac
 rintro e w3 ⟨z, rfl, hz, g⟩
 refine ⟨_, rfl, ?_⟩
 intro ac F
 replace G := G.trans g
 replace hC := hC.gr g
 replace hnd := hnd.gr g
 replace hl := hl.gr g
 clear g
 refine Y.pv F (X.binop rfl (F.e 7 rfl) (X.kc (Vi 0) rfl) (X.geqI Try.underlying3 rfl)) ?_;clear F ac;intro ac F
 refine Y.pv F (X.assign rfl (F.e 8 rfl)) ?_;clear F ac;intro ac F
 refine Y.nil ?_
 replace F : Fr ac 9 [(4, .bool (decide ((0 : Int) ≤ z)))] := F.sub _
 refine X.thenN ?_
 refine Y.ret ?_
 exact Y.ret0 (v := .bool (decide ((0 : Int) ≤ z))) F (Y.rs1 F rfl (by kernel_rfl)) ⟨by rw [← hz], G⟩
end
section
open Go.RowKit

theorem playE_bad1 {gr hold t : Int} {nd l : List (List Int)} {m : Nat} (hl : l.length = m) (hE : ticksE gr hold nd t = 0) (h : 200 < m) : playE gr hold nd t l = 91 := by
  unfold playE nudgeB
  rw [if_neg (by rw [hE]; simp), hl]
  simp [show ¬ m ≤ 200 by omega]
theorem playE_bad2 {gr hold t : Int} {nd l : List (List Int)} {m : Nat} (hl : l.length = m) (hE : ticksE gr hold nd t = 0) (h : allN (fun i => rightB gr nd t (l[i]?.getD [])) m = false) : playE gr hold nd t l = 91 := by
  unfold playE nudgeB
  rw [if_neg (by rw [hE]; simp), hl, h]
  simp
theorem playE_good {gr hold t : Int} {nd l : List (List Int)} {m n : Nat} (hn : nd.length = n) (hl : l.length = m) (hE : ticksE gr hold nd t = 0) (hm : m ≤ 200) (h : allN (fun i => rightB gr nd t (l[i]?.getD [])) m = true) : playE gr hold nd t l = 0 := by
  unfold playE nudgeB
  rw [if_neg (by rw [hE]; simp), hl, h]
  simp [hm]
theorem s9p {W : World} {bp : Nat} {gr hold : Int} {na la pa : Option Addr} {n nc m lc cap : Nat} (h : OwnP W bp 5 (PVal gr hold na n nc la m lc (.slice pa n cap))) : RCells W (PlC bp 0 gr hold na la pa n nc m lc cap) := by
  intro p hp
  simp only [PlC, List.mem_cons, List.not_mem_nil, or_false] at hp
  rcases hp with rfl | rfl | rfl | rfl | rfl
  · exact h.cell (k := 0) (by decide)
  · exact h.cell (k := 1) (by decide)
  · exact h.cell (k := 2) (by decide)
  · exact h.cell (k := 3) (by decide)
  · exact h.cell (k := 4) (by decide)

set_option maxRecDepth 100000 in
set_option maxHeartbeats 1000000 in
theorem begin_any (na la : Option Addr) (n nc m lc : Nat) (gr hold t : Int) (nd l : List (List Int)) (w : World) (hnd : StAt w 5 na n nd) (hl : StAt w 4 la m l) :
  Calls Try.prog 44 #[.agg #[Vi gr, Vi hold, .slice na n nc], Vi t, .slice la m lc] w fun e w' => (playE gr hold nd t l ≠ 0 → e = .returned (.tuple #[.pointer none, Vi (playE gr hold nd t l)])) ∧ Gr w w' ∧ (playE gr hold nd t l = 0 → ∃ bp, e = .returned (.tuple #[Vp bp, Vi 0]) ∧ Begun w w' gr hold na la n nc m lc l nd bp) := by
 have G := Gr.refl w
 have hnd0 := hnd
 have hl0 := hl
 have hlm := hl.lt
 have hln := hnd.lt
 refine Y.calls 52 Try.func44 rfl rfl ?_
 intro ac F0
 have F : Fr ac 52 [(0, .agg #[Vi gr, Vi hold, .slice na n nc]), (1, Vi t), (2, .slice la m lc)] := F0.sub _
 clear F0
 refine Y.seq ?_
 refine Y.lit (by kernel_rfl) ?_
 refine Y.pv F (X.box rfl (F.e 0 rfl) X.bx) ?_;clear F ac;intro ac F
 have g := Gr.alloc w (.cells #[Vi gr, Vi hold, .slice na n nc] 24)
 have hb := heap_alloc_new w (.cells #[Vi gr, Vi hold, .slice na n nc] 24)
 have hbl : w.heap.size < (w.alloc (.cells #[Vi gr, Vi hold, .slice na n nc] 24)).heap.size := by simp
 have hC2 : RCells (w.alloc (.cells #[Vi gr, Vi hold, .slice na n nc] 24)) [(Ad w.heap.size 0, Vi gr), (Ad w.heap.size 1, Vi hold), (Ad w.heap.size 2, .slice na n nc)] := (RCells.nil w).box (b := w.heap.size) #[Vi gr, Vi hold, .slice na n nc] 24 rfl
 generalize w.alloc (.cells #[Vi gr, Vi hold, .slice na n nc] 24) = w3 at *
 replace G := G.trans g
 have hC := hC2
 clear hC2
 replace hnd := hnd.gr g
 replace hl := hl.gr g
 clear g hb hbl
 refine Y.pv F (X.box rfl (F.e 1 rfl) (Y.bx1 rfl)) ?_;clear F ac;intro ac F
 have hq0 : w.heap.size < w3.heap.size := lt_cell (hC.at 0 rfl)
 have g := Gr.alloc w3 (.cells #[Vi t] 3)
 have hb := heap_alloc_new w3 (.cells #[Vi t] 3)
 have hbl : w3.heap.size < (w3.alloc (.cells #[Vi t] 3)).heap.size := by simp
 have hC2 : RCells (w3.alloc (.cells #[Vi t] 3)) [(Ad w.heap.size 0, Vi gr), (Ad w.heap.size 1, Vi hold), (Ad w.heap.size 2, .slice na n nc), (Ad w3.heap.size 0, Vi t)] := hC.box (b := w3.heap.size) #[Vi t] 3 rfl
 generalize w3.alloc (.cells #[Vi t] 3) = w4 at *
 replace G := G.trans g
 replace hC := hC2
 clear hC2
 replace hnd := hnd.gr g
 replace hl := hl.gr g
 have hT := ownP_zero (val := NV (startS nd)) hb
 clear g hb hbl
 refine Y.pv F (X.assign rfl (X.kc (.pointer none) rfl)) ?_;clear F ac;intro ac F
 refine Y.pv F (X.assign rfl (X.kc (Vi 0) rfl)) ?_;clear F ac;intro ac F
 refine Y.nil ?_
 replace F : Fr ac 52 [(2, .slice la m lc), (3, Vp w.heap.size), (4, Vp w3.heap.size)] := F.sub _
 refine X.thenN ?_
 refine Y.seq ?_
 refine Y.seq ?_
 refine Y.lit (by kernel_rfl) ?_
 refine Y.pv F (X.load rfl (F.e 3 rfl) (X.ldN (Try.agg24 _) (Try.siz24 _) (Y.atz (⟨w.heap.size, 0, none⟩) (Y.AtFrom.cons (hC.at 0 rfl) (Y.AtFrom.cons (hC.at 1 rfl) (Y.AtFrom.cons (hC.at 2 rfl) (Y.AtFrom.nil _ _ _))))))) ?_;clear F ac;intro ac F
 refine Y.pv F (X.load rfl (F.e 4 rfl) (X.ld1 (Try.agg3 _) (hC.at 3 rfl))) ?_;clear F ac;intro ac F
 refine Y.pcall F (X.w0 rfl) rfl (X.enter (F := 50) rfl (X.kc (.func (.func 50) #[] #[]) rfl) (X.a2 (F.e 12 rfl) (F.e 13 rfl)) (enters_of Try.func50 (by kernel_rfl) rfl _)) (ticks_any na n nc gr hold t nd w4 hnd) ?_
 clear F ac
 rintro e w5 ⟨rfl, g⟩
 refine ⟨_, rfl, ?_⟩
 intro ac F
 replace G := G.trans g
 replace hC := hC.gr g
 replace hnd := hnd.gr g
 replace hl := hl.gr g
 replace hT := hT.gr g
 clear g
 refine Y.pv F (X.assign rfl (F.e 14 rfl)) ?_;clear F ac;intro ac F
 refine Y.nil ?_
 replace F : Fr ac 52 [(2, .slice la m lc), (3, Vp w.heap.size), (4, Vp w3.heap.size), (8, Vi (ticksE gr hold nd t))] := F.sub _
 refine X.thenN ?_
 refine Y.seq ?_
 refine Y.lit (by kernel_rfl) ?_
 refine Y.pv F (X.move rfl (F.e 8 rfl)) ?_;clear F ac;intro ac F
 refine Y.pv F (X.binop rfl (F.e 15 rfl) (X.kc (Vi 0) rfl) (X.neqI Try.underlying26 rfl)) ?_;clear F ac;intro ac F
 refine Y.nil ?_
 replace F : Fr ac 52 [(2, .slice la m lc), (3, Vp w.heap.size), (4, Vp w3.heap.size), (8, Vi (ticksE gr hold nd t)), (16, .bool ((ticksE gr hold nd t : Int) != 0))] := F.sub _
 refine X.thenN ?_
 cases h6 : ((ticksE gr hold nd t : Int) != 0) with
 | false =>
  try rw [h6] at F
  have h6p : (ticksE gr hold nd t : Int) = 0 := by simpa using h6
  have hE : ticksE gr hold nd t = 0 := by simpa using h6p
  have hok := (ticksE_ok hE).1
  have ht := (ticksE_ok hE).2
  have h16 : n ≤ 16 := by have := hok.n16; rw [hnd.len] at this; exact this
  refine Y.condF (F.e 16 rfl) ?_
  refine Y.skip ?_
  refine X.thenN ?_
  refine Y.seq ?_
  refine Y.seq ?_
  refine Y.lit (by kernel_rfl) ?_
  refine Y.pv F (X.move rfl (F.e 2 rfl)) ?_;clear F ac;intro ac F
  refine Y.pv F (X.len1 Try.underlying25 rfl (F.e 18 rfl)) ?_;clear F ac;intro ac F
  refine Y.pv F (X.binop rfl (F.e 19 rfl) (X.kc (Vi 200) rfl) (X.gtrI Try.underlying3 rfl)) ?_;clear F ac;intro ac F
  refine Y.pv F (X.move rfl (F.e 20 rfl)) ?_;clear F ac;intro ac F
  cases h7 : decide ((200 : Int) < m) with
  | false =>
   try rw [h7] at F
   have h7p : ¬ ((200 : Int) < m) := of_decide_eq_false h7
   refine Y.pval F (X.w1 rfl (F.yl (j := 3) (d := 21) (b := false) rfl (by kernel_rfl))) rfl (X.move rfl (F.e 2 rfl)) ?_;clear F ac;intro ac F
   refine Y.pval F (X.w1 rfl (F.yl (j := 3) (d := 21) (b := false) rfl (by kernel_rfl))) rfl (Y.fnc rfl (Y.m2 (F.e 3 rfl) (F.e 4 rfl))) ?_;clear F ac;intro ac F
   refine Y.pcall F (X.w1 rfl (F.yl (j := 3) (d := 21) (b := false) rfl (by kernel_rfl))) rfl (X.enter (F := 67) rfl (X.kc (.func (.func 67) #[] #[]) rfl) (X.a2 (F.e 22 rfl) (F.e 23 rfl)) (enters_of Try.func67 (by kernel_rfl) rfl _)) (contF_any (w.heap.size) (w3.heap.size) na la n nc m lc gr hold t nd l w5 ((RCells.cons (hC.at 0 rfl) (RCells.cons (hC.at 1 rfl) (RCells.cons (hC.at 2 rfl) (RCells.cons (hC.at 3 rfl) (RCells.nil _)))))) hnd hok ⟨ht.1, ht.2⟩ hl) ?_
   clear F ac
   rintro e w8 ⟨rfl, g⟩
   refine ⟨_, rfl, ?_⟩
   intro ac F
   replace G := G.trans g
   replace hC := hC.gr g
   replace hnd := hnd.gr g
   replace hl := hl.gr g
   replace hT := hT.gr g
   clear g
   refine Y.pv F (X.pickF rfl (F.e 21 rfl) (F.e 24 rfl)) ?_;clear F ac;intro ac F
   refine Y.nil ?_
   replace F : Fr ac 52 [(2, .slice la m lc), (3, Vp w.heap.size), (25, .bool (!(allN (fun i => rightB gr nd t (l[i]?.getD [])) m)))] := F.sub _
   refine X.thenN ?_
   cases h9 : allN (fun i => rightB gr nd t (l[i]?.getD [])) m with
   | false =>
    try rw [h9] at F
    refine Y.condT (F.e 25 rfl) ?_
    refine Y.seq ?_
    refine Y.lit (by kernel_rfl) ?_
    refine Y.pv F (X.assign rfl (X.kc (.pointer none) rfl)) ?_;clear F ac;intro ac F
    refine Y.pv F (X.assign rfl (X.kc (Vi 91) rfl)) ?_;clear F ac;intro ac F
    refine Y.nil ?_
    replace F : Fr ac 52 [(6, .pointer none), (7, Vi 91)] := F.sub _
    refine X.thenN ?_
    refine Y.ret ?_
    refine X.thenR ?_
    exact Y.ret0 (v := .tuple #[.pointer none, Vi 91]) F (Y.rs2 F rfl (by kernel_rfl) (by kernel_rfl)) ⟨fun _ => by rw [(playE_bad2 hl.len hE (by simpa using h9))], G, fun h => by rw [(playE_bad2 hl.len hE (by simpa using h9))] at h; cases h⟩
   | true =>
    try rw [h9] at F
    refine Y.condF (F.e 25 rfl) ?_
    refine Y.skip ?_
    refine X.thenN ?_
    refine Y.seq ?_
    refine Y.lit (by kernel_rfl) ?_
    refine Y.pv F (X.load rfl (F.e 3 rfl) (X.ldN (Try.agg24 _) (Try.siz24 _) (Y.atz (⟨w.heap.size, 0, none⟩) (Y.AtFrom.cons (hC.at 0 rfl) (Y.AtFrom.cons (hC.at 1 rfl) (Y.AtFrom.cons (hC.at 2 rfl) (Y.AtFrom.nil _ _ _))))))) ?_;clear F ac;intro ac F
    refine Y.pv F (X.move rfl (F.e 2 rfl)) ?_;clear F ac;intro ac F
    refine Y.pv F (Y.bd rfl (X.b2 (F.e 26 rfl) (F.e 27 rfl)) (Try.bd101 _ _ _ _ _ _ _ _ _)) ?_;clear F ac;intro ac F
    refine Y.pv F (X.box rfl (F.e 28 rfl) X.bx) ?_;clear F ac;intro ac F
    have hq1 : w3.heap.size < w8.heap.size := hT.lt
    have g := Gr.alloc w8 (.cells #[Vi gr, Vi hold, .slice na n nc, .slice la m lc, .slice none 0 0] 101)
    have hb := heap_alloc_new w8 (.cells #[Vi gr, Vi hold, .slice na n nc, .slice la m lc, .slice none 0 0] 101)
    have hbl : w8.heap.size < (w8.alloc (.cells #[Vi gr, Vi hold, .slice na n nc, .slice la m lc, .slice none 0 0] 101)).heap.size := by simp
    generalize w8.alloc (.cells #[Vi gr, Vi hold, .slice na n nc, .slice la m lc, .slice none 0 0] 101) = w10 at *
    replace G := G.trans g
    replace hC := hC.gr g
    replace hnd := hnd.gr g
    replace hl := hl.gr g
    replace hT := hT.gr g
    have hB := pval_new hb
    clear g hb hbl
    refine Y.pv F (X.assign rfl (F.e 29 rfl)) ?_;clear F ac;intro ac F
    refine Y.nil ?_
    replace F : Fr ac 52 [(3, Vp w.heap.size), (9, Vp w8.heap.size)] := F.sub _
    refine X.thenN ?_
    refine Y.seq ?_
    refine Y.seq ?_
    refine Y.lit (by kernel_rfl) ?_
    refine Y.pv F (X.field rfl (F.e 3 rfl) (X.fld Try.underlying24 rfl (Try.siz22 _) rfl rfl)) ?_;clear F ac;intro ac F
    refine Y.pv F (X.load rfl (F.e 30 rfl) (X.ld1 (Try.agg22 _) (hC.at 2 rfl))) ?_;clear F ac;intro ac F
    refine Y.pv F (X.len1 Try.underlying22 rfl (F.e 31 rfl)) ?_;clear F ac;intro ac F
    refine Y.pv F (X.move rfl (X.kc (Vi 0) rfl)) ?_;clear F ac;intro ac F
    refine Y.nil ?_
    replace F : Fr ac 52 [(9, Vp w8.heap.size), (31, .slice na n nc), (32, Vi n), (33, Vi 0)] := F.sub _
    refine X.thenN ?_
    refine Y.block ?_
    have hbp1 : w8.heap.size < w10.heap.size := hB.lt
    refine Y.loop (fun me_ ac wr => ∃ (i : Nat) (v : Value), me_ = n - i ∧ i ≤ n ∧ Only (fun b => b = w8.heap.size) w10 wr ∧ OwnP wr w8.heap.size 5 (PVal gr hold na n nc la m lc v) ∧ OwnR wr w10.heap.size 104 17 v i (flatN nd i) ∧ Fr ac 52 [(9, Vp w8.heap.size), (31, .slice na n nc), (32, Vi n), (33, Vi i)]) _ ⟨0, _, rfl, Nat.zero_le _, Only.refl _ _, hB, OwnR.nil _ _ _ _, F.sub _⟩ ?_
    have hCs := hC
    have Gs := G
    have hTs := hT
    clear F hC G hB hT hnd hl ac
    intro me_ ac w11 hI_
    obtain ⟨i, v, rfl, hi, hI, hB, hO, F⟩ := hI_
    have G := Y.Only.up Gs hI (by omega)
    have hnd := hnd0.gr G
    have hl := hl0.gr G
    have hT := hTs.only hI (by show ¬ _ = _; omega)
    have hC := (hCs.kc hI 0 rfl (hCs.kc hI 1 rfl (hCs.kc hI 2 rfl (hCs.kc hI 3 rfl (RCells.nil _)))))
    refine Y.seq ?_
    refine Y.lit (by kernel_rfl) ?_
    refine Y.pv F (X.binop rfl (F.e 33 rfl) (F.e 32 rfl) (X.lssI Try.underlying3 rfl)) ?_;clear F ac;intro ac F
    refine Y.nil ?_
    replace F : Fr ac 52 [(9, Vp w8.heap.size), (31, .slice na n nc), (32, Vi n), (33, Vi i), (34, .bool (decide ((i : Int) < n)))] := F.sub _
    refine X.thenN ?_
    refine Y.seq ?_
    cases h12 : decide ((i : Int) < n) with
    | false =>
     try rw [h12] at F
     have h12p : ¬ ((i : Int) < n) := of_decide_eq_false h12
     obtain rfl : n = i := by omega
     refine Y.condF (F.e 34 rfl) ?_
     refine Y.exit ?_
     refine X.thenX ?_
     refine X.thenX ?_
     refine X.blockX ?_
     refine X.thenN ?_
     refine Y.seq ?_
     refine Y.lit (by kernel_rfl) ?_
     refine Y.pv F (X.move rfl (F.e 9 rfl)) ?_;clear F ac;intro ac F
     refine Y.pv F (X.assign rfl (F.e 51 rfl)) ?_;clear F ac;intro ac F
     refine Y.pv F (X.assign rfl (X.kc (Vi 0) rfl)) ?_;clear F ac;intro ac F
     refine Y.nil ?_
     replace F : Fr ac 52 [(6, Vp w8.heap.size), (7, Vi 0)] := F.sub _
     refine X.thenN ?_
     refine Y.ret ?_
     refine Y.ret0 (v := .tuple #[Vp w8.heap.size, Vi 0]) F (Y.rs2 F rfl (by kernel_rfl) (by kernel_rfl)) ⟨fun h => absurd (playE_good hnd.len hl.len hE (by omega) (by simpa using h9)) h, G, fun _ => ⟨_, rfl, ?_⟩⟩
     rcases hO.shape with ⟨rfl, h0⟩ | ⟨g2, c2, rfl, hg2, hg3⟩
     ·subst h0
      exact ⟨w3.heap.size, none, 0, ⟨G, s9p hB, hl0, by omega, by omega, by omega, fun h => by omega⟩, hT⟩
     ·exact ⟨g2, _, c2, ⟨G, s9p hB, hl0, by omega, by omega, by omega, fun _ => rfl⟩, hO.ownP (fun j u h => flatN_at h)⟩
    | true =>
     try rw [h12] at F
     have h12p : ((i : Int) < n) := of_decide_eq_true h12
     refine Y.condT (F.e 34 rfl) ?_
     refine Y.skip ?_
     refine X.thenN ?_
     refine Y.seq ?_
     refine Y.block ?_
     refine Y.seq ?_
     refine Y.lit (by kernel_rfl) ?_
     obtain ⟨pd13, pe13, -, -, pc13⟩ := hnd.at (j := i) (by omega)
     subst pe13
     replace hC : RCells w11 [(Ad w.heap.size 0, Vi gr), (Ad w.heap.size 1, Vi hold), (Ad w.heap.size 2, .slice (some pd13) n nc), (Ad w3.heap.size 0, Vi t), (pd13.add (i * 5), Vi (cv nd i 0)), (⟨(pd13.add (i * 5)).block, (pd13.add (i * 5)).off + 1, none⟩, Vi (cv nd i 1)), (⟨(pd13.add (i * 5)).block, (pd13.add (i * 5)).off + 2, none⟩, Vi (cv nd i 2)), (⟨(pd13.add (i * 5)).block, (pd13.add (i * 5)).off + 3, none⟩, Vi (cv nd i 3)), (⟨(pd13.add (i * 5)).block, (pd13.add (i * 5)).off + 4, none⟩, Vi (cv nd i 4))] := hC.append ((RCells.cons (pc13 0 (by decide)) (RCells.cons (pc13 1 (by decide)) (RCells.cons (pc13 2 (by decide)) (RCells.cons (pc13 3 (by decide)) (RCells.cons (pc13 4 (by decide)) (RCells.nil _)))))))
     clear pc13
     refine Y.pv F (X.index rfl (F.e 31 rfl) (F.e 33 rfl) (X.idx (k := i) Try.underlying22 (Try.siz31 _) (by omega) (by omega) rfl)) ?_;clear F ac;intro ac F
     refine Y.pv F (X.load rfl (F.e 35 rfl) (X.ldN (Try.agg31 _) (Try.siz31 _) (Y.atz (pd13.add (i * 5)) (Y.AtFrom.cons (hC.at 4 rfl) (Y.AtFrom.cons (hC.at 5 rfl) (Y.AtFrom.cons (hC.at 6 rfl) (Y.AtFrom.cons (hC.at 7 rfl) (Y.AtFrom.cons (hC.at 8 rfl) (Y.AtFrom.nil _ _ _))))))))) ?_;clear F ac;intro ac F
     refine Y.pv F (Y.al rfl (Try.new31 _)) ?_;clear F ac;intro ac F
     refine Y.punit F (X.w0 rfl) rfl (X.store rfl (F.e 11 rfl) (F.e 36 rfl) (Y.stNew [Vi (cv nd i 0), Vi (cv nd i 1), Vi (cv nd i 2), Vi (cv nd i 3), Vi (cv nd i 4)] [Vi 0, Vi 0, Vi 0, Vi 0, Vi 0] (Try.siz31 _) rfl rfl)) ?_;clear F ac;intro ac F
     have g := Gr.alloc w11 (.cells #[Vi (cv nd i 0), Vi (cv nd i 1), Vi (cv nd i 2), Vi (cv nd i 3), Vi (cv nd i 4)] 31)
     have hb := heap_alloc_new w11 (.cells #[Vi (cv nd i 0), Vi (cv nd i 1), Vi (cv nd i 2), Vi (cv nd i 3), Vi (cv nd i 4)] 31)
     have hbl : w11.heap.size < (w11.alloc (.cells #[Vi (cv nd i 0), Vi (cv nd i 1), Vi (cv nd i 2), Vi (cv nd i 3), Vi (cv nd i 4)] 31)).heap.size := by simp
     have hC2 : RCells (w11.alloc (.cells #[Vi (cv nd i 0), Vi (cv nd i 1), Vi (cv nd i 2), Vi (cv nd i 3), Vi (cv nd i 4)] 31)) [(Ad w.heap.size 0, Vi gr), (Ad w.heap.size 1, Vi hold), (Ad w.heap.size 2, .slice (some pd13) n nc), (Ad w3.heap.size 0, Vi t), (pd13.add (i * 5), Vi (cv nd i 0)), (⟨(pd13.add (i * 5)).block, (pd13.add (i * 5)).off + 1, none⟩, Vi (cv nd i 1)), (⟨(pd13.add (i * 5)).block, (pd13.add (i * 5)).off + 2, none⟩, Vi (cv nd i 2)), (⟨(pd13.add (i * 5)).block, (pd13.add (i * 5)).off + 3, none⟩, Vi (cv nd i 3)), (⟨(pd13.add (i * 5)).block, (pd13.add (i * 5)).off + 4, none⟩, Vi (cv nd i 4)), (Ad w11.heap.size 0, Vi (cv nd i 0)), (Ad w11.heap.size 1, Vi (cv nd i 1)), (Ad w11.heap.size 2, Vi (cv nd i 2)), (Ad w11.heap.size 3, Vi (cv nd i 3)), (Ad w11.heap.size 4, Vi (cv nd i 4))] := hC.box (b := w11.heap.size) #[Vi (cv nd i 0), Vi (cv nd i 1), Vi (cv nd i 2), Vi (cv nd i 3), Vi (cv nd i 4)] 31 rfl
     generalize w11.alloc (.cells #[Vi (cv nd i 0), Vi (cv nd i 1), Vi (cv nd i 2), Vi (cv nd i 3), Vi (cv nd i 4)] 31) = w14 at *
     replace G := G.trans g
     replace hC := hC2
     clear hC2
     replace hI := hI.thenGr g
     replace hnd := hnd.gr g
     replace hl := hl.gr g
     replace hB := hB.gr g
     replace hT := hT.gr g
     replace hO := hO.gr g
     clear g hb hbl
     refine Y.nil ?_
     replace F : Fr ac 52 [(9, Vp w8.heap.size), (11, Vp w11.heap.size), (31, .slice (some pd13) n nc), (32, Vi n), (33, Vi i)] := F.sub _
     refine X.thenN ?_
     replace hC : RCells w14 [(Ad w.heap.size 0, Vi gr), (Ad w.heap.size 1, Vi hold), (Ad w.heap.size 2, .slice (some pd13) n nc), (Ad w3.heap.size 0, Vi t), (pd13.add (i * 5), Vi (cv nd i 0)), (⟨(pd13.add (i * 5)).block, (pd13.add (i * 5)).off + 1, none⟩, Vi (cv nd i 1)), (⟨(pd13.add (i * 5)).block, (pd13.add (i * 5)).off + 2, none⟩, Vi (cv nd i 2)), (⟨(pd13.add (i * 5)).block, (pd13.add (i * 5)).off + 3, none⟩, Vi (cv nd i 3)), (⟨(pd13.add (i * 5)).block, (pd13.add (i * 5)).off + 4, none⟩, Vi (cv nd i 4)), (Ad w11.heap.size 0, Vi (cv nd i 0)), (Ad w11.heap.size 1, Vi (cv nd i 1)), (Ad w11.heap.size 2, Vi (cv nd i 2)), (Ad w11.heap.size 3, Vi (cv nd i 3)), (Ad w11.heap.size 4, Vi (cv nd i 4)), (Ad w8.heap.size 4, v)] := hC.append ((RCells.cons (hB.cell (k := 4) (by decide)) (RCells.nil _)))
     have hsz0 : w10.heap.size ≤ w14.heap.size := hI.size
     refine region_xi F [some (Vp w8.heap.size), some (Vp w8.heap.size), some (Vp w8.heap.size), some (.pointer (some ⟨w8.heap.size, 4, none⟩)), some (v), some (.agg #[Vi (cv nd i 0), Vi (cv nd i 1), Vi (cv nd i 2), Vi (cv nd i 3), Vi (cv nd i 4)]), some (.pointer (some ⟨w11.heap.size, 3, none⟩)), some (Vi (cv nd i 3)), some (.agg #[Vi (cv nd i 0), Vi (cv nd i 1), Vi (cv nd i 2), Vi (cv nd i 3), Vi (cv nd i 4), Vi 0, Vi 0, Vi 0, Vi 0, Vi 0, Vi 0, Vi 0, Vi 0, Vi 0, Vi 0, Vi (cv nd i 3), .bool false]), none, none, some (Vp w8.heap.size), some (.pointer (some ⟨w8.heap.size, 4, none⟩)), none] (RAp w14 9 10 13 (fun v W => ∃ g9, v = .slice (some ⟨g9, 0, none⟩) 1 1 ∧ W.heap[g9]? = some (.cells (row17 nd i).toArray 104)) (fun x W => ∃ g2 c2, x = .slice (some ⟨g2, 0, none⟩) (i + 1) c2 ∧ OwnR W w10.heap.size 104 17 (.slice (some ⟨g2, 0, none⟩) (i + 1) c2) (i + 1) (flatN nd i ++ row17 nd i) ∧ Only (fun b => v.ownBlock = some b) w14 W) (fun W => ∃ g2 c2, OwnR W w10.heap.size 104 17 (.slice (some ⟨g2, 0, none⟩) (i + 1) c2) (i + 1) (flatN nd i ++ row17 nd i) ∧ OwnP W w8.heap.size 5 (PVal gr hold (some pd13) n nc la m lc (.slice (some ⟨g2, 0, none⟩) (i + 1) c2)) ∧ Only (fun b => b = w8.heap.size) w10 W)) rfl ⟨by kernel_rfl, of_decide_eq_true (by kernel_rfl), by kernel_rfl, by kernel_rfl, by kernel_rfl⟩ (fun _ => ⟨RAp.start (Gr.refl _), RAp.start (Gr.drew _)⟩) ⟨?_, ?_, ?_, ?_, ?_, ?_, ?_, ?_, ?_, ?_, ?_, ?_, ?_, ?_, trivial⟩ ?_
     ·intro ac done u W Sx hR
      exact X.vl (X.move rfl (Sx.ev 9 (Vp w8.heap.size))) (hR.quiet (by decide))
     ·intro ac done u W Sx hR
      exact X.vl (X.move rfl (Sx.ev 9 (Vp w8.heap.size))) (hR.quiet (by decide))
     ·intro ac done u W Sx hR
      exact X.vl (Y.nilC rfl (Sx.ev 38 (Vp w8.heap.size))) (hR.quiet (by decide))
     ·intro ac done u W Sx hR
      exact X.vl (X.field rfl (Sx.ev 39 (Vp w8.heap.size)) (X.fld Try.underlying101 rfl (Try.siz99 _) rfl rfl)) (hR.quiet (by decide))
     ·intro ac done u W Sx hR
      have g : Gr w14 W := hR.g (Sx.no 10 (by kernel_rfl)) (Sx.no 13 (by kernel_rfl))
      exact X.vl (X.load rfl (Sx.ev 40 (.pointer (some ⟨w8.heap.size, 4, none⟩))) (X.ld1 (Try.agg99 _) ((hC.gr g).at 14 rfl))) (hR.quiet (by decide))
     ·intro ac done u W Sx hR
      have g : Gr w14 W := hR.g (Sx.no 10 (by kernel_rfl)) (Sx.no 13 (by kernel_rfl))
      exact X.vl (X.load rfl (Sx.ev 11 (Vp w11.heap.size)) (X.ldN (Try.agg31 _) (Try.siz31 _) (Y.atz (⟨w11.heap.size, 0, none⟩) (Y.AtFrom.cons ((hC.gr g).at 9 rfl) (Y.AtFrom.cons ((hC.gr g).at 10 rfl) (Y.AtFrom.cons ((hC.gr g).at 11 rfl) (Y.AtFrom.cons ((hC.gr g).at 12 rfl) (Y.AtFrom.cons ((hC.gr g).at 13 rfl) (Y.AtFrom.nil _ _ _))))))))) (hR.quiet (by decide))
     ·intro ac done u W Sx hR
      exact X.vl (X.field rfl (Sx.ev 11 (Vp w11.heap.size)) (X.fld Try.underlying31 rfl (Try.siz3 _) rfl rfl)) (hR.quiet (by decide))
     ·intro ac done u W Sx hR
      have g : Gr w14 W := hR.g (Sx.no 10 (by kernel_rfl)) (Sx.no 13 (by kernel_rfl))
      exact X.vl (X.load rfl (Sx.ev 43 (.pointer (some ⟨w11.heap.size, 3, none⟩))) (X.ld1 (Try.agg3 _) ((hC.gr g).at 12 rfl))) (hR.quiet (by decide))
     ·intro ac done u W Sx hR
      exact X.vl (Y.bd rfl (Y.b03 (Sx.ev 42 (.agg #[Vi (cv nd i 0), Vi (cv nd i 1), Vi (cv nd i 2), Vi (cv nd i 3), Vi (cv nd i 4)])) (Sx.ev 44 (Vi (cv nd i 3)))) (Try.bd104 _ _ _ _ _ _ _)) (hR.quiet (by decide))
     ·intro ac done u W Sx hR
      have g : Gr w14 W := hR.g (Sx.no 10 (by kernel_rfl)) (Sx.no 13 (by kernel_rfl))
      exact X.valN (X.w0 rfl) rfl (X.bs rfl (X.b1 (Sx.ev 45 (.agg #[Vi (cv nd i 0), Vi (cv nd i 1), Vi (cv nd i 2), Vi (cv nd i 3), Vi (cv nd i 4), Vi 0, Vi 0, Vi 0, Vi 0, Vi 0, Vi 0, Vi 0, Vi 0, Vi 0, Vi 0, Vi (cv nd i 3), .bool false]))) (Try.bs99 _ _ _ _ _ _ _)) (hR.s9 (by decide) (Sx.no 10 (by kernel_rfl)) (Sx.no 13 (by kernel_rfl)) (Gr.alloc _ _) ⟨_, rfl, World.alloc_heap_new _ _⟩)
     ·intro ac done u W Sx hR
      have g : Gr w14 W := hR.g Sx.nd (Sx.no 13 (by kernel_rfl))
      have hgs := g.size
      obtain ⟨g9, e9, hg9⟩ := hR.g9 (Sx.an 9 (by kernel_rfl)) Sx.nd (Sx.no 13 (by kernel_rfl))
      exact X.law (X.w0 rfl) (fun K hK => wp_pushV Try.underlying99 Try.info104 rfl (by decide) rfl (Sx.ev 41 (v)) ((Sx.own 9 46 rfl).trans e9) (hO.gr g) (m := 1) (news := row17 nd i) rfl (cells_at hg9) rfl (by omega) (by decide) (by omega) (fun v2 W2 hO2 hon hat => hK v2 W2 (fun x hx => by cases hx) (hR.s10 (by decide) (Sx.no 13 (by kernel_rfl)) (by
       have hsh := hO2.shape
       rcases hsh with ⟨_, h0⟩ | ⟨g2, c2, e2, _⟩
       ·omega
       ·subst e2; exact ⟨g2, c2, rfl, hO2, (g.only _).trans hon⟩))))
     ·intro ac done u W Sx hR
      exact X.vl (Y.nilC rfl (Sx.ev 37 (Vp w8.heap.size))) (hR.quiet (by decide))
     ·intro ac done u W Sx hR
      exact X.vl (X.field rfl (Sx.ev 48 (Vp w8.heap.size)) (X.fld Try.underlying101 rfl (Try.siz99 _) rfl rfl)) (hR.quiet (by decide))
     ·intro ac done u W Sx hR
      obtain ⟨g2, c2, e2, hO2, hon⟩ := hR.g10 (Sx.an 10 (by kernel_rfl)) Sx.nd
      have hge := fun b e => hO.ge (b := b) e
      have hB2 := hB.only hon (fun e => by have := (hge _ e).1; omega)
      have hg2 := (hO2.ge (b := g2) rfl).1
      refine X.unit (X.w0 rfl) rfl (X.store rfl (Sx.ev 49 (.pointer (some ⟨w8.heap.size, 4, none⟩))) ((Sx.own 10 47 rfl).trans e2) (hB2.st1 (Try.siz99 _) rfl rfl (by decide))) (RAp.s13 ⟨g2, c2, ?_, (hB2.set _).congr (PVal_set _ _ _ _ _ _ _ _ _ _), ?_⟩)
      ·exact hO2.only (Y.set_only _ _ _ _) (fun b e h => by simp [Value.ownBlock] at e; omega)
      ·exact (hI.step2 hon (fun r e => .inr (hge r e).1)).step (Y.set_only _ _ _ _) (.inl rfl)
     rintro ac u w15 hs hd hl_ ho hR
     obtain ⟨g2, c2, hO, hB, hI⟩ := hR.g13 rfl
     replace F : Fr ac 52 [(9, Vp w8.heap.size), (31, .slice (some pd13) n nc), (32, Vi n), (33, Vi i)] := X.fr hs hd hl_ _ (by kernel_rfl)
     clear hs hd hl_ ho hR hC G hnd hl hT
     have G := Y.Only.up Gs hI (by omega)
     have hC := RCells.nil w15
     refine X.blockN ?_
     refine X.thenN ?_
     refine Y.lit (by kernel_rfl) ?_
     refine Y.pv F (X.binop rfl (F.e 33 rfl) (X.kc (Vi 1) rfl) (X.addI Try.underlying3 rfl (by omega) (by omega))) ?_;clear F ac;intro ac F
     refine Y.pv F (X.move rfl (F.e 50 rfl)) ?_;clear F ac;intro ac F
     refine Y.nil ?_
     replace F : Fr ac 52 [(9, Vp w8.heap.size), (31, .slice (some pd13) n nc), (32, Vi n), (33, Vi ((i : Int) + 1))] := F.sub _
     refine X.thenN ?_
     refine ⟨_, ?_, i + 1, .slice (some ⟨g2, 0, none⟩) (i + 1) c2, rfl, by omega, hI, hB, by rw [flatN_succ]; exact hO, F.sub _⟩
     omega
  | true =>
   try rw [h7] at F
   have h7p : ((200 : Int) < m) := of_decide_eq_true h7
   refine Y.pskip F (X.w2 rfl (F.yl (j := 3) (d := 21) (b := true) rfl (by kernel_rfl)) rfl) rfl ?_;clear F ac;intro ac F
   refine Y.pskip F (X.w2 rfl (F.yl (j := 3) (d := 21) (b := true) rfl (by kernel_rfl)) rfl) rfl ?_;clear F ac;intro ac F
   refine Y.pskip F (X.w2 rfl (F.yl (j := 3) (d := 21) (b := true) rfl (by kernel_rfl)) rfl) rfl ?_;clear F ac;intro ac F
   refine Y.pv F (X.pickT rfl (F.e 21 rfl) (X.kc (.bool true) rfl)) ?_;clear F ac;intro ac F
   refine Y.nil ?_
   replace F : Fr ac 52 [(2, .slice la m lc), (3, Vp w.heap.size), (25, .bool true)] := F.sub _
   refine X.thenN ?_
   refine Y.condT (F.e 25 rfl) ?_
   refine Y.seq ?_
   refine Y.lit (by kernel_rfl) ?_
   refine Y.pv F (X.assign rfl (X.kc (.pointer none) rfl)) ?_;clear F ac;intro ac F
   refine Y.pv F (X.assign rfl (X.kc (Vi 91) rfl)) ?_;clear F ac;intro ac F
   refine Y.nil ?_
   replace F : Fr ac 52 [(6, .pointer none), (7, Vi 91)] := F.sub _
   refine X.thenN ?_
   refine Y.ret ?_
   refine X.thenR ?_
   exact Y.ret0 (v := .tuple #[.pointer none, Vi 91]) F (Y.rs2 F rfl (by kernel_rfl) (by kernel_rfl)) ⟨fun _ => by rw [(playE_bad1 hl.len hE (by omega))], G, fun h => by rw [(playE_bad1 hl.len hE (by omega))] at h; cases h⟩
 | true =>
  try rw [h6] at F
  have h6p : ¬ (ticksE gr hold nd t : Int) = 0 := by simpa using h6
  have hE : ¬ ticksE gr hold nd t = 0 := by simpa using h6p
  refine Y.condT (F.e 16 rfl) ?_
  refine Y.seq ?_
  refine Y.lit (by kernel_rfl) ?_
  refine Y.pv F (X.move rfl (F.e 8 rfl)) ?_;clear F ac;intro ac F
  refine Y.pv F (X.assign rfl (X.kc (.pointer none) rfl)) ?_;clear F ac;intro ac F
  refine Y.pv F (X.assign rfl (F.e 17 rfl)) ?_;clear F ac;intro ac F
  refine Y.nil ?_
  replace F : Fr ac 52 [(6, .pointer none), (7, Vi (ticksE gr hold nd t))] := F.sub _
  refine X.thenN ?_
  refine Y.ret ?_
  refine X.thenR ?_
  exact Y.ret0 (v := .tuple #[.pointer none, Vi (ticksE gr hold nd t)]) F (Y.rs2 F rfl (by kernel_rfl) (by kernel_rfl)) ⟨fun _ => by rw [playE, if_pos hE], G, fun h => absurd h (by rw [playE, if_pos hE]; exact hE)⟩
end
section
open Go.RowKit

set_option maxRecDepth 100000 in
set_option maxHeartbeats 1000000 in
theorem play_any (na la : Option Addr) (n nc m lc : Nat) (gr hold t : Int) (nd l : List (List Int)) (w : World) (hnd : StAt w 5 na n nd) (hl : StAt w 4 la m l) :
  Calls Try.prog 18 #[.agg #[Vi gr, Vi hold, .slice na n nc], Vi t, .slice la m lc] w fun e w' => ∃ ra rn rc ea en ec, e = .returned (.tuple #[.slice ra rn rc, .slice ea en ec, Vi (playE gr hold nd t l)]) ∧ Ints w' ra rn (playRows gr hold nd t l) ∧ Ints w' ea en (playEn gr hold nd t l) ∧ Gr w w' := by
 have G := Gr.refl w
 have hnd0 := hnd
 have hl0 := hl
 have hlm := hl.lt
 have hlnn := hnd.lt
 refine Y.calls 73 Try.func18 rfl rfl ?_
 intro ac F0
 have F : Fr ac 73 [(0, .agg #[Vi gr, Vi hold, .slice na n nc]), (1, Vi t), (2, .slice la m lc)] := F0.sub _
 clear F0
 refine Y.seq ?_
 refine Y.lit (by kernel_rfl) ?_
 refine Y.pv F (X.box rfl (F.e 0 rfl) X.bx) ?_;clear F ac;intro ac F
 have g := Gr.alloc w (.cells #[Vi gr, Vi hold, .slice na n nc] 24)
 have hb := heap_alloc_new w (.cells #[Vi gr, Vi hold, .slice na n nc] 24)
 have hbl : w.heap.size < (w.alloc (.cells #[Vi gr, Vi hold, .slice na n nc] 24)).heap.size := by simp
 have hC2 : RCells (w.alloc (.cells #[Vi gr, Vi hold, .slice na n nc] 24)) [(Ad w.heap.size 0, Vi gr), (Ad w.heap.size 1, Vi hold), (Ad w.heap.size 2, .slice na n nc)] := (RCells.nil w).box (b := w.heap.size) #[Vi gr, Vi hold, .slice na n nc] 24 rfl
 generalize w.alloc (.cells #[Vi gr, Vi hold, .slice na n nc] 24) = w3 at *
 replace G := G.trans g
 have hC := hC2
 clear hC2
 replace hnd := hnd.gr g
 replace hl := hl.gr g
 clear g hb hbl
 have hC0 := hC
 refine Y.pv F (X.assign rfl (X.kc (.slice none 0 0) rfl)) ?_;clear F ac;intro ac F
 refine Y.pv F (X.assign rfl (X.kc (.slice none 0 0) rfl)) ?_;clear F ac;intro ac F
 refine Y.pv F (X.assign rfl (X.kc (Vi 0) rfl)) ?_;clear F ac;intro ac F
 refine Y.nil ?_
 replace F : Fr ac 73 [(1, Vi t), (2, .slice la m lc), (3, Vp w.heap.size)] := F.sub _
 refine X.thenN ?_
 refine Y.seq ?_
 refine Y.lit (by kernel_rfl) ?_
 refine Y.pv F (X.load rfl (F.e 3 rfl) (X.ldN (Try.agg24 _) (Try.siz24 _) (Y.atz (⟨w.heap.size, 0, none⟩) (Y.AtFrom.cons (hC.at 0 rfl) (Y.AtFrom.cons (hC.at 1 rfl) (Y.AtFrom.cons (hC.at 2 rfl) (Y.AtFrom.nil _ _ _))))))) ?_;clear F ac;intro ac F
 refine Y.pv F (X.move rfl (F.e 1 rfl)) ?_;clear F ac;intro ac F
 refine Y.pv F (X.move rfl (F.e 2 rfl)) ?_;clear F ac;intro ac F
 by_cases hE : playE gr hold nd t l = 0
 ·have hE := hE
  refine Y.pcall F (X.w0 rfl) rfl (X.enter (F := 44) rfl (X.kc (.func (.func 44) #[] #[]) rfl) (X.a3 (F.e 15 rfl) (F.e 16 rfl) (F.e 17 rfl)) (enters_of Try.func44 (by kernel_rfl) rfl _)) (begin_any na la n nc m lc gr hold t nd l w3 hnd hl) ?_
  clear F ac
  rintro e w5 ⟨-, g, h0⟩
  obtain ⟨bp, rfl, hBg⟩ := h0 hE
  clear h0
  refine ⟨_, rfl, ?_⟩
  intro ac F
  have hBsz : w3.heap.size = w3.heap.size := rfl
  replace G := G.trans g
  replace hC := hC.gr g
  replace hnd := hnd.gr g
  replace hl := hl.gr g
  clear g
  refine Y.pv F (X.move rfl (F.e 18 rfl)) ?_;clear F ac;intro ac F
  refine Y.pv F (X.extract rfl (F.e 14 rfl) rfl) ?_;clear F ac;intro ac F
  refine Y.pv F (X.extract rfl (F.e 14 rfl) rfl) ?_;clear F ac;intro ac F
  refine Y.pv F (X.assign rfl (F.e 19 rfl)) ?_;clear F ac;intro ac F
  refine Y.pv F (X.assign rfl (F.e 20 rfl)) ?_;clear F ac;intro ac F
  refine Y.nil ?_
  replace F : Fr ac 73 [(1, Vi t), (3, Vp w.heap.size), (8, Vi 0), (9, Vp bp)] := F.sub _
  refine X.thenN ?_
  refine Y.seq ?_
  refine Y.seq ?_
  refine Y.lit (by kernel_rfl) ?_
  refine Y.pv F (X.move rfl (F.e 8 rfl)) ?_;clear F ac;intro ac F
  refine Y.pv F (X.binop rfl (F.e 21 rfl) (X.kc (Vi 0) rfl) (X.neqI Try.underlying26 (show ((0 : Int) != 0) = false by simp))) ?_;clear F ac;intro ac F
  refine Y.nil ?_
  replace F : Fr ac 73 [(1, Vi t), (3, Vp w.heap.size), (8, Vi 0), (9, Vp bp), (22, .bool false)] := F.sub _
  refine X.thenN ?_
  refine Y.condF (F.e 22 rfl) ?_
  refine Y.skip ?_
  refine X.thenN ?_
  refine Y.seq ?_
  refine Y.lit (by kernel_rfl) ?_
  refine Y.pv F (X.move rfl (F.e 9 rfl)) ?_;clear F ac;intro ac F
  refine Y.pv F (X.move rfl (F.e 1 rfl)) ?_;clear F ac;intro ac F
  have hok := playE_ok hE
  have hc := hok.c
  have ht0 := hok.t0
  have ht1 := hok.t1
  have hln := hnd.len
  have h16 : n ≤ 16 := by have := hc.n16; omega
  obtain ⟨bn, pa, cap, hP, hS⟩ := hBg
  have hpb := hP.pb
  have hnb := hP.nb
  have hg1 := hc.g1
  have hg8 := hc.g8
  have hSO : SOk n (startS nd) := by have := SOk.start hc; rwa [hln] at this
  have htt : t = ((t.toNat : Nat) : Int) := by omega
  have hgw := G.size
  have hnu : ∀ x ∈ l, NuOk gr nd t x := fun x hx => by obtain ⟨i, hi, rfl⟩ := List.getElem_of_mem hx; have := hok.nu i hi; rwa [List.getElem?_eq_getElem hi] at this
  refine Y.pcall F (X.w0 rfl) rfl (X.enter (F := 45) rfl (X.kc (.func (.func 45) #[] #[]) rfl) (X.a2 (F.e 25 rfl) (F.e 26 rfl)) (enters_of Try.func45 (by kernel_rfl) rfl _)) (by have h := run_any w3 w5 bp bn gr hold na la pa n nc m lc cap l (startS nd) t.toNat hP hS h16 ⟨nd, t, hln, hg8, hnu⟩ hSO hc.h1 hc.h100 (by omega) (by omega); rw [← htt] at h; exact h) ?_
  clear F ac
  rintro e w6 ⟨v1, v2, rfl, hon, -, hO1, hO2⟩
  refine ⟨_, rfl, ?_⟩
  intro ac F
  have hcb : w.heap.size < w3.heap.size := lt_cell (hC0.at 0 rfl)
  replace hC := (hC.kc hon 0 rfl (hC.kc hon 1 rfl (hC.kc hon 2 rfl (RCells.nil _))))
  replace G := Y.Only.up G hon (by omega)
  replace hnd := hnd0.gr G
  replace hl := hl0.gr G
  clear hon hS hP
  obtain ⟨aa, ac1, rfl, hIa, hIab⟩ := hO1.intsN (runFrom_len t.toNat).1 (by omega)
  obtain ⟨ra, rc, rfl, hIr, hIrb⟩ := hO2.intsN (runFrom_len t.toNat).2 (by omega)
  clear hO1 hO2
  refine Y.pv F (X.move rfl (F.e 27 rfl)) ?_;clear F ac;intro ac F
  refine Y.pv F (X.extract rfl (F.e 24 rfl) rfl) ?_;clear F ac;intro ac F
  refine Y.pv F (X.extract rfl (F.e 24 rfl) rfl) ?_;clear F ac;intro ac F
  refine Y.pv F (X.assign rfl (F.e 29 rfl)) ?_;clear F ac;intro ac F
  refine Y.nil ?_
  replace F : Fr ac 73 [(3, Vp w.heap.size), (6, .slice ra t.toNat rc)] := F.sub _
  refine X.thenN ?_
  refine Y.seq ?_
  refine Y.lit (by kernel_rfl) ?_
  refine Y.pv F (X.field rfl (F.e 3 rfl) (X.fld Try.underlying24 rfl (Try.siz22 _) rfl rfl)) ?_;clear F ac;intro ac F
  refine Y.pv F (X.load rfl (F.e 30 rfl) (X.ld1 (Try.agg22 _) (hC.at 2 rfl))) ?_;clear F ac;intro ac F
  refine Y.pv F (X.len1 Try.underlying22 rfl (F.e 31 rfl)) ?_;clear F ac;intro ac F
  have hq8 : w.heap.size < w6.heap.size := lt_cell (hC.at 0 rfl)
  have hgsw7 := G.size
  refine Y.pv F (Y.mk rfl (F.e 32 rfl) (F.e 32 rfl) (Try.mk34 n _ (by omega))) ?_;clear F ac;intro ac F
  have g := Gr.alloc w6 (.cells (List.replicate n (Vi 0)).toArray 3)
  have hS := zeros_own w6 n
  generalize w6.alloc (.cells (List.replicate n (Vi 0)).toArray 3) = w7 at *
  replace G := G.trans g
  replace hC := hC.gr g
  replace hnd := hnd.gr g
  replace hl := hl.gr g
  replace hIa := hIa.gr g
  replace hIr := hIr.gr g
  clear g
  have hml : w6.heap.size < w7.heap.size := hS.lt
  have hS := hS
  refine Y.pv F (X.assign rfl (F.e 33 rfl)) ?_;clear F ac;intro ac F
  refine Y.nil ?_
  replace F : Fr ac 73 [(3, Vp w.heap.size), (6, .slice ra t.toNat rc), (7, .slice (some ⟨w6.heap.size, 0, none⟩) n n)] := F.sub _
  refine X.thenN ?_
  refine Y.seq ?_
  refine Y.seq ?_
  refine Y.lit (by kernel_rfl) ?_
  refine Y.pv F (X.move rfl (F.e 6 rfl)) ?_;clear F ac;intro ac F
  refine Y.pv F (X.len1 Try.underlying34 rfl (F.e 34 rfl)) ?_;clear F ac;intro ac F
  refine Y.pv F (X.move rfl (X.kc (Vi 0) rfl)) ?_;clear F ac;intro ac F
  refine Y.nil ?_
  replace F : Fr ac 73 [(3, Vp w.heap.size), (6, .slice ra t.toNat rc), (7, .slice (some ⟨w6.heap.size, 0, none⟩) n n), (34, .slice ra t.toNat rc), (35, Vi t.toNat), (36, Vi 0)] := F.sub _
  refine X.thenN ?_
  refine Y.block ?_
  have hIa_1 := hIa
  have hIr_1 := hIr
  have G_1 := G
  have hC_1 := hC
  refine Y.loop (fun me_ ac wr => ∃ (k : Nat), me_ = t.toNat - k ∧ k ≤ t.toNat ∧ Only (fun b => b = w6.heap.size) w7 wr ∧ OwnP wr w6.heap.size (n) (EV (enS nd ((runFrom hold gr.toNat n l (startS nd) t.toNat).rows.take k))) ∧ Fr ac 73 [(3, Vp w.heap.size), (6, .slice ra t.toNat rc), (7, .slice (some ⟨w6.heap.size, 0, none⟩) n n), (34, .slice ra t.toNat rc), (35, Vi t.toNat), (36, Vi k)]) _ ⟨0, rfl, Nat.zero_le _, Only.refl _ _, hS, F.sub _⟩ ?_
  clear F G ac hC hS hIa hIr hnd hl
  intro me_ ac w9 hI
  obtain ⟨k, rfl, hk, hI1, hS, F⟩ := hI
  have G := Y.Only.up G_1 hI1 (by omega)
  have hnd := hnd0.gr G
  have hl := hl0.gr G
  have hIa := hIa_1.onlyAt hI1 (fun ad e h => by have := hIab ad e; omega)
  have hIr := hIr_1.onlyAt hI1 (fun ad e h => by have := hIrb ad e; omega)
  have hC := (hC_1.kc hI1 0 rfl (hC_1.kc hI1 1 rfl (hC_1.kc hI1 2 rfl (RCells.nil _))))
  refine Y.seq ?_
  refine Y.lit (by kernel_rfl) ?_
  refine Y.pv F (X.binop rfl (F.e 36 rfl) (F.e 35 rfl) (X.lssI Try.underlying3 rfl)) ?_;clear F ac;intro ac F
  refine Y.nil ?_
  replace F : Fr ac 73 [(3, Vp w.heap.size), (6, .slice ra t.toNat rc), (7, .slice (some ⟨w6.heap.size, 0, none⟩) n n), (34, .slice ra t.toNat rc), (35, Vi t.toNat), (36, Vi k), (37, .bool (decide ((k : Int) < t.toNat)))] := F.sub _
  refine X.thenN ?_
  refine Y.seq ?_
  cases h10 : decide ((k : Int) < t.toNat) with
  | false =>
   try rw [h10] at F
   have h10p : ¬ ((k : Int) < t.toNat) := of_decide_eq_false h10
   have hkt : k = t.toNat := by omega
   subst hkt
   refine Y.condF (F.e 37 rfl) ?_
   refine Y.exit ?_
   refine X.thenX ?_
   refine X.thenX ?_
   refine X.blockX ?_
   refine X.thenN ?_
   refine Y.seq ?_
   refine Y.lit (by kernel_rfl) ?_
   refine Y.pv F (X.move rfl (F.e 6 rfl)) ?_;clear F ac;intro ac F
   refine Y.pv F (X.move rfl (F.e 7 rfl)) ?_;clear F ac;intro ac F
   refine Y.pv F (X.assign rfl (F.e 71 rfl)) ?_;clear F ac;intro ac F
   refine Y.pv F (X.assign rfl (F.e 72 rfl)) ?_;clear F ac;intro ac F
   refine Y.pv F (X.assign rfl (X.kc (Vi 0) rfl)) ?_;clear F ac;intro ac F
   refine Y.nil ?_
   replace F : Fr ac 73 [(6, .slice ra t.toNat rc), (7, .slice (some ⟨w6.heap.size, 0, none⟩) n n), (8, Vi 0)] := F.sub _
   refine X.thenN ?_
   refine Y.ret ?_
   have e1 : playRows gr hold nd t l = (runFrom hold gr.toNat n l (startS nd) t.toNat).rows := by unfold playRows playR; rw [if_pos hE, hln]
   have e2 : playEn gr hold nd t l = (List.range n).map (enS nd (runFrom hold gr.toNat n l (startS nd) t.toNat).rows) := by unfold playEn playR; rw [if_pos hE, hln]
   have e3 : (runFrom hold gr.toNat n l (startS nd) t.toNat).rows.take t.toNat = (runFrom hold gr.toNat n l (startS nd) t.toNat).rows := List.take_of_length_le (by rw [(runFrom_len t.toNat).2]; omega)
   rw [e3] at hS
   exact Y.ret0 (v := .tuple #[.slice ra t.toNat rc, .slice (some ⟨w6.heap.size, 0, none⟩) n n, Vi 0]) F (Y.rs3 F rfl (by kernel_rfl) (by kernel_rfl) (by kernel_rfl)) ⟨_, _, _, _, _, _, by rw [hE], by rw [e1]; exact hIr, by rw [e2]; exact ownP_ints hS (by omega), G⟩
  | true =>
   try rw [h10] at F
   have h10p : ((k : Int) < t.toNat) := of_decide_eq_true h10
   have hk2 : k < t.toNat := by omega
   have hrl := (runFrom_len (n := n) (gr := gr.toNat) (s := startS nd) (hold := hold) (l := l) t.toNat).2
   refine Y.condT (F.e 37 rfl) ?_
   refine Y.skip ?_
   refine X.thenN ?_
   refine Y.seq ?_
   refine Y.block ?_
   refine Y.seq ?_
   refine Y.lit (by kernel_rfl) ?_
   obtain ⟨pd11, pe11, -, pc11⟩ := hIr.at (j := k) (by omega)
   subst pe11
   replace hC : RCells w9 [(Ad w.heap.size 0, Vi gr), (Ad w.heap.size 1, Vi hold), (Ad w.heap.size 2, .slice na n nc), (pd11.add k, Vi (((runFrom hold gr.toNat n l (startS nd) t.toNat).rows)[k]?.getD 0))] := hC.append ((RCells.cons pc11 (RCells.nil _)))
   clear pc11
   refine Y.pval F (X.w0 rfl) rfl (X.index rfl (F.e 34 rfl) (F.e 36 rfl) (X.idx (k := k) Try.underlying34 (Try.siz3 _) (by omega) (by omega) (by rw [Nat.mul_one]))) ?_;clear F ac;intro ac F
   refine Y.pv F (X.load rfl (F.e 38 rfl) (X.ld1 (Try.agg3 _) (hC.at 3 rfl))) ?_;clear F ac;intro ac F
   refine Y.pv F (X.assign rfl (F.e 39 rfl)) ?_;clear F ac;intro ac F
   refine Y.nil ?_
   replace F : Fr ac 73 [(3, Vp w.heap.size), (6, .slice (some pd11) t.toNat rc), (7, .slice (some ⟨w6.heap.size, 0, none⟩) n n), (11, Vi (((runFrom hold gr.toNat n l (startS nd) t.toNat).rows)[k]?.getD 0)), (34, .slice (some pd11) t.toNat rc), (35, Vi t.toNat), (36, Vi k)] := F.sub _
   refine X.thenN ?_
   refine Y.seq ?_
   refine Y.lit (by kernel_rfl) ?_
   refine Y.pv F (X.field rfl (F.e 3 rfl) (X.fld Try.underlying24 rfl (Try.siz22 _) rfl rfl)) ?_;clear F ac;intro ac F
   refine Y.pv F (X.load rfl (F.e 40 rfl) (X.ld1 (Try.agg22 _) (hC.at 2 rfl))) ?_;clear F ac;intro ac F
   refine Y.pv F (X.len1 Try.underlying22 rfl (F.e 41 rfl)) ?_;clear F ac;intro ac F
   refine Y.pv F (X.move rfl (X.kc (Vi 0) rfl)) ?_;clear F ac;intro ac F
   refine Y.nil ?_
   replace F : Fr ac 73 [(3, Vp w.heap.size), (6, .slice (some pd11) t.toNat rc), (7, .slice (some ⟨w6.heap.size, 0, none⟩) n n), (11, Vi (((runFrom hold gr.toNat n l (startS nd) t.toNat).rows)[k]?.getD 0)), (34, .slice (some pd11) t.toNat rc), (35, Vi t.toNat), (36, Vi k), (41, .slice na n nc), (42, Vi n), (43, Vi 0)] := F.sub _
   refine X.thenN ?_
   refine Y.block ?_
   have hI1_2 := hI1
   have hIa_2 := hIa
   have hIr_2 := hIr
   have G_2 := G
   have hC_2 := hC
   refine Y.loop (fun me_ ac wr => ∃ (i : Nat), me_ = n - i ∧ i ≤ n ∧ Only (fun b => b = w6.heap.size) w9 wr ∧ OwnP wr w6.heap.size (n) (EV (enP nd ((runFrom hold gr.toNat n l (startS nd) t.toNat).rows[k]?.getD 0) i (enS nd ((runFrom hold gr.toNat n l (startS nd) t.toNat).rows.take k)))) ∧ Fr ac 73 [(3, Vp w.heap.size), (6, .slice (some pd11) t.toNat rc), (7, .slice (some ⟨w6.heap.size, 0, none⟩) n n), (11, Vi (((runFrom hold gr.toNat n l (startS nd) t.toNat).rows)[k]?.getD 0)), (34, .slice (some pd11) t.toNat rc), (35, Vi t.toNat), (36, Vi k), (41, .slice na n nc), (42, Vi n), (43, Vi i)]) _ ⟨0, rfl, Nat.zero_le _, Only.refl _ _, (by rw [enP_zero]; exact hS), F.sub _⟩ ?_
   clear F G ac hC hS hI1 hIa hIr hnd hl
   intro me_ ac w12 hI
   obtain ⟨i, rfl, hi, hI2, hS, F⟩ := hI
   have G := Y.Only.up G_2 hI2 (by omega)
   have hI1 := hI1_2.trans hI2
   have hnd := hnd0.gr G
   have hl := hl0.gr G
   have hIa := hIa_2.onlyAt hI2 (fun ad e h => by have := hIab ad e; omega)
   have hIr := hIr_2.onlyAt hI2 (fun ad e h => by have := hIrb ad e; omega)
   have hC := (hC_2.kc hI2 0 rfl (hC_2.kc hI2 1 rfl (hC_2.kc hI2 2 rfl (RCells.nil _))))
   refine Y.seq ?_
   refine Y.lit (by kernel_rfl) ?_
   refine Y.pv F (X.binop rfl (F.e 43 rfl) (F.e 42 rfl) (X.lssI Try.underlying3 rfl)) ?_;clear F ac;intro ac F
   refine Y.nil ?_
   replace F : Fr ac 73 [(3, Vp w.heap.size), (6, .slice (some pd11) t.toNat rc), (7, .slice (some ⟨w6.heap.size, 0, none⟩) n n), (11, Vi (((runFrom hold gr.toNat n l (startS nd) t.toNat).rows)[k]?.getD 0)), (34, .slice (some pd11) t.toNat rc), (35, Vi t.toNat), (36, Vi k), (41, .slice na n nc), (42, Vi n), (43, Vi i), (44, .bool (decide ((i : Int) < n)))] := F.sub _
   refine X.thenN ?_
   refine Y.seq ?_
   cases h13 : decide ((i : Int) < n) with
   | false =>
    try rw [h13] at F
    have h13p : ¬ ((i : Int) < n) := of_decide_eq_false h13
    obtain rfl : n = i := by omega
    refine Y.condF (F.e 44 rfl) ?_
    refine Y.exit ?_
    refine X.thenX ?_
    refine X.thenX ?_
    refine X.blockX ?_
    refine X.blockN ?_
    refine X.thenN ?_
    refine Y.lit (by kernel_rfl) ?_
    refine Y.pv F (X.binop rfl (F.e 36 rfl) (X.kc (Vi 1) rfl) (X.addI Try.underlying3 rfl (by omega) (by omega))) ?_;clear F ac;intro ac F
    refine Y.pv F (X.move rfl (F.e 70 rfl)) ?_;clear F ac;intro ac F
    refine Y.nil ?_
    replace F : Fr ac 73 [(3, Vp w.heap.size), (6, .slice (some pd11) t.toNat rc), (7, .slice (some ⟨w6.heap.size, 0, none⟩) n n), (34, .slice (some pd11) t.toNat rc), (35, Vi t.toNat), (36, Vi ((k : Int) + 1))] := F.sub _
    refine X.thenN ?_
    refine ⟨_, ?_, k + 1, rfl, by omega, hI1, hS.congr (fun j hj => by unfold EV; rw [enS_take (by omega) j]; unfold enP; rw [if_pos hj]), F.sub _⟩
    omega
   | true =>
    try rw [h13] at F
    have h13p : ((i : Int) < n) := of_decide_eq_true h13
    have hi2 : i < n := by omega
    have hb1 := enS_bd hc (j := i) (by omega) ((runFrom hold gr.toNat n l (startS nd) t.toNat).rows.take k)
    have hb2 := enP_at nd ((runFrom hold gr.toNat n l (startS nd) t.toNat).rows[k]?.getD 0) i (enS nd ((runFrom hold gr.toNat n l (startS nd) t.toNat).rows.take k))
    have hb3 : ((runFrom hold gr.toNat n l (startS nd) t.toNat).rows.take k).length ≤ 1000 := by rw [List.length_take]; omega
    have hb4 := hc.awk i (by omega)
    have hb5 := hc.asl i (by omega)
    refine Y.condT (F.e 44 rfl) ?_
    refine Y.skip ?_
    refine X.thenN ?_
    refine Y.seq ?_
    refine Y.block ?_
    refine Y.seq ?_
    refine Y.lit (by kernel_rfl) ?_
    refine Y.pv F (X.move rfl (F.e 43 rfl)) ?_;clear F ac;intro ac F
    obtain ⟨pd14, pe14, -, -, pc14⟩ := hnd.at (j := i) (by omega)
    subst pe14
    replace hC : RCells w12 [(Ad w.heap.size 0, Vi gr), (Ad w.heap.size 1, Vi hold), (Ad w.heap.size 2, .slice (some pd14) n nc), (pd14.add (i * 5), Vi (cv nd i 0)), (⟨(pd14.add (i * 5)).block, (pd14.add (i * 5)).off + 1, none⟩, Vi (cv nd i 1)), (⟨(pd14.add (i * 5)).block, (pd14.add (i * 5)).off + 2, none⟩, Vi (cv nd i 2)), (⟨(pd14.add (i * 5)).block, (pd14.add (i * 5)).off + 3, none⟩, Vi (cv nd i 3)), (⟨(pd14.add (i * 5)).block, (pd14.add (i * 5)).off + 4, none⟩, Vi (cv nd i 4))] := hC.append ((RCells.cons (pc14 0 (by decide)) (RCells.cons (pc14 1 (by decide)) (RCells.cons (pc14 2 (by decide)) (RCells.cons (pc14 3 (by decide)) (RCells.cons (pc14 4 (by decide)) (RCells.nil _)))))))
    clear pc14
    refine Y.pv F (X.index rfl (F.e 41 rfl) (F.e 43 rfl) (X.idx (k := i) Try.underlying22 (Try.siz31 _) (by omega) (by omega) rfl)) ?_;clear F ac;intro ac F
    refine Y.pv F (X.load rfl (F.e 46 rfl) (X.ldN (Try.agg31 _) (Try.siz31 _) (Y.atz (pd14.add (i * 5)) (Y.AtFrom.cons (hC.at 3 rfl) (Y.AtFrom.cons (hC.at 4 rfl) (Y.AtFrom.cons (hC.at 5 rfl) (Y.AtFrom.cons (hC.at 6 rfl) (Y.AtFrom.cons (hC.at 7 rfl) (Y.AtFrom.nil _ _ _))))))))) ?_;clear F ac;intro ac F
    refine Y.pv F (Y.al rfl (Try.new31 _)) ?_;clear F ac;intro ac F
    refine Y.pv F (X.assign rfl (F.e 45 rfl)) ?_;clear F ac;intro ac F
    refine Y.punit F (X.w0 rfl) rfl (X.store rfl (F.e 13 rfl) (F.e 47 rfl) (Y.stNew [Vi (cv nd i 0), Vi (cv nd i 1), Vi (cv nd i 2), Vi (cv nd i 3), Vi (cv nd i 4)] [Vi 0, Vi 0, Vi 0, Vi 0, Vi 0] (Try.siz31 _) rfl rfl)) ?_;clear F ac;intro ac F
    have hq15 : w6.heap.size < w12.heap.size := hS.lt
    have hq16 : w.heap.size < w12.heap.size := lt_cell (hC.at 0 rfl)
    have g := Gr.alloc w12 (.cells #[Vi (cv nd i 0), Vi (cv nd i 1), Vi (cv nd i 2), Vi (cv nd i 3), Vi (cv nd i 4)] 31)
    have hb := heap_alloc_new w12 (.cells #[Vi (cv nd i 0), Vi (cv nd i 1), Vi (cv nd i 2), Vi (cv nd i 3), Vi (cv nd i 4)] 31)
    have hbl : w12.heap.size < (w12.alloc (.cells #[Vi (cv nd i 0), Vi (cv nd i 1), Vi (cv nd i 2), Vi (cv nd i 3), Vi (cv nd i 4)] 31)).heap.size := by simp
    have hC2 : RCells (w12.alloc (.cells #[Vi (cv nd i 0), Vi (cv nd i 1), Vi (cv nd i 2), Vi (cv nd i 3), Vi (cv nd i 4)] 31)) [(Ad w.heap.size 0, Vi gr), (Ad w.heap.size 1, Vi hold), (Ad w.heap.size 2, .slice (some pd14) n nc), (pd14.add (i * 5), Vi (cv nd i 0)), (⟨(pd14.add (i * 5)).block, (pd14.add (i * 5)).off + 1, none⟩, Vi (cv nd i 1)), (⟨(pd14.add (i * 5)).block, (pd14.add (i * 5)).off + 2, none⟩, Vi (cv nd i 2)), (⟨(pd14.add (i * 5)).block, (pd14.add (i * 5)).off + 3, none⟩, Vi (cv nd i 3)), (⟨(pd14.add (i * 5)).block, (pd14.add (i * 5)).off + 4, none⟩, Vi (cv nd i 4)), (Ad w12.heap.size 0, Vi (cv nd i 0)), (Ad w12.heap.size 1, Vi (cv nd i 1)), (Ad w12.heap.size 2, Vi (cv nd i 2)), (Ad w12.heap.size 3, Vi (cv nd i 3)), (Ad w12.heap.size 4, Vi (cv nd i 4))] := hC.box (b := w12.heap.size) #[Vi (cv nd i 0), Vi (cv nd i 1), Vi (cv nd i 2), Vi (cv nd i 3), Vi (cv nd i 4)] 31 rfl
    generalize w12.alloc (.cells #[Vi (cv nd i 0), Vi (cv nd i 1), Vi (cv nd i 2), Vi (cv nd i 3), Vi (cv nd i 4)] 31) = w17 at *
    replace G := G.trans g
    replace hC := hC2
    clear hC2
    replace hI1 := hI1.thenGr g
    replace hI2 := hI2.thenGr g
    replace hnd := hnd.gr g
    replace hl := hl.gr g
    replace hIa := hIa.gr g
    replace hIr := hIr.gr g
    replace hS := hS.gr g
    clear g hb hbl
    refine Y.nil ?_
    replace F : Fr ac 73 [(3, Vp w.heap.size), (6, .slice (some pd11) t.toNat rc), (7, .slice (some ⟨w6.heap.size, 0, none⟩) n n), (11, Vi (((runFrom hold gr.toNat n l (startS nd) t.toNat).rows)[k]?.getD 0)), (12, Vi i), (13, Vp w12.heap.size), (34, .slice (some pd11) t.toNat rc), (35, Vi t.toNat), (36, Vi k), (41, .slice (some pd14) n nc), (42, Vi n), (43, Vi i)] := F.sub _
    refine X.thenN ?_
    refine Y.seq ?_
    refine Y.lit (by kernel_rfl) ?_
    refine Y.pv F (X.move rfl (F.e 11 rfl)) ?_;clear F ac;intro ac F
    refine Y.pv F (X.move rfl (F.e 12 rfl)) ?_;clear F ac;intro ac F
    refine Y.pv F (X.binop rfl (F.e 48 rfl) (F.e 49 rfl) (X.shrI Try.underlying3 rfl (by omega))) ?_;clear F ac;intro ac F
    refine Y.pv F (X.binop rfl (F.e 50 rfl) (X.kc (Vi 1) rfl) (X.andI Try.underlying3 rfl)) ?_;clear F ac;intro ac F
    refine Y.pv F (X.binop rfl (F.e 51 rfl) (X.kc (Vi 1) rfl) (X.eqlI Try.underlying3 rfl)) ?_;clear F ac;intro ac F
    refine Y.nil ?_
    replace F : Fr ac 73 [(3, Vp w.heap.size), (6, .slice (some pd11) t.toNat rc), (7, .slice (some ⟨w6.heap.size, 0, none⟩) n n), (11, Vi (((runFrom hold gr.toNat n l (startS nd) t.toNat).rows)[k]?.getD 0)), (12, Vi i), (13, Vp w12.heap.size), (34, .slice (some pd11) t.toNat rc), (35, Vi t.toNat), (36, Vi k), (41, .slice (some pd14) n nc), (42, Vi n), (43, Vi i), (52, .bool ((andV (shrV (((runFrom hold gr.toNat n l (startS nd) t.toNat).rows)[k]?.getD 0 : Int) (i : Int) : Int) 1 : Int) == 1))] := F.sub _
    refine X.thenN ?_
    cases h18 : ((andV (shrV (((runFrom hold gr.toNat n l (startS nd) t.toNat).rows)[k]?.getD 0 : Int) (i : Int) : Int) 1 : Int) == 1) with
    | false =>
     try rw [h18] at F
     have h18p : ¬ (andV (shrV (((runFrom hold gr.toNat n l (startS nd) t.toNat).rows)[k]?.getD 0 : Int) (i : Int) : Int) 1 : Int) = 1 := by simpa using h18
     refine Y.condF (F.e 52 rfl) ?_
     replace hC : RCells w17 [(Ad w.heap.size 0, Vi gr), (Ad w.heap.size 1, Vi hold), (Ad w.heap.size 2, .slice (some pd14) n nc), (pd14.add (i * 5), Vi (cv nd i 0)), (⟨(pd14.add (i * 5)).block, (pd14.add (i * 5)).off + 1, none⟩, Vi (cv nd i 1)), (⟨(pd14.add (i * 5)).block, (pd14.add (i * 5)).off + 2, none⟩, Vi (cv nd i 2)), (⟨(pd14.add (i * 5)).block, (pd14.add (i * 5)).off + 3, none⟩, Vi (cv nd i 3)), (⟨(pd14.add (i * 5)).block, (pd14.add (i * 5)).off + 4, none⟩, Vi (cv nd i 4)), (Ad w12.heap.size 0, Vi (cv nd i 0)), (Ad w12.heap.size 1, Vi (cv nd i 1)), (Ad w12.heap.size 2, Vi (cv nd i 2)), (Ad w12.heap.size 3, Vi (cv nd i 3)), (Ad w12.heap.size 4, Vi (cv nd i 4)), (⟨w6.heap.size, i, none⟩, Vi ((enP nd ((runFrom hold gr.toNat n l (startS nd) t.toNat).rows[k]?.getD 0) i (enS nd ((runFrom hold gr.toNat n l (startS nd) t.toNat).rows.take k))) i))] := hC.append ((RCells.cons (hS.cell (k := i) (by omega)) (RCells.nil _)))
     refine Y.regionS F [some (.slice (some ⟨w6.heap.size, 0, none⟩) n n), some (Vi i), some (.pointer (some ⟨w6.heap.size, i, none⟩)), some (Vi ((enP nd ((runFrom hold gr.toNat n l (startS nd) t.toNat).rows[k]?.getD 0) i (enS nd ((runFrom hold gr.toNat n l (startS nd) t.toNat).rows.take k))) i)), some (.pointer (some ⟨w12.heap.size, 2, none⟩)), some (Vi (cv nd i 2)), some (Vi (((enP nd ((runFrom hold gr.toNat n l (startS nd) t.toNat).rows[k]?.getD 0) i (enS nd ((runFrom hold gr.toNat n l (startS nd) t.toNat).rows.take k))) i : Int) + (cv nd i 2))), some (.pointer (some ⟨w6.heap.size, i, none⟩)), none] [] 8 (fun _ W => Only (fun x => x = w6.heap.size) w17 W ∧ OwnP W w6.heap.size (n) (EV ((fun z_ => if z_ = i then ((enP nd ((runFrom hold gr.toNat n l (startS nd) t.toNat).rows[k]?.getD 0) i (enS nd ((runFrom hold gr.toNat n l (startS nd) t.toNat).rows.take k))) i : Int) + (cv nd i 2) else (enP nd ((runFrom hold gr.toNat n l (startS nd) t.toNat).rows[k]?.getD 0) i (enS nd ((runFrom hold gr.toNat n l (startS nd) t.toNat).rows.take k))) z_)))) rfl ⟨by kernel_rfl, of_decide_eq_true (by kernel_rfl), by kernel_rfl, by kernel_rfl, by kernel_rfl⟩ (of_decide_eq_true (by kernel_rfl)) ⟨?_, ?_, ?_, ?_, ?_, ?_, ?_, ?_, ?_, trivial⟩ ?_
     ·intro ac done u W Sx hT
      have hs := Sx.no 8 (by kernel_rfl)
      have hR := hT.1 hs
      exact X.vl (X.move rfl (Sx.ev 7 (.slice (some ⟨w6.heap.size, 0, none⟩) n n))) (Y.RT.of hs rfl hR.st0)
     ·intro ac done u W Sx hT
      have hs := Sx.no 8 (by kernel_rfl)
      have hR := hT.1 hs
      exact X.vl (X.move rfl (Sx.ev 12 (Vi i))) (Y.RT.of hs rfl hR.st0)
     ·intro ac done u W Sx hT
      have hs := Sx.no 8 (by kernel_rfl)
      have hR := hT.1 hs
      exact X.val (X.w0 rfl) rfl (X.index rfl (Sx.ev 61 (.slice (some ⟨w6.heap.size, 0, none⟩) n n)) (Sx.ev 62 (Vi i)) (X.idx (k := i) Try.underlying34 (Try.siz3 _) (by omega) (by omega) (by rw [Nat.mul_one]; exact addr_add0 _ _))) (Y.RT.of hs rfl hR.st0)
     ·intro ac done u W Sx hT
      have hs := Sx.no 8 (by kernel_rfl)
      have hR := hT.1 hs
      have g : Gr w17 W := hR.1
      exact X.vl (X.load rfl (Sx.ev 63 (.pointer (some ⟨w6.heap.size, i, none⟩))) (X.ld1 (Try.agg3 _) ((hC.gr g).at 13 rfl))) (Y.RT.of hs rfl hR.st0)
     ·intro ac done u W Sx hT
      have hs := Sx.no 8 (by kernel_rfl)
      have hR := hT.1 hs
      exact X.vl (X.field rfl (Sx.ev 13 (Vp w12.heap.size)) (X.fld Try.underlying31 rfl (Try.siz3 _) rfl rfl)) (Y.RT.of hs rfl hR.st0)
     ·intro ac done u W Sx hT
      have hs := Sx.no 8 (by kernel_rfl)
      have hR := hT.1 hs
      have g : Gr w17 W := hR.1
      exact X.vl (X.load rfl (Sx.ev 65 (.pointer (some ⟨w12.heap.size, 2, none⟩))) (X.ld1 (Try.agg3 _) ((hC.gr g).at 10 rfl))) (Y.RT.of hs rfl hR.st0)
     ·intro ac done u W Sx hT
      have hs := Sx.no 8 (by kernel_rfl)
      have hR := hT.1 hs
      exact X.vl (X.binop rfl (Sx.ev 64 (Vi ((enP nd ((runFrom hold gr.toNat n l (startS nd) t.toNat).rows[k]?.getD 0) i (enS nd ((runFrom hold gr.toNat n l (startS nd) t.toNat).rows.take k))) i))) (Sx.ev 66 (Vi (cv nd i 2))) (X.addI Try.underlying3 rfl (by omega) (by omega))) (Y.RT.of hs rfl hR.st0)
     ·intro ac done u W Sx hT
      have hs := Sx.no 8 (by kernel_rfl)
      have hR := hT.1 hs
      exact X.val (X.w0 rfl) rfl (X.index rfl (Sx.ev 61 (.slice (some ⟨w6.heap.size, 0, none⟩) n n)) (Sx.ev 62 (Vi i)) (X.idx (k := i) Try.underlying34 (Try.siz3 _) (by omega) (by omega) (by rw [Nat.mul_one]; exact addr_add0 _ _))) (Y.RT.of hs rfl hR.st0)
     ·intro ac done u W Sx hT
      have hR := hT.1 Sx.nd
      have g : Gr w17 W := hR.1
      have hS2 := (hS.gr g).set (k := i) (Vi (((enP nd ((runFrom hold gr.toNat n l (startS nd) t.toNat).rows[k]?.getD 0) i (enS nd ((runFrom hold gr.toNat n l (startS nd) t.toNat).rows.take k))) i : Int) + (cv nd i 2)))
      rw [EV_up] at hS2
      exact X.unit (X.w0 rfl) rfl (X.store rfl (Sx.ev 68 (.pointer (some ⟨w6.heap.size, i, none⟩))) (Sx.ev 67 (Vi (((enP nd ((runFrom hold gr.toNat n l (startS nd) t.toNat).rows[k]?.getD 0) i (enS nd ((runFrom hold gr.toNat n l (startS nd) t.toNat).rows.take k))) i : Int) + (cv nd i 2)))) ((hS.gr g).st1 (Try.siz3 _) rfl rfl (by omega))) (Y.RT.fin ⟨(g.only _).trans (Y.set_only _ _ _ _), hS2⟩)
     rintro ac u w19 hs hd hl_ ho ⟨hon, hS2⟩
     replace F : Fr ac 73 [(3, Vp w.heap.size), (6, .slice (some pd11) t.toNat rc), (7, .slice (some ⟨w6.heap.size, 0, none⟩) n n), (11, Vi (((runFrom hold gr.toNat n l (startS nd) t.toNat).rows)[k]?.getD 0)), (34, .slice (some pd11) t.toNat rc), (35, Vi t.toNat), (36, Vi k), (41, .slice (some pd14) n nc), (42, Vi n), (43, Vi i)] := X.fr hs hd hl_ _ (by kernel_rfl)
     clear hs hd hl_ ho
     replace G := Y.Only.up G hon (by omega)
     replace hnd := hnd0.gr G
     replace hl := hl0.gr G
     replace hIa := hIa.onlyAt hon (fun ad e h => by have := hIab ad e; omega)
     replace hIr := hIr.onlyAt hon (fun ad e h => by have := hIrb ad e; omega)
     replace hC := (hC.kc hon 0 rfl (hC.kc hon 1 rfl (hC.kc hon 2 rfl (hC.kc hon 8 rfl (hC.kc hon 9 rfl (hC.kc hon 10 rfl (hC.kc hon 11 rfl (hC.kc hon 12 rfl (RCells.nil _)))))))))
     replace hI1 := hI1.step hon (.inl rfl)
     replace hI2 := hI2.step hon (.inl rfl)
     replace hS : OwnP w19 w6.heap.size (n) (EV ((fun z_ => if z_ = i then ((enP nd ((runFrom hold gr.toNat n l (startS nd) t.toNat).rows[k]?.getD 0) i (enS nd ((runFrom hold gr.toNat n l (startS nd) t.toNat).rows.take k))) i : Int) + (cv nd i 2) else (enP nd ((runFrom hold gr.toNat n l (startS nd) t.toNat).rows[k]?.getD 0) i (enS nd ((runFrom hold gr.toNat n l (startS nd) t.toNat).rows.take k))) z_))) := hS2
     clear hS2 hon
     refine X.blockN ?_
     refine X.thenN ?_
     refine Y.lit (by kernel_rfl) ?_
     refine Y.pv F (X.binop rfl (F.e 43 rfl) (X.kc (Vi 1) rfl) (X.addI Try.underlying3 rfl (by omega) (by omega))) ?_;clear F ac;intro ac F
     refine Y.pv F (X.move rfl (F.e 69 rfl)) ?_;clear F ac;intro ac F
     refine Y.nil ?_
     replace F : Fr ac 73 [(3, Vp w.heap.size), (6, .slice (some pd11) t.toNat rc), (7, .slice (some ⟨w6.heap.size, 0, none⟩) n n), (11, Vi (((runFrom hold gr.toNat n l (startS nd) t.toNat).rows)[k]?.getD 0)), (34, .slice (some pd11) t.toNat rc), (35, Vi t.toNat), (36, Vi k), (41, .slice (some pd14) n nc), (42, Vi n), (43, Vi ((i : Int) + 1))] := F.sub _
     refine X.thenN ?_
     refine ⟨_, ?_, i + 1, rfl, by omega, hI2, (by rw [enP_succ nd _ i _ (by unfold en1 bitB; simp [h18])] at hS; exact hS), F.sub _⟩
     omega
    | true =>
     try rw [h18] at F
     have h18p : (andV (shrV (((runFrom hold gr.toNat n l (startS nd) t.toNat).rows)[k]?.getD 0 : Int) (i : Int) : Int) 1 : Int) = 1 := by simpa using h18
     refine Y.condT (F.e 52 rfl) ?_
     replace hC : RCells w17 [(Ad w.heap.size 0, Vi gr), (Ad w.heap.size 1, Vi hold), (Ad w.heap.size 2, .slice (some pd14) n nc), (pd14.add (i * 5), Vi (cv nd i 0)), (⟨(pd14.add (i * 5)).block, (pd14.add (i * 5)).off + 1, none⟩, Vi (cv nd i 1)), (⟨(pd14.add (i * 5)).block, (pd14.add (i * 5)).off + 2, none⟩, Vi (cv nd i 2)), (⟨(pd14.add (i * 5)).block, (pd14.add (i * 5)).off + 3, none⟩, Vi (cv nd i 3)), (⟨(pd14.add (i * 5)).block, (pd14.add (i * 5)).off + 4, none⟩, Vi (cv nd i 4)), (Ad w12.heap.size 0, Vi (cv nd i 0)), (Ad w12.heap.size 1, Vi (cv nd i 1)), (Ad w12.heap.size 2, Vi (cv nd i 2)), (Ad w12.heap.size 3, Vi (cv nd i 3)), (Ad w12.heap.size 4, Vi (cv nd i 4)), (⟨w6.heap.size, i, none⟩, Vi ((enP nd ((runFrom hold gr.toNat n l (startS nd) t.toNat).rows[k]?.getD 0) i (enS nd ((runFrom hold gr.toNat n l (startS nd) t.toNat).rows.take k))) i))] := hC.append ((RCells.cons (hS.cell (k := i) (by omega)) (RCells.nil _)))
     refine Y.regionS F [some (.slice (some ⟨w6.heap.size, 0, none⟩) n n), some (Vi i), some (.pointer (some ⟨w6.heap.size, i, none⟩)), some (Vi ((enP nd ((runFrom hold gr.toNat n l (startS nd) t.toNat).rows[k]?.getD 0) i (enS nd ((runFrom hold gr.toNat n l (startS nd) t.toNat).rows.take k))) i)), some (.pointer (some ⟨w12.heap.size, 1, none⟩)), some (Vi (cv nd i 1)), some (Vi (((enP nd ((runFrom hold gr.toNat n l (startS nd) t.toNat).rows[k]?.getD 0) i (enS nd ((runFrom hold gr.toNat n l (startS nd) t.toNat).rows.take k))) i : Int) + (cv nd i 1))), some (.pointer (some ⟨w6.heap.size, i, none⟩)), none] [] 8 (fun _ W => Only (fun x => x = w6.heap.size) w17 W ∧ OwnP W w6.heap.size (n) (EV ((fun z_ => if z_ = i then ((enP nd ((runFrom hold gr.toNat n l (startS nd) t.toNat).rows[k]?.getD 0) i (enS nd ((runFrom hold gr.toNat n l (startS nd) t.toNat).rows.take k))) i : Int) + (cv nd i 1) else (enP nd ((runFrom hold gr.toNat n l (startS nd) t.toNat).rows[k]?.getD 0) i (enS nd ((runFrom hold gr.toNat n l (startS nd) t.toNat).rows.take k))) z_)))) rfl ⟨by kernel_rfl, of_decide_eq_true (by kernel_rfl), by kernel_rfl, by kernel_rfl, by kernel_rfl⟩ (of_decide_eq_true (by kernel_rfl)) ⟨?_, ?_, ?_, ?_, ?_, ?_, ?_, ?_, ?_, trivial⟩ ?_
     ·intro ac done u W Sx hT
      have hs := Sx.no 8 (by kernel_rfl)
      have hR := hT.1 hs
      exact X.vl (X.move rfl (Sx.ev 7 (.slice (some ⟨w6.heap.size, 0, none⟩) n n))) (Y.RT.of hs rfl hR.st0)
     ·intro ac done u W Sx hT
      have hs := Sx.no 8 (by kernel_rfl)
      have hR := hT.1 hs
      exact X.vl (X.move rfl (Sx.ev 12 (Vi i))) (Y.RT.of hs rfl hR.st0)
     ·intro ac done u W Sx hT
      have hs := Sx.no 8 (by kernel_rfl)
      have hR := hT.1 hs
      exact X.val (X.w0 rfl) rfl (X.index rfl (Sx.ev 53 (.slice (some ⟨w6.heap.size, 0, none⟩) n n)) (Sx.ev 54 (Vi i)) (X.idx (k := i) Try.underlying34 (Try.siz3 _) (by omega) (by omega) (by rw [Nat.mul_one]; exact addr_add0 _ _))) (Y.RT.of hs rfl hR.st0)
     ·intro ac done u W Sx hT
      have hs := Sx.no 8 (by kernel_rfl)
      have hR := hT.1 hs
      have g : Gr w17 W := hR.1
      exact X.vl (X.load rfl (Sx.ev 55 (.pointer (some ⟨w6.heap.size, i, none⟩))) (X.ld1 (Try.agg3 _) ((hC.gr g).at 13 rfl))) (Y.RT.of hs rfl hR.st0)
     ·intro ac done u W Sx hT
      have hs := Sx.no 8 (by kernel_rfl)
      have hR := hT.1 hs
      exact X.vl (X.field rfl (Sx.ev 13 (Vp w12.heap.size)) (X.fld Try.underlying31 rfl (Try.siz3 _) rfl rfl)) (Y.RT.of hs rfl hR.st0)
     ·intro ac done u W Sx hT
      have hs := Sx.no 8 (by kernel_rfl)
      have hR := hT.1 hs
      have g : Gr w17 W := hR.1
      exact X.vl (X.load rfl (Sx.ev 57 (.pointer (some ⟨w12.heap.size, 1, none⟩))) (X.ld1 (Try.agg3 _) ((hC.gr g).at 9 rfl))) (Y.RT.of hs rfl hR.st0)
     ·intro ac done u W Sx hT
      have hs := Sx.no 8 (by kernel_rfl)
      have hR := hT.1 hs
      exact X.vl (X.binop rfl (Sx.ev 56 (Vi ((enP nd ((runFrom hold gr.toNat n l (startS nd) t.toNat).rows[k]?.getD 0) i (enS nd ((runFrom hold gr.toNat n l (startS nd) t.toNat).rows.take k))) i))) (Sx.ev 58 (Vi (cv nd i 1))) (X.addI Try.underlying3 rfl (by omega) (by omega))) (Y.RT.of hs rfl hR.st0)
     ·intro ac done u W Sx hT
      have hs := Sx.no 8 (by kernel_rfl)
      have hR := hT.1 hs
      exact X.val (X.w0 rfl) rfl (X.index rfl (Sx.ev 53 (.slice (some ⟨w6.heap.size, 0, none⟩) n n)) (Sx.ev 54 (Vi i)) (X.idx (k := i) Try.underlying34 (Try.siz3 _) (by omega) (by omega) (by rw [Nat.mul_one]; exact addr_add0 _ _))) (Y.RT.of hs rfl hR.st0)
     ·intro ac done u W Sx hT
      have hR := hT.1 Sx.nd
      have g : Gr w17 W := hR.1
      have hS2 := (hS.gr g).set (k := i) (Vi (((enP nd ((runFrom hold gr.toNat n l (startS nd) t.toNat).rows[k]?.getD 0) i (enS nd ((runFrom hold gr.toNat n l (startS nd) t.toNat).rows.take k))) i : Int) + (cv nd i 1)))
      rw [EV_up] at hS2
      exact X.unit (X.w0 rfl) rfl (X.store rfl (Sx.ev 60 (.pointer (some ⟨w6.heap.size, i, none⟩))) (Sx.ev 59 (Vi (((enP nd ((runFrom hold gr.toNat n l (startS nd) t.toNat).rows[k]?.getD 0) i (enS nd ((runFrom hold gr.toNat n l (startS nd) t.toNat).rows.take k))) i : Int) + (cv nd i 1)))) ((hS.gr g).st1 (Try.siz3 _) rfl rfl (by omega))) (Y.RT.fin ⟨(g.only _).trans (Y.set_only _ _ _ _), hS2⟩)
     rintro ac u w20 hs hd hl_ ho ⟨hon, hS2⟩
     replace F : Fr ac 73 [(3, Vp w.heap.size), (6, .slice (some pd11) t.toNat rc), (7, .slice (some ⟨w6.heap.size, 0, none⟩) n n), (11, Vi (((runFrom hold gr.toNat n l (startS nd) t.toNat).rows)[k]?.getD 0)), (34, .slice (some pd11) t.toNat rc), (35, Vi t.toNat), (36, Vi k), (41, .slice (some pd14) n nc), (42, Vi n), (43, Vi i)] := X.fr hs hd hl_ _ (by kernel_rfl)
     clear hs hd hl_ ho
     replace G := Y.Only.up G hon (by omega)
     replace hnd := hnd0.gr G
     replace hl := hl0.gr G
     replace hIa := hIa.onlyAt hon (fun ad e h => by have := hIab ad e; omega)
     replace hIr := hIr.onlyAt hon (fun ad e h => by have := hIrb ad e; omega)
     replace hC := (hC.kc hon 0 rfl (hC.kc hon 1 rfl (hC.kc hon 2 rfl (hC.kc hon 8 rfl (hC.kc hon 9 rfl (hC.kc hon 10 rfl (hC.kc hon 11 rfl (hC.kc hon 12 rfl (RCells.nil _)))))))))
     replace hI1 := hI1.step hon (.inl rfl)
     replace hI2 := hI2.step hon (.inl rfl)
     replace hS : OwnP w20 w6.heap.size (n) (EV ((fun z_ => if z_ = i then ((enP nd ((runFrom hold gr.toNat n l (startS nd) t.toNat).rows[k]?.getD 0) i (enS nd ((runFrom hold gr.toNat n l (startS nd) t.toNat).rows.take k))) i : Int) + (cv nd i 1) else (enP nd ((runFrom hold gr.toNat n l (startS nd) t.toNat).rows[k]?.getD 0) i (enS nd ((runFrom hold gr.toNat n l (startS nd) t.toNat).rows.take k))) z_))) := hS2
     clear hS2 hon
     refine X.blockN ?_
     refine X.thenN ?_
     refine Y.lit (by kernel_rfl) ?_
     refine Y.pv F (X.binop rfl (F.e 43 rfl) (X.kc (Vi 1) rfl) (X.addI Try.underlying3 rfl (by omega) (by omega))) ?_;clear F ac;intro ac F
     refine Y.pv F (X.move rfl (F.e 69 rfl)) ?_;clear F ac;intro ac F
     refine Y.nil ?_
     replace F : Fr ac 73 [(3, Vp w.heap.size), (6, .slice (some pd11) t.toNat rc), (7, .slice (some ⟨w6.heap.size, 0, none⟩) n n), (11, Vi (((runFrom hold gr.toNat n l (startS nd) t.toNat).rows)[k]?.getD 0)), (34, .slice (some pd11) t.toNat rc), (35, Vi t.toNat), (36, Vi k), (41, .slice (some pd14) n nc), (42, Vi n), (43, Vi ((i : Int) + 1))] := F.sub _
     refine X.thenN ?_
     refine ⟨_, ?_, i + 1, rfl, by omega, hI2, (by rw [enP_succ nd _ i _ (by unfold en1 bitB; simp [h18])] at hS; exact hS), F.sub _⟩
     omega
 ·have hE := hE
  refine Y.pcall F (X.w0 rfl) rfl (X.enter (F := 44) rfl (X.kc (.func (.func 44) #[] #[]) rfl) (X.a3 (F.e 15 rfl) (F.e 16 rfl) (F.e 17 rfl)) (enters_of Try.func44 (by kernel_rfl) rfl _)) (begin_any na la n nc m lc gr hold t nd l w3 hnd hl) ?_
  clear F ac
  rintro e w21 ⟨h1, g, -⟩
  obtain rfl := h1 hE
  refine ⟨_, rfl, ?_⟩
  intro ac F
  replace G := G.trans g
  replace hC := hC.gr g
  replace hnd := hnd.gr g
  replace hl := hl.gr g
  clear g
  refine Y.pv F (X.move rfl (F.e 18 rfl)) ?_;clear F ac;intro ac F
  refine Y.pv F (X.extract rfl (F.e 14 rfl) rfl) ?_;clear F ac;intro ac F
  refine Y.pv F (X.extract rfl (F.e 14 rfl) rfl) ?_;clear F ac;intro ac F
  refine Y.pv F (X.assign rfl (F.e 19 rfl)) ?_;clear F ac;intro ac F
  refine Y.pv F (X.assign rfl (F.e 20 rfl)) ?_;clear F ac;intro ac F
  refine Y.nil ?_
  replace F : Fr ac 73 [(1, Vi t), (3, Vp w.heap.size), (8, Vi (playE gr hold nd t l)), (9, .pointer none)] := F.sub _
  refine X.thenN ?_
  refine Y.seq ?_
  refine Y.seq ?_
  refine Y.lit (by kernel_rfl) ?_
  refine Y.pv F (X.move rfl (F.e 8 rfl)) ?_;clear F ac;intro ac F
  refine Y.pv F (X.binop rfl (F.e 21 rfl) (X.kc (Vi 0) rfl) (X.neqI Try.underlying26 rfl)) ?_;clear F ac;intro ac F
  refine Y.nil ?_
  replace F : Fr ac 73 [(1, Vi t), (3, Vp w.heap.size), (8, Vi (playE gr hold nd t l)), (9, .pointer none), (22, .bool ((playE gr hold nd t l : Int) != 0))] := F.sub _
  refine X.thenN ?_
  have h23 : ((playE gr hold nd t l : Int) != 0) = true := by simpa using hE
  try rw [h23] at F
  refine Y.condT (F.e 22 rfl) ?_
  refine Y.seq ?_
  refine Y.lit (by kernel_rfl) ?_
  refine Y.pv F (X.move rfl (F.e 8 rfl)) ?_;clear F ac;intro ac F
  refine Y.pv F (X.assign rfl (X.kc (.slice none 0 0) rfl)) ?_;clear F ac;intro ac F
  refine Y.pv F (X.assign rfl (X.kc (.slice none 0 0) rfl)) ?_;clear F ac;intro ac F
  refine Y.pv F (X.assign rfl (F.e 23 rfl)) ?_;clear F ac;intro ac F
  refine Y.nil ?_
  replace F : Fr ac 73 [(6, .slice none 0 0), (7, .slice none 0 0), (8, Vi (playE gr hold nd t l))] := F.sub _
  refine X.thenN ?_
  refine Y.ret ?_
  refine X.thenR ?_
  exact Y.ret0 (v := .tuple #[.slice none 0 0, .slice none 0 0, Vi (playE gr hold nd t l)]) F (Y.rs3 F rfl (by kernel_rfl) (by kernel_rfl) (by kernel_rfl)) ⟨none, 0, 0, none, 0, 0, rfl, by unfold playRows; rw [if_neg hE]; exact Ints.nil _, by unfold playEn; rw [if_neg hE]; exact Ints.nil _, G⟩
end
end Go.Proofs.Ytoalamakhjbedaa
