/- Several texts of this claim in one file. (1) Contract: slices.Insert of one element. (2) Contracts: comparing rows of numbers. (3) The first ones by a key, as they lie in memory. Nothing of the program is proved here. -/
import Derived.Test.YtodedneanlekdaaBd9
import Derived.Test.YtodedneanlekdaaBd3
import Derived.Test.YtodedneanlekdaaBd8
namespace Go.Proofs.Ytodedneanlekdaa
set_option linter.unusedSimpArgs false
set_option linter.unusedVariables false
section
open Go.RowKit

theorem siz92i : (Try.prog.info? 92).map (·.size) = some 2 := by kernel_rfl
theorem siz34i : (Try.prog.info? 34).map (·.size) = some 1 := by kernel_rfl
theorem run130 (args : Array Value) (w : World) : (callFunc 130 args).run Try.prog w = ((Extern.SlicesOverlaps.overlaps #[89, 89] #[4] args).run Try.prog w).andThen fun v w' => .ok (.value v) w' :=
  run_callFunc_extern Try.func130 (by kernel_rfl) (by kernel_rfl) (by kernel_rfl) (e := Extern.SlicesOverlaps.overlaps #[89, 89] #[4]) (by kernel_rfl) args w
theorem run132 (args : Array Value) (w : World) : (callFunc 132 args).run Try.prog w = ((Extern.SlicesOverlaps.overlaps #[38, 38] #[4] args).run Try.prog w).andThen fun v w' => .ok (.value v) w' :=
  run_callFunc_extern Try.func132 (by kernel_rfl) (by kernel_rfl) (by kernel_rfl) (e := Extern.SlicesOverlaps.overlaps #[38, 38] #[4]) (by kernel_rfl) args w
set_option maxRecDepth 100000 in
set_option maxHeartbeats 1000000 in
theorem ins116_end (B vb : Nat) (a : Option Addr) (n c : Nat) (xs N : List Value) (w : World) (hO : OwnR w B 92 2 (.slice a n c) n xs) (hn : n ≤ 100000) (hnc : n ≤ c) (hV0 : HpR w vb N 92) (hNl : N.length = 2) (hN1 : (N.all fun v => v.oneCell') = true) (hB : B ≤ w.heap.size) :
  Calls Try.prog 116 #[.slice a n c, Vi n, .slice (some ⟨vb, 0, none⟩) 1 1] w fun e w' => ∃ v', e = .returned v' ∧ OwnR w' B 92 2 v' (n + 1) (xs ++ N) ∧ Only (fun x => (Value.slice a n c).ownBlock = some x) w w' ∧ (v'.ownBlock = (Value.slice a n c).ownBlock ∨ ∃ x, v'.ownBlock = some x ∧ w.heap.size ≤ x) := by
 have G := Gr.refl w
 have hV := hV0
 refine Y.calls 95 Try.func116 rfl rfl ?_
 intro ac F0
 have F : Fr ac 95 [(0, .slice a n c), (1, Vi n), (2, .slice (some ⟨vb, 0, none⟩) 1 1)] := F0.sub _
 clear F0
 refine Y.sg F [(0, .slice a n c), (1, Vi n), (2, .slice (some ⟨vb, 0, none⟩) 1 1)] (Y.pv F (X.assign rfl (X.kc (.slice none 0 0) rfl)) fun ac F=>Y.fin F) ?_;clear F ac;intro ac F
 refine Y.sg F [(0, .slice a n c), (1, Vi n), (2, .slice (some ⟨vb, 0, none⟩) 1 1)] (by
  refine Y.pv F (X.move rfl (F.ev 0 (.slice a n c))) fun ac F=>?_
  refine Y.pv F (X.move rfl (F.ev 1 (Vi n))) fun ac F=>?_
  refine Y.pv F (Y.slL (i := n) rfl (F.ev 10 (.slice a n c)) (F.ev 11 (Vi n)) Try.underlying89 (Try.siz92 _) rfl (by omega) (by omega)) fun ac F=>?_
  exact Y.fin F) ?_;clear F ac;intro ac F
 refine Y.sg F [(0, .slice a n c), (1, Vi n), (2, .slice (some ⟨vb, 0, none⟩) 1 1), (7, Vi 1)] (Y.pv F (X.move rfl (F.ev 2 (.slice (some ⟨vb, 0, none⟩) 1 1))) fun ac F=>Y.pv F (X.len1 Try.underlying89 rfl (F.ev 13 (.slice (some ⟨vb, 0, none⟩) 1 1))) fun ac F=>Y.pv F (X.assign rfl (F.ev 14 (Vi 1))) fun ac F=>Y.fin F) ?_;clear F ac;intro ac F
 refine Y.seq ?_
 refine Y.sg F [(0, .slice a n c), (1, Vi n), (2, .slice (some ⟨vb, 0, none⟩) 1 1), (7, Vi 1), (16, .bool false)] (Y.pv F (X.move rfl (F.ev 7 (Vi 1))) fun ac F=>Y.pval F (X.w0 rfl) rfl (X.binop rfl (F.ev 15 (Vi 1)) (X.kc (Vi 0) rfl) (X.eqlI Try.underlying3 (show ((1 : Int) == 0) = false by simp))) fun ac F=>Y.fin F) ?_;clear F ac;intro ac F
 refine Y.cF F 16 ?_
 refine Y.skip ?_
 refine X.thenN ?_
 refine Y.sg F [(0, .slice a n c), (1, Vi n), (2, .slice (some ⟨vb, 0, none⟩) 1 1), (7, Vi 1), (8, Vi n)] (Y.pv F (X.move rfl (F.ev 0 (.slice a n c))) fun ac F=>Y.pv F (X.len1 Try.underlying89 rfl (F.ev 18 (.slice a n c))) fun ac F=>Y.pv F (X.assign rfl (F.ev 19 (Vi n))) fun ac F=>Y.fin F) ?_;clear F ac;intro ac F
 refine Y.seq ?_
 refine Y.sg F [(0, .slice a n c), (1, Vi n), (2, .slice (some ⟨vb, 0, none⟩) 1 1), (7, Vi 1), (8, Vi n), (22, .bool true)] (Y.pv F (X.move rfl (F.ev 1 (Vi n))) fun ac F=>Y.pv F (X.move rfl (F.ev 8 (Vi n))) fun ac F=>Y.pval F (X.w0 rfl) rfl (X.binop rfl (F.ev 20 (Vi n)) (F.ev 21 (Vi n)) (X.eqlI Try.underlying3 (show ((n : Int) == n) = true by simp))) fun ac F=>Y.fin F) ?_;clear F ac;intro ac F
 refine Y.cT F 22 ?_
 refine Y.sl ?_
 refine Y.pv2 F (X.move rfl (F.ev 0 (.slice a n c))) (fun _ F=>X.move rfl (F.ev 2 (.slice (some ⟨vb, 0, none⟩) 1 1))) ?_;clear F ac;intro ac F
 have hvc := HpR.gr hV G
 have hO2 := OwnR.gr hO G
 have hBW := Nat.le_trans hB G.size
 refine Y.wpL_plain rfl fun _ hK => wp_pushV Try.underlying89 Try.info92 rfl (by decide) rfl (F.ev 23 (.slice a n c)) (F.ev 24 (.slice (some ⟨vb, 0, none⟩) 1 1)) hO2 (m := 1) (news := N) (by omega) (heap_cells hvc (self_get N)) hN1 (by omega) (by decide) hBW (fun v2 w3 hO3 hon hat => hK _ _ ?_)
 refine Y.pput F rfl fun ac F=>Y.pv F (X.assign rfl (F.ev 25 (v2))) ?_;clear F ac;intro ac F
 refine Y.nt F [(6, v2)] ?_;clear F ac;intro ac F
 refine Y.ret ?_
 refine X.thenR ?_
 exact Y.ret0 (v := v2) F (Y.r1 F) ⟨_, rfl, hO3, (G.only _).trans hon, hat.imp (fun z => z) (fun e => ⟨_, e, G.size⟩)⟩
set_option maxRecDepth 100000 in
set_option maxHeartbeats 1000000 in
theorem ins116_grow (B b vb n c i : Nat) (L0 xs N : List Value) (w : World) (hL0 : HpR w b L0 92) (hBb : B ≤ b) (hnc : n ≤ c) (hcm : c ≤ maxLen) (hLl : L0.length = c * 2) (hLx : L0.take (n * 2) = xs) (hxl : xs.length = n * 2) (hx1 : (xs.all fun v => v.oneCell') = true) (hi : i < n) (hn : n ≤ 100000) (hroom : c < n + 1) (hvb : vb ≠ b) (hV0 : HpR w vb N 92) (hNl : N.length = 2) (hN1 : (N.all fun v => v.oneCell') = true) (hB : B ≤ w.heap.size) :
  Calls Try.prog 116 #[.slice (some ⟨b, 0, none⟩) n c, Vi i, .slice (some ⟨vb, 0, none⟩) 1 1] w fun e w' => ∃ v', e = .returned v' ∧ OwnR w' B 92 2 v' (n + 1) (xs.take (i * 2) ++ N ++ xs.drop (i * 2)) ∧ Only (fun x => (Value.slice (some ⟨b, 0, none⟩) n c).ownBlock = some x) w w' ∧ (v'.ownBlock = (Value.slice (some ⟨b, 0, none⟩) n c).ownBlock ∨ ∃ x, v'.ownBlock = some x ∧ w.heap.size ≤ x) := by
 have G := Gr.refl w
 have hL := hL0
 have hV := hV0
 have hbl9 := hL0.lt
 have hvl9 := hV0.lt
 have hvb2 := hvb
 refine Y.calls 95 Try.func116 rfl rfl ?_
 intro ac F0
 have F : Fr ac 95 [(0, .slice (some ⟨b, 0, none⟩) n c), (1, Vi i), (2, .slice (some ⟨vb, 0, none⟩) 1 1)] := F0.sub _
 clear F0
 refine Y.sg F [(0, .slice (some ⟨b, 0, none⟩) n c), (1, Vi i), (2, .slice (some ⟨vb, 0, none⟩) 1 1)] (Y.pv F (X.assign rfl (X.kc (.slice none 0 0) rfl)) fun ac F=>Y.fin F) ?_;clear F ac;intro ac F
 refine Y.sg F [(0, .slice (some ⟨b, 0, none⟩) n c), (1, Vi i), (2, .slice (some ⟨vb, 0, none⟩) 1 1)] (by
  refine Y.pv F (X.move rfl (F.ev 0 (.slice (some ⟨b, 0, none⟩) n c))) fun ac F=>?_
  refine Y.pv F (X.move rfl (F.ev 1 (Vi i))) fun ac F=>?_
  refine Y.pv F (Y.slL1 (i := i) (q := i * 2) (m := n - i) (r := c - i) rfl (F.ev 10 (.slice (some ⟨b, 0, none⟩) n c)) (F.ev 11 (Vi i)) Try.underlying89 (Try.siz92 _) (by omega) (by omega) (by omega) (by omega) (by omega) (by omega) (by omega)) fun ac F=>?_
  exact Y.fin F) ?_;clear F ac;intro ac F
 refine Y.sg F [(0, .slice (some ⟨b, 0, none⟩) n c), (1, Vi i), (2, .slice (some ⟨vb, 0, none⟩) 1 1), (7, Vi 1)] (Y.pv F (X.move rfl (F.ev 2 (.slice (some ⟨vb, 0, none⟩) 1 1))) fun ac F=>Y.pv F (X.len1 Try.underlying89 rfl (F.ev 13 (.slice (some ⟨vb, 0, none⟩) 1 1))) fun ac F=>Y.pv F (X.assign rfl (F.ev 14 (Vi 1))) fun ac F=>Y.fin F) ?_;clear F ac;intro ac F
 refine Y.seq ?_
 refine Y.sg F [(0, .slice (some ⟨b, 0, none⟩) n c), (1, Vi i), (2, .slice (some ⟨vb, 0, none⟩) 1 1), (7, Vi 1), (16, .bool false)] (Y.pv F (X.move rfl (F.ev 7 (Vi 1))) fun ac F=>Y.pval F (X.w0 rfl) rfl (X.binop rfl (F.ev 15 (Vi 1)) (X.kc (Vi 0) rfl) (X.eqlI Try.underlying3 (show ((1 : Int) == 0) = false by simp))) fun ac F=>Y.fin F) ?_;clear F ac;intro ac F
 refine Y.cF F 16 ?_
 refine Y.skip ?_
 refine X.thenN ?_
 refine Y.sg F [(0, .slice (some ⟨b, 0, none⟩) n c), (1, Vi i), (2, .slice (some ⟨vb, 0, none⟩) 1 1), (7, Vi 1), (8, Vi n)] (Y.pv F (X.move rfl (F.ev 0 (.slice (some ⟨b, 0, none⟩) n c))) fun ac F=>Y.pv F (X.len1 Try.underlying89 rfl (F.ev 18 (.slice (some ⟨b, 0, none⟩) n c))) fun ac F=>Y.pv F (X.assign rfl (F.ev 19 (Vi n))) fun ac F=>Y.fin F) ?_;clear F ac;intro ac F
 refine Y.seq ?_
 refine Y.sg F [(0, .slice (some ⟨b, 0, none⟩) n c), (1, Vi i), (2, .slice (some ⟨vb, 0, none⟩) 1 1), (7, Vi 1), (8, Vi n), (22, .bool ((i : Int) == n))] (Y.pv F (X.move rfl (F.ev 1 (Vi i))) fun ac F=>Y.pv F (X.move rfl (F.ev 8 (Vi n))) fun ac F=>Y.pv F (X.binop rfl (F.ev 20 (Vi i)) (F.ev 21 (Vi n)) (X.eqlI Try.underlying3 rfl)) fun ac F=>Y.fin F) ?_;clear F ac;intro ac F
 have h4 : ((i : Int) == n) = false := beq_eq_false_iff_ne.2 (by omega)
 try rw [h4] at F
 refine Y.cF F 22 ?_
 refine Y.skip ?_
 refine X.thenN ?_
 refine Y.seq ?_
 refine Y.sg F [(0, .slice (some ⟨b, 0, none⟩) n c), (1, Vi i), (2, .slice (some ⟨vb, 0, none⟩) 1 1), (7, Vi 1), (8, Vi n), (31, .bool (decide ((c : Int) < ((n : Int) + 1))))] (by
  refine Y.pv F (X.move rfl (F.ev 8 (Vi n))) fun ac F=>?_
  refine Y.pv F (X.move rfl (F.ev 7 (Vi 1))) fun ac F=>?_
  refine Y.pv F (X.binop rfl (F.ev 26 (Vi n)) (F.ev 27 (Vi 1)) (X.addI Try.underlying3 rfl (by omega) (by omega))) fun ac F=>?_
  refine Y.pv F (X.move rfl (F.ev 0 (.slice (some ⟨b, 0, none⟩) n c))) fun ac F=>?_
  refine Y.pv F (Y.cap Try.underlying89 rfl (F.ev 29 (.slice (some ⟨b, 0, none⟩) n c))) fun ac F=>?_
  refine Y.pv F (X.binop rfl (F.ev 28 (Vi ((n : Int) + 1))) (F.ev 30 (Vi c)) (X.gtrI Try.underlying3 rfl)) fun ac F=>?_
  exact Y.fin F) ?_;clear F ac;intro ac F
 have h6 : decide ((c : Int) < ((n : Int) + 1)) = true := decide_eq_true (by omega)
 have h6p : ((c : Int) < ((n : Int) + 1)) := of_decide_eq_true h6
 try rw [h6] at F
 refine Y.cT F 31 ?_
 refine Y.sl ?_
 refine Y.pv4 F (X.move rfl (F.ev 0 (.slice (some ⟨b, 0, none⟩) n c))) (fun _ F=>X.move rfl (F.ev 1 (Vi i))) (fun _ F=>Y.slH (k := i) rfl (F.ev 32 (.slice (some ⟨b, 0, none⟩) n c)) (F.ev 33 (Vi i)) Try.underlying89 (Try.siz92 _) (by omega) (by omega)) (fun _ F=>X.move rfl (F.ev 8 (Vi n))) fun ac F=>Y.pv4 F (X.move rfl (F.ev 7 (Vi 1))) (fun _ F=>X.binop rfl (F.ev 35 (Vi n)) (F.ev 36 (Vi 1)) (X.addI Try.underlying3 rfl (by omega) (by omega))) (fun _ F=>X.move rfl (F.ev 1 (Vi i))) (fun _ F=>X.binop rfl (F.ev 37 (Vi ((n : Int) + 1))) (F.ev 38 (Vi i)) (X.subI Try.underlying3 rfl (by omega) (by omega))) ?_;clear F ac;intro ac F
 obtain ⟨w7, cg, Z, hrun, hN, hZl, hnG, hGm, gn⟩ := HpR.grow (P := Try.prog) (t := 89) (tn := 3) (ty := 89) (xs := xs.take (i * 2)) (n := n) (i := i) (c := c) (HpR.gr hL G) Try.underlying89 Try.underlying3 Try.info92 rfl (by decide) (by rw [List.length_take, hxl]; exact Nat.min_eq_left (by omega)) (take_get0 hLx) (by omega) (by omega) (by omega) (by decide)
 have hgs := G.size
 have hbl := hL.lt
 have hvl := hV.lt
 refine Y.pv F (Y.apz rfl (F.ev 34 (.slice (some ⟨b, 0, none⟩) i c)) (F.ev 39 (Vi (((n : Int) + 1 : Int) - i))) hrun) ?_
 clear F ac hrun
 intro ac F
 have g0 := G
 replace G := G.trans gn
 replace hL := hL.gr G
 replace hV := hV.gr G
 clear gn
 refine Y.pv F (X.assign rfl (F.ev 40 (.slice (some ⟨w.heap.size, 0, none⟩) (n + 1) cg))) ?_;clear F ac;intro ac F
 refine Y.nt F [(0, .slice (some ⟨b, 0, none⟩) n c), (1, Vi i), (2, .slice (some ⟨vb, 0, none⟩) 1 1), (7, Vi 1), (9, .slice (some ⟨w.heap.size, 0, none⟩) (n + 1) cg)] ?_;clear F ac;intro ac F
 refine Y.sl ?_
 refine Y.pv4 F (X.move rfl (F.ev 9 (.slice (some ⟨w.heap.size, 0, none⟩) (n + 1) cg))) (fun _ F=>X.move rfl (F.ev 1 (Vi i))) (fun _ F=>Y.slL1 (i := i) (q := i * 2) (m := n + 1 - i) (r := cg - i) rfl (F.ev 41 (.slice (some ⟨w.heap.size, 0, none⟩) (n + 1) cg)) (F.ev 42 (Vi i)) Try.underlying89 (Try.siz92 _) (by omega) (by omega) (by omega) (by omega) (by omega) (by omega) (by omega)) (fun _ F=>X.move rfl (F.ev 2 (.slice (some ⟨vb, 0, none⟩) 1 1))) ?_;clear F ac;intro ac F
 obtain ⟨w8, hrun, hH2, hon⟩ := HpR.copy (P := Try.prog) (dT := 89) (sT := 89) (ty := 3) (k := 2) (o := i * 2) (dLen := n + 1 - i) (dCap := cg - i) (o2 := 0) (sLen := 1) (sCap := 1) (cs := N) hN hV Try.underlying89 siz92i (by rw [hNl, show Nat.min 1 (n + 1 - i) = 1 from Nat.min_eq_left (by omega)]) (self_get N) (by have h8 := hZl; simp only [List.length_append, List.length_take, List.length_drop, hNl, hxl, hLl] at h8 ⊢; omega) hN1
 refine Y.pv F (Y.cpy rfl (F.ev 43 (.slice (some ⟨w.heap.size, i * 2, none⟩) (n + 1 - i) (cg - i))) (F.ev 44 (.slice (some ⟨vb, 0, none⟩) 1 1)) hrun) ?_
 clear F ac hrun
 intro ac F
 replace hL := hL.only hon (by omega)
 replace hV := hV.only hon (by omega)
 replace hN := hH2
 clear hH2
 have hC9 := ((G.only (fun x => x = b)).step hon (.inr (by omega)))
 clear hon
 clear G
 have G := Gr.refl w8
 refine Y.nt F [(0, .slice (some ⟨b, 0, none⟩) n c), (1, Vi i), (7, Vi 1), (9, .slice (some ⟨w.heap.size, 0, none⟩) (n + 1) cg)] ?_;clear F ac;intro ac F
 refine Y.seq ?_
 refine Y.regionS F [some (.slice (some ⟨w.heap.size, 0, none⟩) (n + 1) cg), some (Vi i), some (Vi 1), some (Vi ((i : Int) + 1)), some (.slice (some ⟨w.heap.size, (i + 1) * 2, none⟩) (n - i) (cg - (i + 1))), some (.slice (some ⟨b, 0, none⟩) n c), some (Vi i), some (.slice (some ⟨b, i * 2, none⟩) (n - i) (c - i)), some (goInt (Nat.min (n - i) (n - i)))] [] 8 (fun _ W => HpR W w.heap.size (((xs.take (i * 2) ++ Z).take (i * 2) ++ N ++ (xs.take (i * 2) ++ Z).drop (i * 2 + N.length)).take ((i + 1) * 2) ++ (xs.drop (i * 2)) ++ ((xs.take (i * 2) ++ Z).take (i * 2) ++ N ++ (xs.take (i * 2) ++ Z).drop (i * 2 + N.length)).drop ((i + 1) * 2 + (xs.drop (i * 2)).length)) 92 ∧ Only (fun x => x = w.heap.size) w8 W) rfl ⟨by kernel_rfl, of_decide_eq_true (by kernel_rfl), by kernel_rfl, by kernel_rfl, by kernel_rfl⟩ (of_decide_eq_true (by kernel_rfl)) ⟨?_, ?_, ?_, ?_, ?_, ?_, ?_, ?_, ?_, trivial⟩ ?_
 ·intro ac done u W Sx hT
  have hs := Sx.no 8 (by kernel_rfl)
  have hR := hT.1 hs
  exact X.vl (X.move rfl (Sx.ev 9 (.slice (some ⟨w.heap.size, 0, none⟩) (n + 1) cg))) (Y.RT.of hs rfl hR.st0)
 ·intro ac done u W Sx hT
  have hs := Sx.no 8 (by kernel_rfl)
  have hR := hT.1 hs
  exact X.vl (X.move rfl (Sx.ev 1 (Vi i))) (Y.RT.of hs rfl hR.st0)
 ·intro ac done u W Sx hT
  have hs := Sx.no 8 (by kernel_rfl)
  have hR := hT.1 hs
  exact X.vl (X.move rfl (Sx.ev 7 (Vi 1))) (Y.RT.of hs rfl hR.st0)
 ·intro ac done u W Sx hT
  have hs := Sx.no 8 (by kernel_rfl)
  have hR := hT.1 hs
  exact X.vl (X.binop rfl (Sx.ev 47 (Vi i)) (Sx.ev 48 (Vi 1)) (X.addI Try.underlying3 rfl (by omega) (by omega))) (Y.RT.of hs rfl hR.st0)
 ·intro ac done u W Sx hT
  have hs := Sx.no 8 (by kernel_rfl)
  have hR := hT.1 hs
  exact X.vl (Y.slL1 (i := i + 1) (q := (i + 1) * 2) (m := n - i) (r := cg - (i + 1)) rfl (Sx.ev 46 (.slice (some ⟨w.heap.size, 0, none⟩) (n + 1) cg)) (Sx.ev 49 (Vi ((i : Int) + 1))) Try.underlying89 (Try.siz92 _) (by omega) (by omega) (by omega) (by omega) (by omega) (by omega) (by omega)) (Y.RT.of hs rfl hR.st0)
 ·intro ac done u W Sx hT
  have hs := Sx.no 8 (by kernel_rfl)
  have hR := hT.1 hs
  exact X.vl (X.move rfl (Sx.ev 0 (.slice (some ⟨b, 0, none⟩) n c))) (Y.RT.of hs rfl hR.st0)
 ·intro ac done u W Sx hT
  have hs := Sx.no 8 (by kernel_rfl)
  have hR := hT.1 hs
  exact X.vl (X.move rfl (Sx.ev 1 (Vi i))) (Y.RT.of hs rfl hR.st0)
 ·intro ac done u W Sx hT
  have hs := Sx.no 8 (by kernel_rfl)
  have hR := hT.1 hs
  exact X.vl (Y.slL1 (i := i) (q := i * 2) (m := n - i) (r := c - i) rfl (Sx.ev 51 (.slice (some ⟨b, 0, none⟩) n c)) (Sx.ev 52 (Vi i)) Try.underlying89 (Try.siz92 _) (by omega) (by omega) (by omega) (by omega) (by omega) (by omega) (by omega)) (Y.RT.of hs rfl hR.st0)
 ·intro ac done u W Sx hT
  have g : Gr w8 W := (hT.1 Sx.nd).1
  obtain ⟨W2, hrun, hH2, hon⟩ := HpR.copy (P := Try.prog) (dT := 89) (sT := 89) (ty := 3) (k := 2) (o := (i + 1) * 2) (dLen := n - i) (dCap := cg - (i + 1)) (o2 := i * 2) (sLen := n - i) (sCap := c - i) (cs := (xs.drop (i * 2))) (hN.gr g) (hL.gr g) Try.underlying89 siz92i (by rw [List.length_drop, hxl, show Nat.min (n - i) (n - i) = n - i from Nat.min_self _]; omega) (take_get hLx) (by have h8 := hZl; simp only [List.length_append, List.length_take, List.length_drop, hNl, hxl, hLl] at h8 ⊢; omega) (drop_all hx1 _)
  exact X.vl (Y.cpy rfl (Sx.ev 50 (.slice (some ⟨w.heap.size, (i + 1) * 2, none⟩) (n - i) (cg - (i + 1)))) (Sx.ev 53 (.slice (some ⟨b, i * 2, none⟩) (n - i) (c - i))) hrun) (Y.RT.fin ⟨hH2, (g.only _).trans hon⟩)
 rintro ac u w9 hs hd hl_ ho ⟨hH2, hon⟩
 replace F : Fr ac 95 [(9, .slice (some ⟨w.heap.size, 0, none⟩) (n + 1) cg)] := X.fr hs hd hl_ _ (by kernel_rfl)
 clear hs hd hl_ ho
 replace hL := hL.only hon (by omega)
 replace hV := hV.only hon (by omega)
 replace hN := hH2
 clear hH2
 replace hC9 := hC9.step hon (.inr (by omega))
 clear hon
 clear G
 have G := Gr.refl w9
 refine X.thenN ?_
 refine Y.sg F [(6, .slice (some ⟨w.heap.size, 0, none⟩) (n + 1) cg)] (Y.pv F (X.move rfl (F.ev 9 (.slice (some ⟨w.heap.size, 0, none⟩) (n + 1) cg))) fun ac F=>Y.pv F (X.assign rfl (F.ev 55 (.slice (some ⟨w.heap.size, 0, none⟩) (n + 1) cg))) fun ac F=>Y.fin F) ?_;clear F ac;intro ac F
 refine Y.ret ?_
 refine X.thenR ?_
 have e9 := ins_new (A := xs.take (i * 2)) (Z := Z) (M := xs.drop (i * 2)) (N := N) (p := i * 2) (k := 2) (m := (n - i) * 2) (by rw [List.length_take, hxl]; exact Nat.min_eq_left (by omega)) hNl (by rw [List.length_drop, hxl]; omega) (by have h8 := hZl; rw [List.length_append, List.length_take, hxl] at h8; omega)
 rw [show i * 2 + 2 = (i + 1) * 2 by omega] at e9
 rw [e9] at hN
 have hlen9 : (xs.take (i * 2) ++ N ++ xs.drop (i * 2) ++ Z.drop (2 + (n - i) * 2)).length = cg * 2 := by have h8 := hZl; simp only [List.length_append, List.length_take, List.length_drop, hNl, hxl] at h8 ⊢; omega
 exact Y.ret0 (v := .slice (some ⟨w.heap.size, 0, none⟩) (n + 1) cg) F (Y.r1 F) ⟨_, rfl, ins_own hN (by omega) rfl (by simp only [List.length_append, List.length_take, List.length_drop, hNl, hxl]; omega) hlen9 hnG hGm, hC9.mono (fun x _ e => by subst e; rfl), .inr ⟨_, rfl, hgs⟩⟩
set_option maxRecDepth 100000 in
set_option maxHeartbeats 1000000 in
theorem ins116_shift (B b vb n c i : Nat) (L0 xs N : List Value) (w : World) (hL0 : HpR w b L0 92) (hBb : B ≤ b) (hnc : n ≤ c) (hcm : c ≤ maxLen) (hLl : L0.length = c * 2) (hLx : L0.take (n * 2) = xs) (hxl : xs.length = n * 2) (hx1 : (xs.all fun v => v.oneCell') = true) (hi : i < n) (hn : n ≤ 100000) (hroom : n + 1 ≤ c) (hvb : vb ≠ b) (hV0 : HpR w vb N 92) (hNl : N.length = 2) (hN1 : (N.all fun v => v.oneCell') = true) (hB : B ≤ w.heap.size) :
  Calls Try.prog 116 #[.slice (some ⟨b, 0, none⟩) n c, Vi i, .slice (some ⟨vb, 0, none⟩) 1 1] w fun e w' => ∃ v', e = .returned v' ∧ OwnR w' B 92 2 v' (n + 1) (xs.take (i * 2) ++ N ++ xs.drop (i * 2)) ∧ Only (fun x => (Value.slice (some ⟨b, 0, none⟩) n c).ownBlock = some x) w w' ∧ (v'.ownBlock = (Value.slice (some ⟨b, 0, none⟩) n c).ownBlock ∨ ∃ x, v'.ownBlock = some x ∧ w.heap.size ≤ x) := by
 have G := Gr.refl w
 have hL := hL0
 have hV := hV0
 have hbl9 := hL0.lt
 have hvl9 := hV0.lt
 have hvb2 := hvb
 refine Y.calls 95 Try.func116 rfl rfl ?_
 intro ac F0
 have F : Fr ac 95 [(0, .slice (some ⟨b, 0, none⟩) n c), (1, Vi i), (2, .slice (some ⟨vb, 0, none⟩) 1 1)] := F0.sub _
 clear F0
 refine Y.sg F [(0, .slice (some ⟨b, 0, none⟩) n c), (1, Vi i), (2, .slice (some ⟨vb, 0, none⟩) 1 1)] (Y.pv F (X.assign rfl (X.kc (.slice none 0 0) rfl)) fun ac F=>Y.fin F) ?_;clear F ac;intro ac F
 refine Y.sg F [(0, .slice (some ⟨b, 0, none⟩) n c), (1, Vi i), (2, .slice (some ⟨vb, 0, none⟩) 1 1)] (by
  refine Y.pv F (X.move rfl (F.ev 0 (.slice (some ⟨b, 0, none⟩) n c))) fun ac F=>?_
  refine Y.pv F (X.move rfl (F.ev 1 (Vi i))) fun ac F=>?_
  refine Y.pv F (Y.slL1 (i := i) (q := i * 2) (m := n - i) (r := c - i) rfl (F.ev 10 (.slice (some ⟨b, 0, none⟩) n c)) (F.ev 11 (Vi i)) Try.underlying89 (Try.siz92 _) (by omega) (by omega) (by omega) (by omega) (by omega) (by omega) (by omega)) fun ac F=>?_
  exact Y.fin F) ?_;clear F ac;intro ac F
 refine Y.sg F [(0, .slice (some ⟨b, 0, none⟩) n c), (1, Vi i), (2, .slice (some ⟨vb, 0, none⟩) 1 1), (7, Vi 1)] (Y.pv F (X.move rfl (F.ev 2 (.slice (some ⟨vb, 0, none⟩) 1 1))) fun ac F=>Y.pv F (X.len1 Try.underlying89 rfl (F.ev 13 (.slice (some ⟨vb, 0, none⟩) 1 1))) fun ac F=>Y.pv F (X.assign rfl (F.ev 14 (Vi 1))) fun ac F=>Y.fin F) ?_;clear F ac;intro ac F
 refine Y.seq ?_
 refine Y.sg F [(0, .slice (some ⟨b, 0, none⟩) n c), (1, Vi i), (2, .slice (some ⟨vb, 0, none⟩) 1 1), (7, Vi 1), (16, .bool false)] (Y.pv F (X.move rfl (F.ev 7 (Vi 1))) fun ac F=>Y.pval F (X.w0 rfl) rfl (X.binop rfl (F.ev 15 (Vi 1)) (X.kc (Vi 0) rfl) (X.eqlI Try.underlying3 (show ((1 : Int) == 0) = false by simp))) fun ac F=>Y.fin F) ?_;clear F ac;intro ac F
 refine Y.cF F 16 ?_
 refine Y.skip ?_
 refine X.thenN ?_
 refine Y.sg F [(0, .slice (some ⟨b, 0, none⟩) n c), (1, Vi i), (2, .slice (some ⟨vb, 0, none⟩) 1 1), (7, Vi 1), (8, Vi n)] (Y.pv F (X.move rfl (F.ev 0 (.slice (some ⟨b, 0, none⟩) n c))) fun ac F=>Y.pv F (X.len1 Try.underlying89 rfl (F.ev 18 (.slice (some ⟨b, 0, none⟩) n c))) fun ac F=>Y.pv F (X.assign rfl (F.ev 19 (Vi n))) fun ac F=>Y.fin F) ?_;clear F ac;intro ac F
 refine Y.seq ?_
 refine Y.sg F [(0, .slice (some ⟨b, 0, none⟩) n c), (1, Vi i), (2, .slice (some ⟨vb, 0, none⟩) 1 1), (7, Vi 1), (8, Vi n), (22, .bool ((i : Int) == n))] (Y.pv F (X.move rfl (F.ev 1 (Vi i))) fun ac F=>Y.pv F (X.move rfl (F.ev 8 (Vi n))) fun ac F=>Y.pv F (X.binop rfl (F.ev 20 (Vi i)) (F.ev 21 (Vi n)) (X.eqlI Try.underlying3 rfl)) fun ac F=>Y.fin F) ?_;clear F ac;intro ac F
 have h4 : ((i : Int) == n) = false := beq_eq_false_iff_ne.2 (by omega)
 try rw [h4] at F
 refine Y.cF F 22 ?_
 refine Y.skip ?_
 refine X.thenN ?_
 refine Y.seq ?_
 refine Y.sg F [(0, .slice (some ⟨b, 0, none⟩) n c), (1, Vi i), (2, .slice (some ⟨vb, 0, none⟩) 1 1), (7, Vi 1), (8, Vi n), (31, .bool (decide ((c : Int) < ((n : Int) + 1))))] (by
  refine Y.pv F (X.move rfl (F.ev 8 (Vi n))) fun ac F=>?_
  refine Y.pv F (X.move rfl (F.ev 7 (Vi 1))) fun ac F=>?_
  refine Y.pv F (X.binop rfl (F.ev 26 (Vi n)) (F.ev 27 (Vi 1)) (X.addI Try.underlying3 rfl (by omega) (by omega))) fun ac F=>?_
  refine Y.pv F (X.move rfl (F.ev 0 (.slice (some ⟨b, 0, none⟩) n c))) fun ac F=>?_
  refine Y.pv F (Y.cap Try.underlying89 rfl (F.ev 29 (.slice (some ⟨b, 0, none⟩) n c))) fun ac F=>?_
  refine Y.pv F (X.binop rfl (F.ev 28 (Vi ((n : Int) + 1))) (F.ev 30 (Vi c)) (X.gtrI Try.underlying3 rfl)) fun ac F=>?_
  exact Y.fin F) ?_;clear F ac;intro ac F
 have h6 : decide ((c : Int) < ((n : Int) + 1)) = false := decide_eq_false (by omega)
 have h6p : ¬ ((c : Int) < ((n : Int) + 1)) := of_decide_eq_false h6
 try rw [h6] at F
 refine Y.cF F 31 ?_
 refine Y.skip ?_
 refine X.thenN ?_
 refine Y.sg F [(0, .slice (some ⟨b, 0, none⟩) (n + 1) c), (1, Vi i), (2, .slice (some ⟨vb, 0, none⟩) 1 1), (7, Vi 1), (8, Vi n)] (by
  refine Y.pv F (X.move rfl (F.ev 0 (.slice (some ⟨b, 0, none⟩) n c))) fun ac F=>?_
  refine Y.pv F (X.move rfl (F.ev 8 (Vi n))) fun ac F=>?_
  refine Y.pv F (X.move rfl (F.ev 7 (Vi 1))) fun ac F=>?_
  refine Y.pv F (X.binop rfl (F.ev 57 (Vi n)) (F.ev 58 (Vi 1)) (X.addI Try.underlying3 rfl (by omega) (by omega))) fun ac F=>?_
  refine Y.pv F (Y.slH (k := n + 1) rfl (F.ev 56 (.slice (some ⟨b, 0, none⟩) n c)) (F.ev 59 (Vi ((n : Int) + 1))) Try.underlying89 (Try.siz92 _) (by omega) (by omega)) fun ac F=>?_
  refine Y.pv F (X.assign rfl (F.ev 60 (.slice (some ⟨b, 0, none⟩) (n + 1) c))) fun ac F=>?_
  exact Y.fin F) ?_;clear F ac;intro ac F
 refine Y.seq ?_
 refine Y.sl ?_
 refine Y.pv4 F (X.move rfl (F.ev 2 (.slice (some ⟨vb, 0, none⟩) 1 1))) (fun _ F=>X.move rfl (F.ev 0 (.slice (some ⟨b, 0, none⟩) (n + 1) c))) (fun _ F=>X.move rfl (F.ev 1 (Vi i))) (fun _ F=>X.move rfl (F.ev 7 (Vi 1))) fun ac F=>Y.pv2 F (X.binop rfl (F.ev 63 (Vi i)) (F.ev 64 (Vi 1)) (X.addI Try.underlying3 rfl (by omega) (by omega))) (fun _ F=>Y.slL1 (i := i + 1) (q := (i + 1) * 2) (m := n - i) (r := c - (i + 1)) rfl (F.ev 62 (.slice (some ⟨b, 0, none⟩) (n + 1) c)) (F.ev 65 (Vi ((i : Int) + 1))) Try.underlying89 (Try.siz92 _) (by omega) (by omega) (by omega) (by omega) (by omega) (by omega) (by omega)) fun ac F=>Y.pval F (X.w0 rfl) rfl (Y.ext (v := .slice (some ⟨vb, 0, none⟩) 1 1) (u := .slice (some ⟨b, (i + 1) * 2, none⟩) (n - i) (c - (i + 1))) rfl (F.ev 61 (.slice (some ⟨vb, 0, none⟩) 1 1)) (F.ev 66 (.slice (some ⟨b, (i + 1) * 2, none⟩) (n - i) (c - (i + 1)))) rfl (ovl (fun args => run130 args _) Try.underlying89 Try.siz92 hV hL hvb2 (by rw [hLl]; omega))) fun ac F=>Y.pv F (X.notB rfl (F.ev 67 (.bool false)) rfl) ?_;clear F ac;intro ac F
 refine Y.nt F [(0, .slice (some ⟨b, 0, none⟩) (n + 1) c), (1, Vi i), (2, .slice (some ⟨vb, 0, none⟩) 1 1), (7, Vi 1), (8, Vi n), (68, .bool true)] ?_;clear F ac;intro ac F
 refine Y.cT F 68 ?_
 refine Y.seq ?_
 refine Y.regionS F [some (.slice (some ⟨b, 0, none⟩) (n + 1) c), some (Vi i), some (Vi 1), some (Vi ((i : Int) + 1)), some (.slice (some ⟨b, (i + 1) * 2, none⟩) (n - i) (c - (i + 1))), some (.slice (some ⟨b, 0, none⟩) (n + 1) c), some (Vi i), some (.slice (some ⟨b, i * 2, none⟩) (n + 1 - i) (c - i)), some (goInt (Nat.min (n + 1 - i) (n - i)))] [] 8 (fun _ W => HpR W b (L0.take ((i + 1) * 2) ++ (xs.drop (i * 2)) ++ L0.drop ((i + 1) * 2 + (xs.drop (i * 2)).length)) 92 ∧ Only (fun x => x = b) w W) rfl ⟨by kernel_rfl, of_decide_eq_true (by kernel_rfl), by kernel_rfl, by kernel_rfl, by kernel_rfl⟩ (of_decide_eq_true (by kernel_rfl)) ⟨?_, ?_, ?_, ?_, ?_, ?_, ?_, ?_, ?_, trivial⟩ ?_
 ·intro ac done u W Sx hT
  have hs := Sx.no 8 (by kernel_rfl)
  have hR := hT.1 hs
  exact X.vl (X.move rfl (Sx.ev 0 (.slice (some ⟨b, 0, none⟩) (n + 1) c))) (Y.RT.of hs rfl hR.st0)
 ·intro ac done u W Sx hT
  have hs := Sx.no 8 (by kernel_rfl)
  have hR := hT.1 hs
  exact X.vl (X.move rfl (Sx.ev 1 (Vi i))) (Y.RT.of hs rfl hR.st0)
 ·intro ac done u W Sx hT
  have hs := Sx.no 8 (by kernel_rfl)
  have hR := hT.1 hs
  exact X.vl (X.move rfl (Sx.ev 7 (Vi 1))) (Y.RT.of hs rfl hR.st0)
 ·intro ac done u W Sx hT
  have hs := Sx.no 8 (by kernel_rfl)
  have hR := hT.1 hs
  exact X.vl (X.binop rfl (Sx.ev 70 (Vi i)) (Sx.ev 71 (Vi 1)) (X.addI Try.underlying3 rfl (by omega) (by omega))) (Y.RT.of hs rfl hR.st0)
 ·intro ac done u W Sx hT
  have hs := Sx.no 8 (by kernel_rfl)
  have hR := hT.1 hs
  exact X.vl (Y.slL1 (i := i + 1) (q := (i + 1) * 2) (m := n - i) (r := c - (i + 1)) rfl (Sx.ev 69 (.slice (some ⟨b, 0, none⟩) (n + 1) c)) (Sx.ev 72 (Vi ((i : Int) + 1))) Try.underlying89 (Try.siz92 _) (by omega) (by omega) (by omega) (by omega) (by omega) (by omega) (by omega)) (Y.RT.of hs rfl hR.st0)
 ·intro ac done u W Sx hT
  have hs := Sx.no 8 (by kernel_rfl)
  have hR := hT.1 hs
  exact X.vl (X.move rfl (Sx.ev 0 (.slice (some ⟨b, 0, none⟩) (n + 1) c))) (Y.RT.of hs rfl hR.st0)
 ·intro ac done u W Sx hT
  have hs := Sx.no 8 (by kernel_rfl)
  have hR := hT.1 hs
  exact X.vl (X.move rfl (Sx.ev 1 (Vi i))) (Y.RT.of hs rfl hR.st0)
 ·intro ac done u W Sx hT
  have hs := Sx.no 8 (by kernel_rfl)
  have hR := hT.1 hs
  exact X.vl (Y.slL1 (i := i) (q := i * 2) (m := n + 1 - i) (r := c - i) rfl (Sx.ev 74 (.slice (some ⟨b, 0, none⟩) (n + 1) c)) (Sx.ev 75 (Vi i)) Try.underlying89 (Try.siz92 _) (by omega) (by omega) (by omega) (by omega) (by omega) (by omega) (by omega)) (Y.RT.of hs rfl hR.st0)
 ·intro ac done u W Sx hT
  have g : Gr w W := (hT.1 Sx.nd).1
  obtain ⟨W2, hrun, hH2, hon⟩ := HpR.copy (P := Try.prog) (dT := 89) (sT := 89) (ty := 3) (k := 2) (o := (i + 1) * 2) (dLen := n - i) (dCap := c - (i + 1)) (o2 := i * 2) (sLen := n + 1 - i) (sCap := c - i) (cs := (xs.drop (i * 2))) (hL.gr g) (hL.gr g) Try.underlying89 siz92i (by rw [List.length_drop, hxl, show Nat.min (n + 1 - i) (n - i) = n - i from Nat.min_eq_right (by omega)]; omega) (take_get hLx) (by simp only [List.length_append, List.length_take, List.length_drop, hNl, hxl, hLl]; omega) (drop_all hx1 _)
  exact X.vl (Y.cpy rfl (Sx.ev 73 (.slice (some ⟨b, (i + 1) * 2, none⟩) (n - i) (c - (i + 1)))) (Sx.ev 76 (.slice (some ⟨b, i * 2, none⟩) (n + 1 - i) (c - i))) hrun) (Y.RT.fin ⟨hH2, (g.only _).trans hon⟩)
 rintro ac u w7 hs hd hl_ ho ⟨hH2, hon⟩
 replace F : Fr ac 95 [(0, .slice (some ⟨b, 0, none⟩) (n + 1) c), (1, Vi i), (2, .slice (some ⟨vb, 0, none⟩) 1 1)] := X.fr hs hd hl_ _ (by kernel_rfl)
 clear hs hd hl_ ho
 replace hL := hH2
 replace hV := hV.only hon (by omega)
 clear hH2
 have hC9 := ((G.only (fun x => x = b)).step hon (.inl rfl))
 clear hon
 clear G
 have G := Gr.refl w7
 refine X.thenN ?_
 refine Y.sl ?_
 refine Y.pv4 F (X.move rfl (F.ev 0 (.slice (some ⟨b, 0, none⟩) (n + 1) c))) (fun _ F=>X.move rfl (F.ev 1 (Vi i))) (fun _ F=>Y.slL1 (i := i) (q := i * 2) (m := n + 1 - i) (r := c - i) rfl (F.ev 78 (.slice (some ⟨b, 0, none⟩) (n + 1) c)) (F.ev 79 (Vi i)) Try.underlying89 (Try.siz92 _) (by omega) (by omega) (by omega) (by omega) (by omega) (by omega) (by omega)) (fun _ F=>X.move rfl (F.ev 2 (.slice (some ⟨vb, 0, none⟩) 1 1))) ?_;clear F ac;intro ac F
 obtain ⟨w8, hrun, hH2, hon⟩ := HpR.copy (P := Try.prog) (dT := 89) (sT := 89) (ty := 3) (k := 2) (o := i * 2) (dLen := n + 1 - i) (dCap := c - i) (o2 := 0) (sLen := 1) (sCap := 1) (cs := N) hL hV Try.underlying89 siz92i (by rw [hNl, show Nat.min 1 (n + 1 - i) = 1 from Nat.min_eq_left (by omega)]) (self_get N) (by simp only [List.length_append, List.length_take, List.length_drop, hNl, hxl, hLl]; omega) hN1
 refine Y.pv F (Y.cpy rfl (F.ev 80 (.slice (some ⟨b, i * 2, none⟩) (n + 1 - i) (c - i))) (F.ev 81 (.slice (some ⟨vb, 0, none⟩) 1 1)) hrun) ?_
 clear F ac hrun
 intro ac F
 replace hL := hH2
 replace hV := hV.only hon (by omega)
 clear hH2
 replace hC9 := hC9.step hon (.inl rfl)
 clear hon
 clear G
 have G := Gr.refl w8
 refine Y.nt F [(0, .slice (some ⟨b, 0, none⟩) (n + 1) c)] ?_;clear F ac;intro ac F
 refine Y.sg F [(6, .slice (some ⟨b, 0, none⟩) (n + 1) c)] (Y.pv F (X.move rfl (F.ev 0 (.slice (some ⟨b, 0, none⟩) (n + 1) c))) fun ac F=>Y.pv F (X.assign rfl (F.ev 83 (.slice (some ⟨b, 0, none⟩) (n + 1) c))) fun ac F=>Y.fin F) ?_;clear F ac;intro ac F
 refine Y.ret ?_
 refine X.thenR ?_
 have e9 := ins_place (L0 := L0) (M := xs.drop (i * 2)) (R := L0.drop ((i + 1) * 2 + (xs.drop (i * 2)).length)) (N := N) (p := i * 2) (k := 2) hNl (by rw [hLl]; omega)
 rw [show i * 2 + 2 = (i + 1) * 2 by omega] at e9
 have e8 : L0.take (i * 2) = xs.take (i * 2) := by rw [← hLx, List.take_take, Nat.min_eq_left (by omega)]
 rw [e9, e8] at hL
 have hlen9 : (xs.take (i * 2) ++ N ++ xs.drop (i * 2) ++ L0.drop ((i + 1) * 2 + (xs.drop (i * 2)).length)).length = c * 2 := by simp only [List.length_append, List.length_take, List.length_drop, hNl, hxl, hLl]; omega
 exact Y.ret0 (v := .slice (some ⟨b, 0, none⟩) (n + 1) c) F (Y.r1 F) ⟨_, rfl, ins_own hL hBb rfl (by simp only [List.length_append, List.length_take, List.length_drop, hNl, hxl]; omega) hlen9 (by omega) hcm, hC9.mono (fun x _ e => by subst e; rfl), .inl rfl⟩
theorem ins116_any (B vb n i : Nat) (v : Value) (xs N : List Value) (w : World) (hO : OwnR w B 92 2 v n xs) (hx1 : (xs.all fun v => v.oneCell') = true) (hi : i ≤ n) (hn : n ≤ 100000) (hvb : v.ownBlock ≠ some vb) (hV0 : HpR w vb N 92) (hNl : N.length = 2) (hN1 : (N.all fun v => v.oneCell') = true) (hB : B ≤ w.heap.size) :
  Calls Try.prog 116 #[v, Vi i, .slice (some ⟨vb, 0, none⟩) 1 1] w fun e w' => ∃ v', e = .returned v' ∧ OwnR w' B 92 2 v' (n + 1) (xs.take (i * 2) ++ N ++ xs.drop (i * 2)) ∧ Only (fun x => v.ownBlock = some x) w w' ∧ (v'.ownBlock = v.ownBlock ∨ ∃ x, v'.ownBlock = some x ∧ w.heap.size ≤ x) := by
 have hxl := hO.len
 by_cases h : i = n
 ·subst h
  have e1 : xs.take (i * 2) ++ N ++ xs.drop (i * 2) = xs ++ N := by rw [← hxl, List.take_length, List.drop_length, List.append_nil]
  rw [e1]
  rcases hO.shape with ⟨rfl, rfl⟩ | ⟨g, c, rfl, h1, h2⟩
  ·exact ins116_end B vb none 0 0 xs N w hO hn (Nat.le_refl _) hV0 hNl hN1 hB
  ·have hnc : i ≤ c := by
    rcases Nat.eq_zero_or_pos i with h3 | h3
    ·omega
    ·obtain ⟨_, _, _, _, _, h4, _⟩ := hO.row h3; exact h4
   exact ins116_end B vb (some ⟨g, 0, none⟩) i c xs N w hO hn hnc hV0 hNl hN1 hB
 ·have h0 : i < n := by omega
  rcases hO.shape with ⟨_, h3⟩ | ⟨g, c, rfl, h1, h2⟩
  ·omega
  ·obtain ⟨g', L, e, hBb, hL, hnc, hcm, hLl, hLx⟩ := hO.row (by omega)
   injection e with e
   injection e with e
   subst e
   have hne : vb ≠ g := fun e => hvb (by rw [e]; rfl)
   by_cases hr : c < n + 1
   ·exact ins116_grow B g vb n c i L xs N w hL hBb hnc hcm hLl hLx hxl hx1 h0 hn hr hne hV0 hNl hN1 hB
   ·exact ins116_shift B g vb n c i L xs N w hL hBb hnc hcm hLl hLx hxl hx1 h0 hn (by omega) hne hV0 hNl hN1 hB
set_option maxRecDepth 100000 in
set_option maxHeartbeats 1000000 in
theorem ins117_end (B vb : Nat) (a : Option Addr) (n c : Nat) (xs N : List Value) (w : World) (hO : OwnR w B 34 1 (.slice a n c) n xs) (hn : n ≤ 100000) (hnc : n ≤ c) (hV0 : HpR w vb N 34) (hNl : N.length = 1) (hN1 : (N.all fun v => v.oneCell') = true) (hB : B ≤ w.heap.size) :
  Calls Try.prog 117 #[.slice a n c, Vi n, .slice (some ⟨vb, 0, none⟩) 1 1] w fun e w' => ∃ v', e = .returned v' ∧ OwnR w' B 34 1 v' (n + 1) (xs ++ N) ∧ Only (fun x => (Value.slice a n c).ownBlock = some x) w w' ∧ (v'.ownBlock = (Value.slice a n c).ownBlock ∨ ∃ x, v'.ownBlock = some x ∧ w.heap.size ≤ x) := by
 have G := Gr.refl w
 have hV := hV0
 refine Y.calls 95 Try.func117 rfl rfl ?_
 intro ac F0
 have F : Fr ac 95 [(0, .slice a n c), (1, Vi n), (2, .slice (some ⟨vb, 0, none⟩) 1 1)] := F0.sub _
 clear F0
 refine Y.sg F [(0, .slice a n c), (1, Vi n), (2, .slice (some ⟨vb, 0, none⟩) 1 1)] (Y.pv F (X.assign rfl (X.kc (.slice none 0 0) rfl)) fun ac F=>Y.fin F) ?_;clear F ac;intro ac F
 refine Y.sg F [(0, .slice a n c), (1, Vi n), (2, .slice (some ⟨vb, 0, none⟩) 1 1)] (by
  refine Y.pv F (X.move rfl (F.ev 0 (.slice a n c))) fun ac F=>?_
  refine Y.pv F (X.move rfl (F.ev 1 (Vi n))) fun ac F=>?_
  refine Y.pv F (Y.slL (i := n) rfl (F.ev 10 (.slice a n c)) (F.ev 11 (Vi n)) Try.underlying38 (Try.siz34 _) rfl (by omega) (by omega)) fun ac F=>?_
  exact Y.fin F) ?_;clear F ac;intro ac F
 refine Y.sg F [(0, .slice a n c), (1, Vi n), (2, .slice (some ⟨vb, 0, none⟩) 1 1), (7, Vi 1)] (Y.pv F (X.move rfl (F.ev 2 (.slice (some ⟨vb, 0, none⟩) 1 1))) fun ac F=>Y.pv F (X.len1 Try.underlying38 rfl (F.ev 13 (.slice (some ⟨vb, 0, none⟩) 1 1))) fun ac F=>Y.pv F (X.assign rfl (F.ev 14 (Vi 1))) fun ac F=>Y.fin F) ?_;clear F ac;intro ac F
 refine Y.seq ?_
 refine Y.sg F [(0, .slice a n c), (1, Vi n), (2, .slice (some ⟨vb, 0, none⟩) 1 1), (7, Vi 1), (16, .bool false)] (Y.pv F (X.move rfl (F.ev 7 (Vi 1))) fun ac F=>Y.pval F (X.w0 rfl) rfl (X.binop rfl (F.ev 15 (Vi 1)) (X.kc (Vi 0) rfl) (X.eqlI Try.underlying3 (show ((1 : Int) == 0) = false by simp))) fun ac F=>Y.fin F) ?_;clear F ac;intro ac F
 refine Y.cF F 16 ?_
 refine Y.skip ?_
 refine X.thenN ?_
 refine Y.sg F [(0, .slice a n c), (1, Vi n), (2, .slice (some ⟨vb, 0, none⟩) 1 1), (7, Vi 1), (8, Vi n)] (Y.pv F (X.move rfl (F.ev 0 (.slice a n c))) fun ac F=>Y.pv F (X.len1 Try.underlying38 rfl (F.ev 18 (.slice a n c))) fun ac F=>Y.pv F (X.assign rfl (F.ev 19 (Vi n))) fun ac F=>Y.fin F) ?_;clear F ac;intro ac F
 refine Y.seq ?_
 refine Y.sg F [(0, .slice a n c), (1, Vi n), (2, .slice (some ⟨vb, 0, none⟩) 1 1), (7, Vi 1), (8, Vi n), (22, .bool true)] (Y.pv F (X.move rfl (F.ev 1 (Vi n))) fun ac F=>Y.pv F (X.move rfl (F.ev 8 (Vi n))) fun ac F=>Y.pval F (X.w0 rfl) rfl (X.binop rfl (F.ev 20 (Vi n)) (F.ev 21 (Vi n)) (X.eqlI Try.underlying3 (show ((n : Int) == n) = true by simp))) fun ac F=>Y.fin F) ?_;clear F ac;intro ac F
 refine Y.cT F 22 ?_
 refine Y.sl ?_
 refine Y.pv2 F (X.move rfl (F.ev 0 (.slice a n c))) (fun _ F=>X.move rfl (F.ev 2 (.slice (some ⟨vb, 0, none⟩) 1 1))) ?_;clear F ac;intro ac F
 have hvc := HpR.gr hV G
 have hO2 := OwnR.gr hO G
 have hBW := Nat.le_trans hB G.size
 refine Y.wpL_plain rfl fun _ hK => wp_pushV Try.underlying38 Try.info34 rfl (by decide) rfl (F.ev 23 (.slice a n c)) (F.ev 24 (.slice (some ⟨vb, 0, none⟩) 1 1)) hO2 (m := 1) (news := N) (by omega) (heap_cells hvc (self_get N)) hN1 (by omega) (by decide) hBW (fun v2 w3 hO3 hon hat => hK _ _ ?_)
 refine Y.pput F rfl fun ac F=>Y.pv F (X.assign rfl (F.ev 25 (v2))) ?_;clear F ac;intro ac F
 refine Y.nt F [(6, v2)] ?_;clear F ac;intro ac F
 refine Y.ret ?_
 refine X.thenR ?_
 exact Y.ret0 (v := v2) F (Y.r1 F) ⟨_, rfl, hO3, (G.only _).trans hon, hat.imp (fun z => z) (fun e => ⟨_, e, G.size⟩)⟩
set_option maxRecDepth 100000 in
set_option maxHeartbeats 1000000 in
theorem ins117_grow (B b vb n c i : Nat) (L0 xs N : List Value) (w : World) (hL0 : HpR w b L0 34) (hBb : B ≤ b) (hnc : n ≤ c) (hcm : c ≤ maxLen) (hLl : L0.length = c * 1) (hLx : L0.take (n * 1) = xs) (hxl : xs.length = n * 1) (hx1 : (xs.all fun v => v.oneCell') = true) (hi : i < n) (hn : n ≤ 100000) (hroom : c < n + 1) (hvb : vb ≠ b) (hV0 : HpR w vb N 34) (hNl : N.length = 1) (hN1 : (N.all fun v => v.oneCell') = true) (hB : B ≤ w.heap.size) :
  Calls Try.prog 117 #[.slice (some ⟨b, 0, none⟩) n c, Vi i, .slice (some ⟨vb, 0, none⟩) 1 1] w fun e w' => ∃ v', e = .returned v' ∧ OwnR w' B 34 1 v' (n + 1) (xs.take (i * 1) ++ N ++ xs.drop (i * 1)) ∧ Only (fun x => (Value.slice (some ⟨b, 0, none⟩) n c).ownBlock = some x) w w' ∧ (v'.ownBlock = (Value.slice (some ⟨b, 0, none⟩) n c).ownBlock ∨ ∃ x, v'.ownBlock = some x ∧ w.heap.size ≤ x) := by
 have G := Gr.refl w
 have hL := hL0
 have hV := hV0
 have hbl9 := hL0.lt
 have hvl9 := hV0.lt
 have hvb2 := hvb
 refine Y.calls 95 Try.func117 rfl rfl ?_
 intro ac F0
 have F : Fr ac 95 [(0, .slice (some ⟨b, 0, none⟩) n c), (1, Vi i), (2, .slice (some ⟨vb, 0, none⟩) 1 1)] := F0.sub _
 clear F0
 refine Y.sg F [(0, .slice (some ⟨b, 0, none⟩) n c), (1, Vi i), (2, .slice (some ⟨vb, 0, none⟩) 1 1)] (Y.pv F (X.assign rfl (X.kc (.slice none 0 0) rfl)) fun ac F=>Y.fin F) ?_;clear F ac;intro ac F
 refine Y.sg F [(0, .slice (some ⟨b, 0, none⟩) n c), (1, Vi i), (2, .slice (some ⟨vb, 0, none⟩) 1 1)] (by
  refine Y.pv F (X.move rfl (F.ev 0 (.slice (some ⟨b, 0, none⟩) n c))) fun ac F=>?_
  refine Y.pv F (X.move rfl (F.ev 1 (Vi i))) fun ac F=>?_
  refine Y.pv F (Y.slL1 (i := i) (q := i * 1) (m := n - i) (r := c - i) rfl (F.ev 10 (.slice (some ⟨b, 0, none⟩) n c)) (F.ev 11 (Vi i)) Try.underlying38 (Try.siz34 _) (by omega) (by omega) (by omega) (by omega) (by omega) (by omega) (by omega)) fun ac F=>?_
  exact Y.fin F) ?_;clear F ac;intro ac F
 refine Y.sg F [(0, .slice (some ⟨b, 0, none⟩) n c), (1, Vi i), (2, .slice (some ⟨vb, 0, none⟩) 1 1), (7, Vi 1)] (Y.pv F (X.move rfl (F.ev 2 (.slice (some ⟨vb, 0, none⟩) 1 1))) fun ac F=>Y.pv F (X.len1 Try.underlying38 rfl (F.ev 13 (.slice (some ⟨vb, 0, none⟩) 1 1))) fun ac F=>Y.pv F (X.assign rfl (F.ev 14 (Vi 1))) fun ac F=>Y.fin F) ?_;clear F ac;intro ac F
 refine Y.seq ?_
 refine Y.sg F [(0, .slice (some ⟨b, 0, none⟩) n c), (1, Vi i), (2, .slice (some ⟨vb, 0, none⟩) 1 1), (7, Vi 1), (16, .bool false)] (Y.pv F (X.move rfl (F.ev 7 (Vi 1))) fun ac F=>Y.pval F (X.w0 rfl) rfl (X.binop rfl (F.ev 15 (Vi 1)) (X.kc (Vi 0) rfl) (X.eqlI Try.underlying3 (show ((1 : Int) == 0) = false by simp))) fun ac F=>Y.fin F) ?_;clear F ac;intro ac F
 refine Y.cF F 16 ?_
 refine Y.skip ?_
 refine X.thenN ?_
 refine Y.sg F [(0, .slice (some ⟨b, 0, none⟩) n c), (1, Vi i), (2, .slice (some ⟨vb, 0, none⟩) 1 1), (7, Vi 1), (8, Vi n)] (Y.pv F (X.move rfl (F.ev 0 (.slice (some ⟨b, 0, none⟩) n c))) fun ac F=>Y.pv F (X.len1 Try.underlying38 rfl (F.ev 18 (.slice (some ⟨b, 0, none⟩) n c))) fun ac F=>Y.pv F (X.assign rfl (F.ev 19 (Vi n))) fun ac F=>Y.fin F) ?_;clear F ac;intro ac F
 refine Y.seq ?_
 refine Y.sg F [(0, .slice (some ⟨b, 0, none⟩) n c), (1, Vi i), (2, .slice (some ⟨vb, 0, none⟩) 1 1), (7, Vi 1), (8, Vi n), (22, .bool ((i : Int) == n))] (Y.pv F (X.move rfl (F.ev 1 (Vi i))) fun ac F=>Y.pv F (X.move rfl (F.ev 8 (Vi n))) fun ac F=>Y.pv F (X.binop rfl (F.ev 20 (Vi i)) (F.ev 21 (Vi n)) (X.eqlI Try.underlying3 rfl)) fun ac F=>Y.fin F) ?_;clear F ac;intro ac F
 have h4 : ((i : Int) == n) = false := beq_eq_false_iff_ne.2 (by omega)
 try rw [h4] at F
 refine Y.cF F 22 ?_
 refine Y.skip ?_
 refine X.thenN ?_
 refine Y.seq ?_
 refine Y.sg F [(0, .slice (some ⟨b, 0, none⟩) n c), (1, Vi i), (2, .slice (some ⟨vb, 0, none⟩) 1 1), (7, Vi 1), (8, Vi n), (31, .bool (decide ((c : Int) < ((n : Int) + 1))))] (by
  refine Y.pv F (X.move rfl (F.ev 8 (Vi n))) fun ac F=>?_
  refine Y.pv F (X.move rfl (F.ev 7 (Vi 1))) fun ac F=>?_
  refine Y.pv F (X.binop rfl (F.ev 26 (Vi n)) (F.ev 27 (Vi 1)) (X.addI Try.underlying3 rfl (by omega) (by omega))) fun ac F=>?_
  refine Y.pv F (X.move rfl (F.ev 0 (.slice (some ⟨b, 0, none⟩) n c))) fun ac F=>?_
  refine Y.pv F (Y.cap Try.underlying38 rfl (F.ev 29 (.slice (some ⟨b, 0, none⟩) n c))) fun ac F=>?_
  refine Y.pv F (X.binop rfl (F.ev 28 (Vi ((n : Int) + 1))) (F.ev 30 (Vi c)) (X.gtrI Try.underlying3 rfl)) fun ac F=>?_
  exact Y.fin F) ?_;clear F ac;intro ac F
 have h6 : decide ((c : Int) < ((n : Int) + 1)) = true := decide_eq_true (by omega)
 have h6p : ((c : Int) < ((n : Int) + 1)) := of_decide_eq_true h6
 try rw [h6] at F
 refine Y.cT F 31 ?_
 refine Y.sl ?_
 refine Y.pv4 F (X.move rfl (F.ev 0 (.slice (some ⟨b, 0, none⟩) n c))) (fun _ F=>X.move rfl (F.ev 1 (Vi i))) (fun _ F=>Y.slH (k := i) rfl (F.ev 32 (.slice (some ⟨b, 0, none⟩) n c)) (F.ev 33 (Vi i)) Try.underlying38 (Try.siz34 _) (by omega) (by omega)) (fun _ F=>X.move rfl (F.ev 8 (Vi n))) fun ac F=>Y.pv4 F (X.move rfl (F.ev 7 (Vi 1))) (fun _ F=>X.binop rfl (F.ev 35 (Vi n)) (F.ev 36 (Vi 1)) (X.addI Try.underlying3 rfl (by omega) (by omega))) (fun _ F=>X.move rfl (F.ev 1 (Vi i))) (fun _ F=>X.binop rfl (F.ev 37 (Vi ((n : Int) + 1))) (F.ev 38 (Vi i)) (X.subI Try.underlying3 rfl (by omega) (by omega))) ?_;clear F ac;intro ac F
 obtain ⟨w7, cg, Z, hrun, hN, hZl, hnG, hGm, gn⟩ := HpR.grow (P := Try.prog) (t := 38) (tn := 3) (ty := 38) (xs := xs.take (i * 1)) (n := n) (i := i) (c := c) (HpR.gr hL G) Try.underlying38 Try.underlying3 Try.info34 rfl (by decide) (by rw [List.length_take, hxl]; exact Nat.min_eq_left (by omega)) (take_get0 hLx) (by omega) (by omega) (by omega) (by decide)
 have hgs := G.size
 have hbl := hL.lt
 have hvl := hV.lt
 refine Y.pv F (Y.apz rfl (F.ev 34 (.slice (some ⟨b, 0, none⟩) i c)) (F.ev 39 (Vi (((n : Int) + 1 : Int) - i))) hrun) ?_
 clear F ac hrun
 intro ac F
 have g0 := G
 replace G := G.trans gn
 replace hL := hL.gr G
 replace hV := hV.gr G
 clear gn
 refine Y.pv F (X.assign rfl (F.ev 40 (.slice (some ⟨w.heap.size, 0, none⟩) (n + 1) cg))) ?_;clear F ac;intro ac F
 refine Y.nt F [(0, .slice (some ⟨b, 0, none⟩) n c), (1, Vi i), (2, .slice (some ⟨vb, 0, none⟩) 1 1), (7, Vi 1), (9, .slice (some ⟨w.heap.size, 0, none⟩) (n + 1) cg)] ?_;clear F ac;intro ac F
 refine Y.sl ?_
 refine Y.pv4 F (X.move rfl (F.ev 9 (.slice (some ⟨w.heap.size, 0, none⟩) (n + 1) cg))) (fun _ F=>X.move rfl (F.ev 1 (Vi i))) (fun _ F=>Y.slL1 (i := i) (q := i * 1) (m := n + 1 - i) (r := cg - i) rfl (F.ev 41 (.slice (some ⟨w.heap.size, 0, none⟩) (n + 1) cg)) (F.ev 42 (Vi i)) Try.underlying38 (Try.siz34 _) (by omega) (by omega) (by omega) (by omega) (by omega) (by omega) (by omega)) (fun _ F=>X.move rfl (F.ev 2 (.slice (some ⟨vb, 0, none⟩) 1 1))) ?_;clear F ac;intro ac F
 obtain ⟨w8, hrun, hH2, hon⟩ := HpR.copy (P := Try.prog) (dT := 38) (sT := 38) (ty := 3) (k := 1) (o := i * 1) (dLen := n + 1 - i) (dCap := cg - i) (o2 := 0) (sLen := 1) (sCap := 1) (cs := N) hN hV Try.underlying38 siz34i (by rw [hNl, show Nat.min 1 (n + 1 - i) = 1 from Nat.min_eq_left (by omega)]) (self_get N) (by have h8 := hZl; simp only [List.length_append, List.length_take, List.length_drop, hNl, hxl, hLl] at h8 ⊢; omega) hN1
 refine Y.pv F (Y.cpy rfl (F.ev 43 (.slice (some ⟨w.heap.size, i * 1, none⟩) (n + 1 - i) (cg - i))) (F.ev 44 (.slice (some ⟨vb, 0, none⟩) 1 1)) hrun) ?_
 clear F ac hrun
 intro ac F
 replace hL := hL.only hon (by omega)
 replace hV := hV.only hon (by omega)
 replace hN := hH2
 clear hH2
 have hC9 := ((G.only (fun x => x = b)).step hon (.inr (by omega)))
 clear hon
 clear G
 have G := Gr.refl w8
 refine Y.nt F [(0, .slice (some ⟨b, 0, none⟩) n c), (1, Vi i), (7, Vi 1), (9, .slice (some ⟨w.heap.size, 0, none⟩) (n + 1) cg)] ?_;clear F ac;intro ac F
 refine Y.seq ?_
 refine Y.regionS F [some (.slice (some ⟨w.heap.size, 0, none⟩) (n + 1) cg), some (Vi i), some (Vi 1), some (Vi ((i : Int) + 1)), some (.slice (some ⟨w.heap.size, (i + 1) * 1, none⟩) (n - i) (cg - (i + 1))), some (.slice (some ⟨b, 0, none⟩) n c), some (Vi i), some (.slice (some ⟨b, i * 1, none⟩) (n - i) (c - i)), some (goInt (Nat.min (n - i) (n - i)))] [] 8 (fun _ W => HpR W w.heap.size (((xs.take (i * 1) ++ Z).take (i * 1) ++ N ++ (xs.take (i * 1) ++ Z).drop (i * 1 + N.length)).take ((i + 1) * 1) ++ (xs.drop (i * 1)) ++ ((xs.take (i * 1) ++ Z).take (i * 1) ++ N ++ (xs.take (i * 1) ++ Z).drop (i * 1 + N.length)).drop ((i + 1) * 1 + (xs.drop (i * 1)).length)) 34 ∧ Only (fun x => x = w.heap.size) w8 W) rfl ⟨by kernel_rfl, of_decide_eq_true (by kernel_rfl), by kernel_rfl, by kernel_rfl, by kernel_rfl⟩ (of_decide_eq_true (by kernel_rfl)) ⟨?_, ?_, ?_, ?_, ?_, ?_, ?_, ?_, ?_, trivial⟩ ?_
 ·intro ac done u W Sx hT
  have hs := Sx.no 8 (by kernel_rfl)
  have hR := hT.1 hs
  exact X.vl (X.move rfl (Sx.ev 9 (.slice (some ⟨w.heap.size, 0, none⟩) (n + 1) cg))) (Y.RT.of hs rfl hR.st0)
 ·intro ac done u W Sx hT
  have hs := Sx.no 8 (by kernel_rfl)
  have hR := hT.1 hs
  exact X.vl (X.move rfl (Sx.ev 1 (Vi i))) (Y.RT.of hs rfl hR.st0)
 ·intro ac done u W Sx hT
  have hs := Sx.no 8 (by kernel_rfl)
  have hR := hT.1 hs
  exact X.vl (X.move rfl (Sx.ev 7 (Vi 1))) (Y.RT.of hs rfl hR.st0)
 ·intro ac done u W Sx hT
  have hs := Sx.no 8 (by kernel_rfl)
  have hR := hT.1 hs
  exact X.vl (X.binop rfl (Sx.ev 47 (Vi i)) (Sx.ev 48 (Vi 1)) (X.addI Try.underlying3 rfl (by omega) (by omega))) (Y.RT.of hs rfl hR.st0)
 ·intro ac done u W Sx hT
  have hs := Sx.no 8 (by kernel_rfl)
  have hR := hT.1 hs
  exact X.vl (Y.slL1 (i := i + 1) (q := (i + 1) * 1) (m := n - i) (r := cg - (i + 1)) rfl (Sx.ev 46 (.slice (some ⟨w.heap.size, 0, none⟩) (n + 1) cg)) (Sx.ev 49 (Vi ((i : Int) + 1))) Try.underlying38 (Try.siz34 _) (by omega) (by omega) (by omega) (by omega) (by omega) (by omega) (by omega)) (Y.RT.of hs rfl hR.st0)
 ·intro ac done u W Sx hT
  have hs := Sx.no 8 (by kernel_rfl)
  have hR := hT.1 hs
  exact X.vl (X.move rfl (Sx.ev 0 (.slice (some ⟨b, 0, none⟩) n c))) (Y.RT.of hs rfl hR.st0)
 ·intro ac done u W Sx hT
  have hs := Sx.no 8 (by kernel_rfl)
  have hR := hT.1 hs
  exact X.vl (X.move rfl (Sx.ev 1 (Vi i))) (Y.RT.of hs rfl hR.st0)
 ·intro ac done u W Sx hT
  have hs := Sx.no 8 (by kernel_rfl)
  have hR := hT.1 hs
  exact X.vl (Y.slL1 (i := i) (q := i * 1) (m := n - i) (r := c - i) rfl (Sx.ev 51 (.slice (some ⟨b, 0, none⟩) n c)) (Sx.ev 52 (Vi i)) Try.underlying38 (Try.siz34 _) (by omega) (by omega) (by omega) (by omega) (by omega) (by omega) (by omega)) (Y.RT.of hs rfl hR.st0)
 ·intro ac done u W Sx hT
  have g : Gr w8 W := (hT.1 Sx.nd).1
  obtain ⟨W2, hrun, hH2, hon⟩ := HpR.copy (P := Try.prog) (dT := 38) (sT := 38) (ty := 3) (k := 1) (o := (i + 1) * 1) (dLen := n - i) (dCap := cg - (i + 1)) (o2 := i * 1) (sLen := n - i) (sCap := c - i) (cs := (xs.drop (i * 1))) (hN.gr g) (hL.gr g) Try.underlying38 siz34i (by rw [List.length_drop, hxl, show Nat.min (n - i) (n - i) = n - i from Nat.min_self _]; omega) (take_get hLx) (by have h8 := hZl; simp only [List.length_append, List.length_take, List.length_drop, hNl, hxl, hLl] at h8 ⊢; omega) (drop_all hx1 _)
  exact X.vl (Y.cpy rfl (Sx.ev 50 (.slice (some ⟨w.heap.size, (i + 1) * 1, none⟩) (n - i) (cg - (i + 1)))) (Sx.ev 53 (.slice (some ⟨b, i * 1, none⟩) (n - i) (c - i))) hrun) (Y.RT.fin ⟨hH2, (g.only _).trans hon⟩)
 rintro ac u w9 hs hd hl_ ho ⟨hH2, hon⟩
 replace F : Fr ac 95 [(9, .slice (some ⟨w.heap.size, 0, none⟩) (n + 1) cg)] := X.fr hs hd hl_ _ (by kernel_rfl)
 clear hs hd hl_ ho
 replace hL := hL.only hon (by omega)
 replace hV := hV.only hon (by omega)
 replace hN := hH2
 clear hH2
 replace hC9 := hC9.step hon (.inr (by omega))
 clear hon
 clear G
 have G := Gr.refl w9
 refine X.thenN ?_
 refine Y.sg F [(6, .slice (some ⟨w.heap.size, 0, none⟩) (n + 1) cg)] (Y.pv F (X.move rfl (F.ev 9 (.slice (some ⟨w.heap.size, 0, none⟩) (n + 1) cg))) fun ac F=>Y.pv F (X.assign rfl (F.ev 55 (.slice (some ⟨w.heap.size, 0, none⟩) (n + 1) cg))) fun ac F=>Y.fin F) ?_;clear F ac;intro ac F
 refine Y.ret ?_
 refine X.thenR ?_
 have e9 := ins_new (A := xs.take (i * 1)) (Z := Z) (M := xs.drop (i * 1)) (N := N) (p := i * 1) (k := 1) (m := (n - i) * 1) (by rw [List.length_take, hxl]; exact Nat.min_eq_left (by omega)) hNl (by rw [List.length_drop, hxl]; omega) (by have h8 := hZl; rw [List.length_append, List.length_take, hxl] at h8; omega)
 rw [show i * 1 + 1 = (i + 1) * 1 by omega] at e9
 rw [e9] at hN
 have hlen9 : (xs.take (i * 1) ++ N ++ xs.drop (i * 1) ++ Z.drop (1 + (n - i) * 1)).length = cg * 1 := by have h8 := hZl; simp only [List.length_append, List.length_take, List.length_drop, hNl, hxl] at h8 ⊢; omega
 exact Y.ret0 (v := .slice (some ⟨w.heap.size, 0, none⟩) (n + 1) cg) F (Y.r1 F) ⟨_, rfl, ins_own hN (by omega) rfl (by simp only [List.length_append, List.length_take, List.length_drop, hNl, hxl]; omega) hlen9 hnG hGm, hC9.mono (fun x _ e => by subst e; rfl), .inr ⟨_, rfl, hgs⟩⟩
set_option maxRecDepth 100000 in
set_option maxHeartbeats 1000000 in
theorem ins117_shift (B b vb n c i : Nat) (L0 xs N : List Value) (w : World) (hL0 : HpR w b L0 34) (hBb : B ≤ b) (hnc : n ≤ c) (hcm : c ≤ maxLen) (hLl : L0.length = c * 1) (hLx : L0.take (n * 1) = xs) (hxl : xs.length = n * 1) (hx1 : (xs.all fun v => v.oneCell') = true) (hi : i < n) (hn : n ≤ 100000) (hroom : n + 1 ≤ c) (hvb : vb ≠ b) (hV0 : HpR w vb N 34) (hNl : N.length = 1) (hN1 : (N.all fun v => v.oneCell') = true) (hB : B ≤ w.heap.size) :
  Calls Try.prog 117 #[.slice (some ⟨b, 0, none⟩) n c, Vi i, .slice (some ⟨vb, 0, none⟩) 1 1] w fun e w' => ∃ v', e = .returned v' ∧ OwnR w' B 34 1 v' (n + 1) (xs.take (i * 1) ++ N ++ xs.drop (i * 1)) ∧ Only (fun x => (Value.slice (some ⟨b, 0, none⟩) n c).ownBlock = some x) w w' ∧ (v'.ownBlock = (Value.slice (some ⟨b, 0, none⟩) n c).ownBlock ∨ ∃ x, v'.ownBlock = some x ∧ w.heap.size ≤ x) := by
 have G := Gr.refl w
 have hL := hL0
 have hV := hV0
 have hbl9 := hL0.lt
 have hvl9 := hV0.lt
 have hvb2 := hvb
 refine Y.calls 95 Try.func117 rfl rfl ?_
 intro ac F0
 have F : Fr ac 95 [(0, .slice (some ⟨b, 0, none⟩) n c), (1, Vi i), (2, .slice (some ⟨vb, 0, none⟩) 1 1)] := F0.sub _
 clear F0
 refine Y.sg F [(0, .slice (some ⟨b, 0, none⟩) n c), (1, Vi i), (2, .slice (some ⟨vb, 0, none⟩) 1 1)] (Y.pv F (X.assign rfl (X.kc (.slice none 0 0) rfl)) fun ac F=>Y.fin F) ?_;clear F ac;intro ac F
 refine Y.sg F [(0, .slice (some ⟨b, 0, none⟩) n c), (1, Vi i), (2, .slice (some ⟨vb, 0, none⟩) 1 1)] (by
  refine Y.pv F (X.move rfl (F.ev 0 (.slice (some ⟨b, 0, none⟩) n c))) fun ac F=>?_
  refine Y.pv F (X.move rfl (F.ev 1 (Vi i))) fun ac F=>?_
  refine Y.pv F (Y.slL1 (i := i) (q := i * 1) (m := n - i) (r := c - i) rfl (F.ev 10 (.slice (some ⟨b, 0, none⟩) n c)) (F.ev 11 (Vi i)) Try.underlying38 (Try.siz34 _) (by omega) (by omega) (by omega) (by omega) (by omega) (by omega) (by omega)) fun ac F=>?_
  exact Y.fin F) ?_;clear F ac;intro ac F
 refine Y.sg F [(0, .slice (some ⟨b, 0, none⟩) n c), (1, Vi i), (2, .slice (some ⟨vb, 0, none⟩) 1 1), (7, Vi 1)] (Y.pv F (X.move rfl (F.ev 2 (.slice (some ⟨vb, 0, none⟩) 1 1))) fun ac F=>Y.pv F (X.len1 Try.underlying38 rfl (F.ev 13 (.slice (some ⟨vb, 0, none⟩) 1 1))) fun ac F=>Y.pv F (X.assign rfl (F.ev 14 (Vi 1))) fun ac F=>Y.fin F) ?_;clear F ac;intro ac F
 refine Y.seq ?_
 refine Y.sg F [(0, .slice (some ⟨b, 0, none⟩) n c), (1, Vi i), (2, .slice (some ⟨vb, 0, none⟩) 1 1), (7, Vi 1), (16, .bool false)] (Y.pv F (X.move rfl (F.ev 7 (Vi 1))) fun ac F=>Y.pval F (X.w0 rfl) rfl (X.binop rfl (F.ev 15 (Vi 1)) (X.kc (Vi 0) rfl) (X.eqlI Try.underlying3 (show ((1 : Int) == 0) = false by simp))) fun ac F=>Y.fin F) ?_;clear F ac;intro ac F
 refine Y.cF F 16 ?_
 refine Y.skip ?_
 refine X.thenN ?_
 refine Y.sg F [(0, .slice (some ⟨b, 0, none⟩) n c), (1, Vi i), (2, .slice (some ⟨vb, 0, none⟩) 1 1), (7, Vi 1), (8, Vi n)] (Y.pv F (X.move rfl (F.ev 0 (.slice (some ⟨b, 0, none⟩) n c))) fun ac F=>Y.pv F (X.len1 Try.underlying38 rfl (F.ev 18 (.slice (some ⟨b, 0, none⟩) n c))) fun ac F=>Y.pv F (X.assign rfl (F.ev 19 (Vi n))) fun ac F=>Y.fin F) ?_;clear F ac;intro ac F
 refine Y.seq ?_
 refine Y.sg F [(0, .slice (some ⟨b, 0, none⟩) n c), (1, Vi i), (2, .slice (some ⟨vb, 0, none⟩) 1 1), (7, Vi 1), (8, Vi n), (22, .bool ((i : Int) == n))] (Y.pv F (X.move rfl (F.ev 1 (Vi i))) fun ac F=>Y.pv F (X.move rfl (F.ev 8 (Vi n))) fun ac F=>Y.pv F (X.binop rfl (F.ev 20 (Vi i)) (F.ev 21 (Vi n)) (X.eqlI Try.underlying3 rfl)) fun ac F=>Y.fin F) ?_;clear F ac;intro ac F
 have h4 : ((i : Int) == n) = false := beq_eq_false_iff_ne.2 (by omega)
 try rw [h4] at F
 refine Y.cF F 22 ?_
 refine Y.skip ?_
 refine X.thenN ?_
 refine Y.seq ?_
 refine Y.sg F [(0, .slice (some ⟨b, 0, none⟩) n c), (1, Vi i), (2, .slice (some ⟨vb, 0, none⟩) 1 1), (7, Vi 1), (8, Vi n), (31, .bool (decide ((c : Int) < ((n : Int) + 1))))] (by
  refine Y.pv F (X.move rfl (F.ev 8 (Vi n))) fun ac F=>?_
  refine Y.pv F (X.move rfl (F.ev 7 (Vi 1))) fun ac F=>?_
  refine Y.pv F (X.binop rfl (F.ev 26 (Vi n)) (F.ev 27 (Vi 1)) (X.addI Try.underlying3 rfl (by omega) (by omega))) fun ac F=>?_
  refine Y.pv F (X.move rfl (F.ev 0 (.slice (some ⟨b, 0, none⟩) n c))) fun ac F=>?_
  refine Y.pv F (Y.cap Try.underlying38 rfl (F.ev 29 (.slice (some ⟨b, 0, none⟩) n c))) fun ac F=>?_
  refine Y.pv F (X.binop rfl (F.ev 28 (Vi ((n : Int) + 1))) (F.ev 30 (Vi c)) (X.gtrI Try.underlying3 rfl)) fun ac F=>?_
  exact Y.fin F) ?_;clear F ac;intro ac F
 have h6 : decide ((c : Int) < ((n : Int) + 1)) = false := decide_eq_false (by omega)
 have h6p : ¬ ((c : Int) < ((n : Int) + 1)) := of_decide_eq_false h6
 try rw [h6] at F
 refine Y.cF F 31 ?_
 refine Y.skip ?_
 refine X.thenN ?_
 refine Y.sg F [(0, .slice (some ⟨b, 0, none⟩) (n + 1) c), (1, Vi i), (2, .slice (some ⟨vb, 0, none⟩) 1 1), (7, Vi 1), (8, Vi n)] (by
  refine Y.pv F (X.move rfl (F.ev 0 (.slice (some ⟨b, 0, none⟩) n c))) fun ac F=>?_
  refine Y.pv F (X.move rfl (F.ev 8 (Vi n))) fun ac F=>?_
  refine Y.pv F (X.move rfl (F.ev 7 (Vi 1))) fun ac F=>?_
  refine Y.pv F (X.binop rfl (F.ev 57 (Vi n)) (F.ev 58 (Vi 1)) (X.addI Try.underlying3 rfl (by omega) (by omega))) fun ac F=>?_
  refine Y.pv F (Y.slH (k := n + 1) rfl (F.ev 56 (.slice (some ⟨b, 0, none⟩) n c)) (F.ev 59 (Vi ((n : Int) + 1))) Try.underlying38 (Try.siz34 _) (by omega) (by omega)) fun ac F=>?_
  refine Y.pv F (X.assign rfl (F.ev 60 (.slice (some ⟨b, 0, none⟩) (n + 1) c))) fun ac F=>?_
  exact Y.fin F) ?_;clear F ac;intro ac F
 refine Y.seq ?_
 refine Y.sl ?_
 refine Y.pv4 F (X.move rfl (F.ev 2 (.slice (some ⟨vb, 0, none⟩) 1 1))) (fun _ F=>X.move rfl (F.ev 0 (.slice (some ⟨b, 0, none⟩) (n + 1) c))) (fun _ F=>X.move rfl (F.ev 1 (Vi i))) (fun _ F=>X.move rfl (F.ev 7 (Vi 1))) fun ac F=>Y.pv2 F (X.binop rfl (F.ev 63 (Vi i)) (F.ev 64 (Vi 1)) (X.addI Try.underlying3 rfl (by omega) (by omega))) (fun _ F=>Y.slL1 (i := i + 1) (q := (i + 1) * 1) (m := n - i) (r := c - (i + 1)) rfl (F.ev 62 (.slice (some ⟨b, 0, none⟩) (n + 1) c)) (F.ev 65 (Vi ((i : Int) + 1))) Try.underlying38 (Try.siz34 _) (by omega) (by omega) (by omega) (by omega) (by omega) (by omega) (by omega)) fun ac F=>Y.pval F (X.w0 rfl) rfl (Y.ext (v := .slice (some ⟨vb, 0, none⟩) 1 1) (u := .slice (some ⟨b, (i + 1) * 1, none⟩) (n - i) (c - (i + 1))) rfl (F.ev 61 (.slice (some ⟨vb, 0, none⟩) 1 1)) (F.ev 66 (.slice (some ⟨b, (i + 1) * 1, none⟩) (n - i) (c - (i + 1)))) rfl (ovl (fun args => run132 args _) Try.underlying38 Try.siz34 hV hL hvb2 (by rw [hLl]; omega))) fun ac F=>Y.pv F (X.notB rfl (F.ev 67 (.bool false)) rfl) ?_;clear F ac;intro ac F
 refine Y.nt F [(0, .slice (some ⟨b, 0, none⟩) (n + 1) c), (1, Vi i), (2, .slice (some ⟨vb, 0, none⟩) 1 1), (7, Vi 1), (8, Vi n), (68, .bool true)] ?_;clear F ac;intro ac F
 refine Y.cT F 68 ?_
 refine Y.seq ?_
 refine Y.regionS F [some (.slice (some ⟨b, 0, none⟩) (n + 1) c), some (Vi i), some (Vi 1), some (Vi ((i : Int) + 1)), some (.slice (some ⟨b, (i + 1) * 1, none⟩) (n - i) (c - (i + 1))), some (.slice (some ⟨b, 0, none⟩) (n + 1) c), some (Vi i), some (.slice (some ⟨b, i * 1, none⟩) (n + 1 - i) (c - i)), some (goInt (Nat.min (n + 1 - i) (n - i)))] [] 8 (fun _ W => HpR W b (L0.take ((i + 1) * 1) ++ (xs.drop (i * 1)) ++ L0.drop ((i + 1) * 1 + (xs.drop (i * 1)).length)) 34 ∧ Only (fun x => x = b) w W) rfl ⟨by kernel_rfl, of_decide_eq_true (by kernel_rfl), by kernel_rfl, by kernel_rfl, by kernel_rfl⟩ (of_decide_eq_true (by kernel_rfl)) ⟨?_, ?_, ?_, ?_, ?_, ?_, ?_, ?_, ?_, trivial⟩ ?_
 ·intro ac done u W Sx hT
  have hs := Sx.no 8 (by kernel_rfl)
  have hR := hT.1 hs
  exact X.vl (X.move rfl (Sx.ev 0 (.slice (some ⟨b, 0, none⟩) (n + 1) c))) (Y.RT.of hs rfl hR.st0)
 ·intro ac done u W Sx hT
  have hs := Sx.no 8 (by kernel_rfl)
  have hR := hT.1 hs
  exact X.vl (X.move rfl (Sx.ev 1 (Vi i))) (Y.RT.of hs rfl hR.st0)
 ·intro ac done u W Sx hT
  have hs := Sx.no 8 (by kernel_rfl)
  have hR := hT.1 hs
  exact X.vl (X.move rfl (Sx.ev 7 (Vi 1))) (Y.RT.of hs rfl hR.st0)
 ·intro ac done u W Sx hT
  have hs := Sx.no 8 (by kernel_rfl)
  have hR := hT.1 hs
  exact X.vl (X.binop rfl (Sx.ev 70 (Vi i)) (Sx.ev 71 (Vi 1)) (X.addI Try.underlying3 rfl (by omega) (by omega))) (Y.RT.of hs rfl hR.st0)
 ·intro ac done u W Sx hT
  have hs := Sx.no 8 (by kernel_rfl)
  have hR := hT.1 hs
  exact X.vl (Y.slL1 (i := i + 1) (q := (i + 1) * 1) (m := n - i) (r := c - (i + 1)) rfl (Sx.ev 69 (.slice (some ⟨b, 0, none⟩) (n + 1) c)) (Sx.ev 72 (Vi ((i : Int) + 1))) Try.underlying38 (Try.siz34 _) (by omega) (by omega) (by omega) (by omega) (by omega) (by omega) (by omega)) (Y.RT.of hs rfl hR.st0)
 ·intro ac done u W Sx hT
  have hs := Sx.no 8 (by kernel_rfl)
  have hR := hT.1 hs
  exact X.vl (X.move rfl (Sx.ev 0 (.slice (some ⟨b, 0, none⟩) (n + 1) c))) (Y.RT.of hs rfl hR.st0)
 ·intro ac done u W Sx hT
  have hs := Sx.no 8 (by kernel_rfl)
  have hR := hT.1 hs
  exact X.vl (X.move rfl (Sx.ev 1 (Vi i))) (Y.RT.of hs rfl hR.st0)
 ·intro ac done u W Sx hT
  have hs := Sx.no 8 (by kernel_rfl)
  have hR := hT.1 hs
  exact X.vl (Y.slL1 (i := i) (q := i * 1) (m := n + 1 - i) (r := c - i) rfl (Sx.ev 74 (.slice (some ⟨b, 0, none⟩) (n + 1) c)) (Sx.ev 75 (Vi i)) Try.underlying38 (Try.siz34 _) (by omega) (by omega) (by omega) (by omega) (by omega) (by omega) (by omega)) (Y.RT.of hs rfl hR.st0)
 ·intro ac done u W Sx hT
  have g : Gr w W := (hT.1 Sx.nd).1
  obtain ⟨W2, hrun, hH2, hon⟩ := HpR.copy (P := Try.prog) (dT := 38) (sT := 38) (ty := 3) (k := 1) (o := (i + 1) * 1) (dLen := n - i) (dCap := c - (i + 1)) (o2 := i * 1) (sLen := n + 1 - i) (sCap := c - i) (cs := (xs.drop (i * 1))) (hL.gr g) (hL.gr g) Try.underlying38 siz34i (by rw [List.length_drop, hxl, show Nat.min (n + 1 - i) (n - i) = n - i from Nat.min_eq_right (by omega)]; omega) (take_get hLx) (by simp only [List.length_append, List.length_take, List.length_drop, hNl, hxl, hLl]; omega) (drop_all hx1 _)
  exact X.vl (Y.cpy rfl (Sx.ev 73 (.slice (some ⟨b, (i + 1) * 1, none⟩) (n - i) (c - (i + 1)))) (Sx.ev 76 (.slice (some ⟨b, i * 1, none⟩) (n + 1 - i) (c - i))) hrun) (Y.RT.fin ⟨hH2, (g.only _).trans hon⟩)
 rintro ac u w7 hs hd hl_ ho ⟨hH2, hon⟩
 replace F : Fr ac 95 [(0, .slice (some ⟨b, 0, none⟩) (n + 1) c), (1, Vi i), (2, .slice (some ⟨vb, 0, none⟩) 1 1)] := X.fr hs hd hl_ _ (by kernel_rfl)
 clear hs hd hl_ ho
 replace hL := hH2
 replace hV := hV.only hon (by omega)
 clear hH2
 have hC9 := ((G.only (fun x => x = b)).step hon (.inl rfl))
 clear hon
 clear G
 have G := Gr.refl w7
 refine X.thenN ?_
 refine Y.sl ?_
 refine Y.pv4 F (X.move rfl (F.ev 0 (.slice (some ⟨b, 0, none⟩) (n + 1) c))) (fun _ F=>X.move rfl (F.ev 1 (Vi i))) (fun _ F=>Y.slL1 (i := i) (q := i * 1) (m := n + 1 - i) (r := c - i) rfl (F.ev 78 (.slice (some ⟨b, 0, none⟩) (n + 1) c)) (F.ev 79 (Vi i)) Try.underlying38 (Try.siz34 _) (by omega) (by omega) (by omega) (by omega) (by omega) (by omega) (by omega)) (fun _ F=>X.move rfl (F.ev 2 (.slice (some ⟨vb, 0, none⟩) 1 1))) ?_;clear F ac;intro ac F
 obtain ⟨w8, hrun, hH2, hon⟩ := HpR.copy (P := Try.prog) (dT := 38) (sT := 38) (ty := 3) (k := 1) (o := i * 1) (dLen := n + 1 - i) (dCap := c - i) (o2 := 0) (sLen := 1) (sCap := 1) (cs := N) hL hV Try.underlying38 siz34i (by rw [hNl, show Nat.min 1 (n + 1 - i) = 1 from Nat.min_eq_left (by omega)]) (self_get N) (by simp only [List.length_append, List.length_take, List.length_drop, hNl, hxl, hLl]; omega) hN1
 refine Y.pv F (Y.cpy rfl (F.ev 80 (.slice (some ⟨b, i * 1, none⟩) (n + 1 - i) (c - i))) (F.ev 81 (.slice (some ⟨vb, 0, none⟩) 1 1)) hrun) ?_
 clear F ac hrun
 intro ac F
 replace hL := hH2
 replace hV := hV.only hon (by omega)
 clear hH2
 replace hC9 := hC9.step hon (.inl rfl)
 clear hon
 clear G
 have G := Gr.refl w8
 refine Y.nt F [(0, .slice (some ⟨b, 0, none⟩) (n + 1) c)] ?_;clear F ac;intro ac F
 refine Y.sg F [(6, .slice (some ⟨b, 0, none⟩) (n + 1) c)] (Y.pv F (X.move rfl (F.ev 0 (.slice (some ⟨b, 0, none⟩) (n + 1) c))) fun ac F=>Y.pv F (X.assign rfl (F.ev 83 (.slice (some ⟨b, 0, none⟩) (n + 1) c))) fun ac F=>Y.fin F) ?_;clear F ac;intro ac F
 refine Y.ret ?_
 refine X.thenR ?_
 have e9 := ins_place (L0 := L0) (M := xs.drop (i * 1)) (R := L0.drop ((i + 1) * 1 + (xs.drop (i * 1)).length)) (N := N) (p := i * 1) (k := 1) hNl (by rw [hLl]; omega)
 rw [show i * 1 + 1 = (i + 1) * 1 by omega] at e9
 have e8 : L0.take (i * 1) = xs.take (i * 1) := by rw [← hLx, List.take_take, Nat.min_eq_left (by omega)]
 rw [e9, e8] at hL
 have hlen9 : (xs.take (i * 1) ++ N ++ xs.drop (i * 1) ++ L0.drop ((i + 1) * 1 + (xs.drop (i * 1)).length)).length = c * 1 := by simp only [List.length_append, List.length_take, List.length_drop, hNl, hxl, hLl]; omega
 exact Y.ret0 (v := .slice (some ⟨b, 0, none⟩) (n + 1) c) F (Y.r1 F) ⟨_, rfl, ins_own hL hBb rfl (by simp only [List.length_append, List.length_take, List.length_drop, hNl, hxl]; omega) hlen9 (by omega) hcm, hC9.mono (fun x _ e => by subst e; rfl), .inl rfl⟩
theorem ins117_any (B vb n i : Nat) (v : Value) (xs N : List Value) (w : World) (hO : OwnR w B 34 1 v n xs) (hx1 : (xs.all fun v => v.oneCell') = true) (hi : i ≤ n) (hn : n ≤ 100000) (hvb : v.ownBlock ≠ some vb) (hV0 : HpR w vb N 34) (hNl : N.length = 1) (hN1 : (N.all fun v => v.oneCell') = true) (hB : B ≤ w.heap.size) :
  Calls Try.prog 117 #[v, Vi i, .slice (some ⟨vb, 0, none⟩) 1 1] w fun e w' => ∃ v', e = .returned v' ∧ OwnR w' B 34 1 v' (n + 1) (xs.take (i * 1) ++ N ++ xs.drop (i * 1)) ∧ Only (fun x => v.ownBlock = some x) w w' ∧ (v'.ownBlock = v.ownBlock ∨ ∃ x, v'.ownBlock = some x ∧ w.heap.size ≤ x) := by
 have hxl := hO.len
 by_cases h : i = n
 ·subst h
  have e1 : xs.take (i * 1) ++ N ++ xs.drop (i * 1) = xs ++ N := by rw [← hxl, List.take_length, List.drop_length, List.append_nil]
  rw [e1]
  rcases hO.shape with ⟨rfl, rfl⟩ | ⟨g, c, rfl, h1, h2⟩
  ·exact ins117_end B vb none 0 0 xs N w hO hn (Nat.le_refl _) hV0 hNl hN1 hB
  ·have hnc : i ≤ c := by
    rcases Nat.eq_zero_or_pos i with h3 | h3
    ·omega
    ·obtain ⟨_, _, _, _, _, h4, _⟩ := hO.row h3; exact h4
   exact ins117_end B vb (some ⟨g, 0, none⟩) i c xs N w hO hn hnc hV0 hNl hN1 hB
 ·have h0 : i < n := by omega
  rcases hO.shape with ⟨_, h3⟩ | ⟨g, c, rfl, h1, h2⟩
  ·omega
  ·obtain ⟨g', L, e, hBb, hL, hnc, hcm, hLl, hLx⟩ := hO.row (by omega)
   injection e with e
   injection e with e
   subst e
   have hne : vb ≠ g := fun e => hvb (by rw [e]; rfl)
   by_cases hr : c < n + 1
   ·exact ins117_grow B g vb n c i L xs N w hL hBb hnc hcm hLl hLx hxl hx1 h0 hn hr hne hV0 hNl hN1 hB
   ·exact ins117_shift B g vb n c i L xs N w hL hBb hnc hcm hLl hLx hxl hx1 h0 hn (by omega) hne hV0 hNl hN1 hB
end
section
open Go.RowKit

def cmpI (x y : Int) : Int := if x < y then -1 else if y < x then 1 else 0
def cmpL : List Int → List Int → Int
  | [], [] => 0
  | [], _ :: _ => -1
  | _ :: _, [] => 1
  | x :: xs, y :: ys => if cmpI x y = 0 then cmpL xs ys else cmpI x y
theorem drop_cons0 {xs : List Int} {k : Nat} (h : k < xs.length) : xs.drop k = xs[k]?.getD 0 :: xs.drop (k + 1) := by
  rw [List.drop_eq_getElem_cons h]; simp [h]
theorem cmp_1 {xs ys : List Int} {k : Nat} (h : k < xs.length) (h2 : ys.length ≤ k) : cmpL (xs.drop k) (ys.drop k) = 1 := by
  rw [drop_cons0 h, List.drop_eq_nil_of_le h2]; rfl
theorem cmp_ne {xs ys : List Int} {k : Nat} (h : k < xs.length) (h2 : k < ys.length) (h3 : ¬ (cmpI (xs[k]?.getD 0) (ys[k]?.getD 0) : Int) = 0) : cmpL (xs.drop k) (ys.drop k) = cmpI (xs[k]?.getD 0) (ys[k]?.getD 0) := by
  rw [drop_cons0 h, drop_cons0 h2]; simp only [cmpL, if_neg h3]
theorem cmp_eq {xs ys : List Int} {k : Nat} (h : k < xs.length) (h2 : k < ys.length) (h3 : (cmpI (xs[k]?.getD 0) (ys[k]?.getD 0) : Int) = 0) : cmpL (xs.drop k) (ys.drop k) = cmpL (xs.drop (k + 1)) (ys.drop (k + 1)) := by
  rw [drop_cons0 h, drop_cons0 h2]; simp only [cmpL, if_pos h3]
theorem cmp_lt {xs ys : List Int} {k : Nat} (h : k = xs.length) (h2 : k < ys.length) : cmpL (xs.drop k) (ys.drop k) = -1 := by
  rw [drop_cons0 h2, List.drop_eq_nil_of_le (by omega)]; rfl
theorem cmp_0 {xs ys : List Int} {k : Nat} (h : k = xs.length) (h2 : ys.length ≤ k) : cmpL (xs.drop k) (ys.drop k) = 0 := by
  rw [List.drop_eq_nil_of_le h2, List.drop_eq_nil_of_le (by omega)]; rfl
theorem cmp_ltK {a b c d : Int} : decide (cmpL [a, b] [c, d] < 0) = ltK (a, b) (c, d) := by
  unfold ltK cmpL cmpL cmpL cmpI
  by_cases h1 : a < c
  · simp [h1]
  · by_cases h2 : c < a
    · have : ¬ a = c := by omega
      simp [h1, h2, this]
    · have h3 : a = c := by omega
      subst h3
      by_cases h4 : b < d
      · simp [h4]
      · by_cases h5 : d < b
        · simp [h4, h5]
        · simp [h4, h5]
theorem cmp_geK {a b c d : Int} : decide (0 ≤ cmpL [a, b] [c, d]) = !ltK (a, b) (c, d) := by
  rw [← cmp_ltK]
  by_cases h : cmpL [a, b] [c, d] < 0
  · have : ¬ 0 ≤ cmpL [a, b] [c, d] := by omega
    simp [h, this]
  · have : 0 ≤ cmpL [a, b] [c, d] := by omega
    simp [h, this]
set_option maxRecDepth 100000 in
set_option maxHeartbeats 400000 in
theorem nan_any (x : Int) (w : World) :
  Calls Try.prog 129 #[Vi x] w fun e w' => e = .returned (.bool false) ∧ Gr w w' := by
 have G := Gr.refl w
 refine Y.calls 6 Try.func129 rfl rfl ?_
 intro ac F0
 have F : Fr ac 6 [(0, Vi x)] := F0.sub _
 clear F0
 refine Y.sg F [(0, Vi x)] (Y.pv F (X.assign rfl (X.kc (.bool false) rfl)) fun ac F=>Y.fin F) ?_;clear F ac;intro ac F
 refine Y.sg F [(2, .bool false)] (Y.pv F (X.move rfl (F.ev 0 (Vi x))) fun ac F=>Y.pv F (X.move rfl (F.ev 0 (Vi x))) fun ac F=>Y.pval F (X.w0 rfl) rfl (X.binop rfl (F.ev 3 (Vi x)) (F.ev 4 (Vi x)) (X.neqI Try.underlying3 (show ((x : Int) != x) = false by simp))) fun ac F=>Y.pv F (X.assign rfl (F.ev 5 (.bool false))) fun ac F=>Y.fin F) ?_;clear F ac;intro ac F
 refine Y.ret ?_
 exact Y.ret0 (v := .bool false) F (Y.r1 F) ⟨rfl, G⟩
set_option maxRecDepth 100000 in
set_option maxHeartbeats 400000 in
theorem compare_any (x y : Int) (w : World) :
  Calls Try.prog 113 #[Vi x, Vi y] w fun e w' => e = .returned (Vi (cmpI x y)) ∧ Gr w w' := by
 have G := Gr.refl w
 refine Y.calls 20 Try.func113 rfl rfl ?_
 intro ac F0
 have F : Fr ac 20 [(0, Vi x), (1, Vi y)] := F0.sub _
 clear F0
 refine Y.sg F [(0, Vi x), (1, Vi y)] (Y.pv F (X.assign rfl (X.kc (Vi 0) rfl)) fun ac F=>Y.fin F) ?_;clear F ac;intro ac F
 refine Y.sl ?_
 refine Y.pv F (X.move rfl (F.ev 0 (Vi x))) fun ac F=>Y.pc F 129 (X.a1 (F.ev 7 (Vi x))) Try.func129 (nan_any x w) ?_
 clear F ac
 rintro e w3 ⟨rfl, g⟩
 refine ⟨_, rfl, ?_⟩
 intro ac F
 replace G := G.trans g
 clear g
 refine Y.pv F (X.assign rfl (F.ev 8 (.bool false))) ?_;clear F ac;intro ac F
 refine Y.nt F [(0, Vi x), (1, Vi y), (5, .bool false)] ?_;clear F ac;intro ac F
 refine Y.sl ?_
 refine Y.pv F (X.move rfl (F.ev 1 (Vi y))) fun ac F=>Y.pc F 129 (X.a1 (F.ev 9 (Vi y))) Try.func129 (nan_any y w3) ?_
 clear F ac
 rintro e w4 ⟨rfl, g⟩
 refine ⟨_, rfl, ?_⟩
 intro ac F
 replace G := G.trans g
 clear g
 refine Y.pv F (X.assign rfl (F.ev 10 (.bool false))) ?_;clear F ac;intro ac F
 refine Y.nt F [(0, Vi x), (1, Vi y), (5, .bool false), (6, .bool false)] ?_;clear F ac;intro ac F
 refine Y.seq ?_
 refine Y.sg F [(0, Vi x), (1, Vi y), (6, .bool false), (11, .bool false)] (Y.pv F (X.move rfl (F.ev 5 (.bool false))) fun ac F=>Y.fin F) ?_;clear F ac;intro ac F
 refine Y.cF F 11 ?_
 refine Y.skip ?_
 refine X.thenN ?_
 refine Y.seq ?_
 refine Y.sg F [(0, Vi x), (1, Vi y), (13, .bool false)] (Y.pv F (X.move rfl (F.ev 6 (.bool false))) fun ac F=>Y.fin F) ?_;clear F ac;intro ac F
 refine Y.cF F 13 ?_
 refine Y.skip ?_
 refine X.thenN ?_
 refine Y.seq ?_
 refine Y.sg F [(0, Vi x), (1, Vi y), (16, .bool (decide ((x : Int) < y)))] (Y.pv F (X.move rfl (F.ev 0 (Vi x))) fun ac F=>Y.pv F (X.move rfl (F.ev 1 (Vi y))) fun ac F=>Y.pv F (X.binop rfl (F.ev 14 (Vi x)) (F.ev 15 (Vi y)) (X.lssI Try.underlying3 rfl)) fun ac F=>Y.fin F) ?_;clear F ac;intro ac F
 cases h5 : decide ((x : Int) < y) with
 | false =>
  try rw [h5] at F
  have h5p : ¬ ((x : Int) < y) := of_decide_eq_false h5
  refine Y.cF F 16 ?_
  refine Y.skip ?_
  refine X.thenN ?_
  refine Y.seq ?_
  refine Y.sg F [(19, .bool (decide ((y : Int) < x)))] (Y.pv F (X.move rfl (F.ev 0 (Vi x))) fun ac F=>Y.pv F (X.move rfl (F.ev 1 (Vi y))) fun ac F=>Y.pv F (X.binop rfl (F.ev 17 (Vi x)) (F.ev 18 (Vi y)) (X.gtrI Try.underlying3 rfl)) fun ac F=>Y.fin F) ?_;clear F ac;intro ac F
  cases h6 : decide ((y : Int) < x) with
  | false =>
   try rw [h6] at F
   have h6p : ¬ ((y : Int) < x) := of_decide_eq_false h6
   refine Y.cF F 19 ?_
   refine Y.skip ?_
   refine X.thenN ?_
   refine Y.sk F 4 (Vi 0) ?_;clear F ac;intro ac F
   refine Y.ret ?_
   exact Y.ret0 (v := Vi 0) F (Y.r1 F) ⟨by rw [show cmpI x y = 0 from (if_neg (by omega)).trans (if_neg (by omega))], G⟩
  | true =>
   try rw [h6] at F
   have h6p : ((y : Int) < x) := of_decide_eq_true h6
   refine Y.cT F 19 ?_
   refine Y.sk F 4 (Vi 1) ?_;clear F ac;intro ac F
   refine Y.ret ?_
   refine X.thenR ?_
   exact Y.ret0 (v := Vi 1) F (Y.r1 F) ⟨by rw [show cmpI x y = 1 from (if_neg (by omega)).trans (if_pos (by omega))], G⟩
 | true =>
  try rw [h5] at F
  have h5p : ((x : Int) < y) := of_decide_eq_true h5
  refine Y.cT F 16 ?_
  refine Y.sg F [(4, Vi (-1))] (Y.pv F (X.assign rfl (X.kc (Vi (-1)) rfl)) fun ac F=>Y.fin F) ?_;clear F ac;intro ac F
  refine Y.ret ?_
  refine X.thenR ?_
  exact Y.ret0 (v := Vi (-1)) F (Y.r1 F) ⟨by rw [show cmpI x y = (-1) from if_pos (by omega)], G⟩
set_option maxRecDepth 100000 in
set_option maxHeartbeats 400000 in
theorem cmpL_any (a b : Option Addr) (c d : Nat) (xs ys : List Int) (w : World) (hX : Ints w a xs.length xs) (hY : Ints w b ys.length ys) :
  Calls Try.prog 90 #[.slice a xs.length c, .slice b ys.length d] w fun e w' => e = .returned (Vi (cmpL xs ys)) ∧ Gr w w' := by
 have G := Gr.refl w
 have hx := hX
 have hy := hY
 have hlx := hX.lt
 have hly := hY.lt
 refine Y.calls 36 Try.func90 rfl rfl ?_
 intro ac F0
 have F : Fr ac 36 [(0, .slice a xs.length c), (1, .slice b ys.length d)] := F0.sub _
 clear F0
 refine Y.sg F [(0, .slice a xs.length c), (1, .slice b ys.length d)] (Y.pv F (X.assign rfl (X.kc (Vi 0) rfl)) fun ac F=>Y.fin F) ?_;clear F ac;intro ac F
 refine Y.seq ?_
 refine Y.sg F [(0, .slice a xs.length c), (1, .slice b ys.length d), (9, .slice a xs.length c), (10, Vi xs.length), (11, Vi 0)] (Y.pv F (X.move rfl (F.ev 0 (.slice a xs.length c))) fun ac F=>Y.pv F (X.len1 Try.underlying34 rfl (F.ev 9 (.slice a xs.length c))) fun ac F=>Y.pv F (X.move rfl (X.kc (Vi 0) rfl)) fun ac F=>Y.fin F) ?_;clear F ac;intro ac F
 refine Y.block ?_
 refine Y.loop (fun me_ ac wr => ∃ (k : Nat), me_ = xs.length - k ∧ Only (fun b => False) w wr ∧ k ≤ xs.length ∧ k ≤ ys.length ∧ cmpL xs ys = cmpL (xs.drop k) (ys.drop k) ∧ Fr ac 36 [(0, .slice a xs.length c), (1, .slice b ys.length d), (9, .slice a xs.length c), (10, Vi xs.length), (11, Vi k)]) _ ⟨0, rfl, Only.refl _ _, Nat.zero_le _, Nat.zero_le _, rfl, F.sub _⟩ ?_
 have hxB1 := hx
 have hyB1 := hy
 have GB1 := G
 clear F ac
 intro me_ ac w3 hI
 obtain ⟨k, rfl, hO1, hk, hm, HC, F⟩ := hI
 replace G := GB1.trans (hO1.gr (fun _ _ h => h))
 replace hx := (hX).gr G
 replace hy := (hY).gr G
 refine Y.sg F [(0, .slice a xs.length c), (1, .slice b ys.length d), (9, .slice a xs.length c), (10, Vi xs.length), (11, Vi k), (12, .bool (decide ((k : Int) < xs.length)))] (Y.pv F (X.binop rfl (F.ev 11 (Vi k)) (F.ev 10 (Vi xs.length)) (X.lssI Try.underlying3 rfl)) fun ac F=>Y.fin F) ?_;clear F ac;intro ac F
 refine Y.seq ?_
 cases h4 : decide ((k : Int) < xs.length) with
 | false =>
  try rw [h4] at F
  have h4p : ¬ ((k : Int) < xs.length) := of_decide_eq_false h4
  have hkn : k = xs.length := by omega
  refine Y.cF F 12 ?_
  refine Y.exit ?_
  refine X.thenX (X.thenX (X.blockX (X.thenN ?_)))
  refine Y.seq ?_
  refine Y.sg F [(35, .bool (decide ((xs.length : Int) < ys.length)))] (Y.pv F (X.move rfl (F.ev 0 (.slice a xs.length c))) fun ac F=>Y.pv F (X.len1 Try.underlying34 rfl (F.ev 31 (.slice a xs.length c))) fun ac F=>Y.pv F (X.move rfl (F.ev 1 (.slice b ys.length d))) fun ac F=>Y.pv F (X.len1 Try.underlying34 rfl (F.ev 33 (.slice b ys.length d))) fun ac F=>Y.pv F (X.binop rfl (F.ev 32 (Vi xs.length)) (F.ev 34 (Vi ys.length)) (X.lssI Try.underlying3 rfl)) fun ac F=>Y.fin F) ?_;clear F ac;intro ac F
  cases h5 : decide ((xs.length : Int) < ys.length) with
  | false =>
   try rw [h5] at F
   have h5p : ¬ ((xs.length : Int) < ys.length) := of_decide_eq_false h5
   have HR : cmpL xs ys = 0 := by rw [HC]; exact cmp_0 hkn (by omega)
   refine Y.cF F 35 ?_
   refine Y.skip ?_
   refine X.thenN ?_
   refine Y.sk F 4 (Vi 0) ?_;clear F ac;intro ac F
   refine Y.ret ?_
   exact Y.ret0 (v := Vi 0) F (Y.r1 F) ⟨by rw [HR], G⟩
  | true =>
   try rw [h5] at F
   have h5p : ((xs.length : Int) < ys.length) := of_decide_eq_true h5
   have HR : cmpL xs ys = -1 := by rw [HC]; exact cmp_lt hkn (by omega)
   refine Y.cT F 35 ?_
   refine Y.sg F [(4, Vi (-1))] (Y.pv F (X.assign rfl (X.kc (Vi (-1)) rfl)) fun ac F=>Y.fin F) ?_;clear F ac;intro ac F
   refine Y.ret ?_
   refine X.thenR ?_
   exact Y.ret0 (v := Vi (-1)) F (Y.r1 F) ⟨by rw [HR], G⟩
 | true =>
  try rw [h4] at F
  have h4p : ((k : Int) < xs.length) := of_decide_eq_true h4
  have hlt : k < xs.length := by omega
  refine Y.cT F 12 ?_
  refine Y.skip ?_
  refine X.thenN ?_
  refine Y.seq ?_
  refine Y.block ?_
  refine Y.sl ?_
  refine Y.pv F (X.move rfl (F.ev 11 (Vi k))) ?_;clear F ac;intro ac F
  obtain ⟨pd6, pe6, -, pc6⟩ := hx.at (j := k) (by omega)
  subst pe6
  have hC : RCells w3 [(pd6.add k, Vi (xs[k]?.getD 0))] := (RCells.cons pc6 (RCells.nil _))
  clear pc6
  refine Y.pval F (X.w0 rfl) rfl (X.index rfl (F.ev 9 (.slice (some pd6) xs.length c)) (F.ev 11 (Vi k)) (X.idx (k := k) Try.underlying34 (Try.siz3 _) (by omega) (by omega) (by rw [Nat.mul_one]))) fun ac F=>Y.pv3 F (X.load rfl (F.ev 14 (.pointer (some (pd6.add k)))) (X.ld1 (Try.agg3 _) (hC.at 0 rfl))) (fun _ F=>X.assign rfl (F.ev 13 (Vi k))) (fun _ F=>X.assign rfl (F.ev 15 (Vi (xs[k]?.getD 0)))) ?_;clear F ac;intro ac F
  refine Y.nt F [(0, .slice (some pd6) xs.length c), (1, .slice b ys.length d), (5, Vi k), (6, Vi (xs[k]?.getD 0)), (9, .slice (some pd6) xs.length c), (10, Vi xs.length), (11, Vi k)] ?_;clear F ac;intro ac F
  refine Y.seq ?_
  refine Y.sg F [(0, .slice (some pd6) xs.length c), (1, .slice b ys.length d), (5, Vi k), (6, Vi (xs[k]?.getD 0)), (9, .slice (some pd6) xs.length c), (10, Vi xs.length), (11, Vi k), (19, .bool (decide ((ys.length : Int) ≤ k)))] (Y.pv F (X.move rfl (F.ev 5 (Vi k))) fun ac F=>Y.pv F (X.move rfl (F.ev 1 (.slice b ys.length d))) fun ac F=>Y.pv F (X.len1 Try.underlying34 rfl (F.ev 17 (.slice b ys.length d))) fun ac F=>Y.pv F (X.binop rfl (F.ev 16 (Vi k)) (F.ev 18 (Vi ys.length)) (X.geqI Try.underlying3 rfl)) fun ac F=>Y.fin F) ?_;clear F ac;intro ac F
  cases h7 : decide ((ys.length : Int) ≤ k) with
  | false =>
   try rw [h7] at F
   have h7p : ¬ ((ys.length : Int) ≤ k) := of_decide_eq_false h7
   have hlm : k < ys.length := by omega
   refine Y.cF F 19 ?_
   refine Y.skip ?_
   refine X.thenN ?_
   refine Y.sl ?_
   refine Y.pv2 F (X.move rfl (F.ev 1 (.slice b ys.length d))) (fun _ F=>X.move rfl (F.ev 5 (Vi k))) ?_;clear F ac;intro ac F
   obtain ⟨pd8, pe8, -, pc8⟩ := hy.at (j := k) (by omega)
   subst pe8
   replace hC := hC.append (show RCells w3 ([(pd8.add k, Vi (ys[k]?.getD 0))]) from (RCells.cons pc8 (RCells.nil _)))
   clear pc8
   refine Y.pval F (X.w0 rfl) rfl (X.index rfl (F.ev 20 (.slice (some pd8) ys.length d)) (F.ev 21 (Vi k)) (X.idx (k := k) Try.underlying34 (Try.siz3 _) (by omega) (by omega) (by rw [Nat.mul_one]))) fun ac F=>Y.pv2 F (X.load rfl (F.ev 22 (.pointer (some (pd8.add k)))) (X.ld1 (Try.agg3 _) (hC.at 1 rfl))) (fun _ F=>X.assign rfl (F.ev 23 (Vi (ys[k]?.getD 0)))) ?_;clear F ac;intro ac F
   refine Y.nt F [(0, .slice (some pd6) xs.length c), (1, .slice (some pd8) ys.length d), (6, Vi (xs[k]?.getD 0)), (7, Vi (ys[k]?.getD 0)), (9, .slice (some pd6) xs.length c), (10, Vi xs.length), (11, Vi k)] ?_;clear F ac;intro ac F
   refine Y.sl ?_
   refine Y.pv2 F (X.move rfl (F.ev 6 (Vi (xs[k]?.getD 0)))) (fun _ F=>X.move rfl (F.ev 7 (Vi (ys[k]?.getD 0)))) fun ac F=>Y.pc F 113 (X.a2 (F.ev 24 (Vi (xs[k]?.getD 0))) (F.ev 25 (Vi (ys[k]?.getD 0)))) Try.func113 (compare_any (xs[k]?.getD 0) (ys[k]?.getD 0) w3) ?_
   clear F ac
   rintro e w9 ⟨rfl, g⟩
   refine ⟨_, rfl, ?_⟩
   intro ac F
   replace G := G.trans g
   replace hC := hC.gr g
   replace hO1 := hO1.thenGr g
   replace hx := hx.gr g
   replace hy := hy.gr g
   clear g
   refine Y.pv F (X.assign rfl (F.ev 26 (Vi (cmpI (xs[k]?.getD 0) (ys[k]?.getD 0))))) ?_;clear F ac;intro ac F
   refine Y.nt F [(0, .slice (some pd6) xs.length c), (1, .slice (some pd8) ys.length d), (8, Vi (cmpI (xs[k]?.getD 0) (ys[k]?.getD 0))), (9, .slice (some pd6) xs.length c), (10, Vi xs.length), (11, Vi k)] ?_;clear F ac;intro ac F
   refine Y.sg F [(0, .slice (some pd6) xs.length c), (1, .slice (some pd8) ys.length d), (8, Vi (cmpI (xs[k]?.getD 0) (ys[k]?.getD 0))), (9, .slice (some pd6) xs.length c), (10, Vi xs.length), (11, Vi k), (28, .bool ((cmpI (xs[k]?.getD 0) (ys[k]?.getD 0) : Int) != 0))] (Y.pv F (X.move rfl (F.ev 8 (Vi (cmpI (xs[k]?.getD 0) (ys[k]?.getD 0))))) fun ac F=>Y.pv F (X.binop rfl (F.ev 27 (Vi (cmpI (xs[k]?.getD 0) (ys[k]?.getD 0)))) (X.kc (Vi 0) rfl) (X.neqI Try.underlying3 rfl)) fun ac F=>Y.fin F) ?_;clear F ac;intro ac F
   cases h10 : ((cmpI (xs[k]?.getD 0) (ys[k]?.getD 0) : Int) != 0) with
   | false =>
    try rw [h10] at F
    have h10p : (cmpI (xs[k]?.getD 0) (ys[k]?.getD 0) : Int) = 0 := by simpa using h10
    have HC2 : cmpL xs ys = cmpL (xs.drop (k + 1)) (ys.drop (k + 1)) := by rw [HC]; exact cmp_eq hlt hlm h10p
    refine Y.cF F 28 ?_
    refine Y.skip ?_
    refine X.blockN (X.thenN ?_)
    refine Y.lg F [(0, .slice (some pd6) xs.length c), (1, .slice (some pd8) ys.length d), (9, .slice (some pd6) xs.length c), (10, Vi xs.length), (11, Vi ((k : Int) + 1))] (by
     refine Y.pv F (X.binop rfl (F.ev 11 (Vi k)) (X.kc (Vi 1) rfl) (X.addI Try.underlying3 rfl (by omega) (by omega))) fun ac F=>?_
     refine Y.pv F (X.move rfl (F.ev 30 (Vi ((k : Int) + 1)))) fun ac F=>?_
     exact Y.fin F) ?_;clear F ac;intro ac F
    refine ⟨_, ?_, k + 1, rfl, hO1, by omega, by omega, HC2, F.sub _⟩
    omega
   | true =>
    try rw [h10] at F
    have h10p : ¬ (cmpI (xs[k]?.getD 0) (ys[k]?.getD 0) : Int) = 0 := by simpa using h10
    have HR : cmpL xs ys = cmpI (xs[k]?.getD 0) (ys[k]?.getD 0) := by rw [HC]; exact cmp_ne hlt hlm h10p
    refine Y.cT F 28 ?_
    refine Y.sg F [(4, Vi (cmpI (xs[k]?.getD 0) (ys[k]?.getD 0)))] (Y.pv F (X.move rfl (F.ev 8 (Vi (cmpI (xs[k]?.getD 0) (ys[k]?.getD 0))))) fun ac F=>Y.pv F (X.assign rfl (F.ev 29 (Vi (cmpI (xs[k]?.getD 0) (ys[k]?.getD 0))))) fun ac F=>Y.fin F) ?_;clear F ac;intro ac F
    refine Y.ret ?_
    refine X.blockR (X.thenR (X.thenR (X.blockR (X.thenR ?_))))
    exact Y.ret0 (v := Vi (cmpI (xs[k]?.getD 0) (ys[k]?.getD 0))) F (Y.r1 F) ⟨by rw [HR], G⟩
  | true =>
   try rw [h7] at F
   have h7p : ((ys.length : Int) ≤ k) := of_decide_eq_true h7
   have HR : cmpL xs ys = 1 := by rw [HC]; exact cmp_1 hlt (by omega)
   refine Y.cT F 19 ?_
   refine Y.sk F 4 (Vi 1) ?_;clear F ac;intro ac F
   refine Y.ret ?_
   refine X.thenR (X.blockR (X.thenR (X.thenR (X.blockR (X.thenR ?_)))))
   exact Y.ret0 (v := Vi 1) F (Y.r1 F) ⟨by rw [HR], G⟩
end
section
set_option linter.unusedVariables false
open Go.RowKit
/-- a beginning and where it lies -/
structure BegE where
  xs : List Int
  a : Option Addr
  c : Nat
abbrev RkL := List ((Int × Int) × BegE)
def keysV (L : RkL) : List Value := L.flatMap fun x => [.int .i64 x.1.1, .int .i64 x.1.2]
def begsV (L : RkL) : List Value := L.map fun x => .slice x.2.a x.2.xs.length x.2.c
theorem keys_len (L : RkL) : (keysV L).length = L.length * 2 := by
  unfold keysV
  induction L with
  | nil => rfl
  | cons x L ih => simp only [List.flatMap_cons, List.length_append, ih, List.length_cons, List.length_nil]; omega
theorem keys_app (L M : RkL) : keysV (L ++ M) = keysV L ++ keysV M := by unfold keysV; rw [List.flatMap_append]
theorem keys_take (L : RkL) (i : Nat) (hi : i ≤ L.length) : (keysV L).take (i * 2) = keysV (L.take i) := by
  have h : keysV L = keysV (L.take i) ++ keysV (L.drop i) := by rw [← keys_app, List.take_append_drop]
  rw [h]
  exact List.take_left' (by rw [keys_len, List.length_take, Nat.min_eq_left hi])
theorem keys_drop (L : RkL) (i : Nat) (hi : i ≤ L.length) : (keysV L).drop (i * 2) = keysV (L.drop i) := by
  have h : keysV L = keysV (L.take i) ++ keysV (L.drop i) := by rw [← keys_app, List.take_append_drop]
  rw [h]
  exact List.drop_left' (by rw [keys_len, List.length_take, Nat.min_eq_left hi])
theorem keys_all (L : RkL) : ((keysV L).all fun v => v.oneCell') = true := by
  rw [List.all_eq_true]
  intro v hv
  simp only [keysV, List.mem_flatMap] at hv
  obtain ⟨x, _, hv⟩ := hv
  simp at hv
  rcases hv with rfl | rfl <;> rfl
theorem keys_get (L : RkL) (i : Nat) (x : (Int × Int) × BegE) (h : L[i]? = some x) : (keysV L)[i * 2]? = some (.int .i64 x.1.1) ∧ (keysV L)[i * 2 + 1]? = some (.int .i64 x.1.2) := by
  have hi : i < L.length := (List.getElem?_eq_some_iff.1 h).1
  have h1 : keysV L = keysV (L.take i) ++ keysV (L.drop i) := by rw [← keys_app, List.take_append_drop]
  have hl : (keysV (L.take i)).length = i * 2 := by rw [keys_len, List.length_take, Nat.min_eq_left (by omega)]
  have h2 : L.drop i = x :: L.drop (i + 1) := by
    rw [List.drop_eq_getElem_cons hi]
    rw [(List.getElem?_eq_some_iff.1 h).2]
  rw [h1, h2]
  constructor
  · rw [List.getElem?_append_right (by omega), hl]; simp [keysV]
  · rw [List.getElem?_append_right (by omega), hl]; simp [keysV]
theorem begs_all (L : RkL) : ((begsV L).all fun v => v.oneCell') = true := by
  rw [List.all_eq_true]
  intro v hv
  simp only [begsV, List.mem_map] at hv
  obtain ⟨x, _, rfl⟩ := hv
  rfl
theorem keys_ins (L : RkL) (i : Nat) (hi : i ≤ L.length) (x : (Int × Int) × BegE) : (keysV L).take (i * 2) ++ [.int .i64 x.1.1, .int .i64 x.1.2] ++ (keysV L).drop (i * 2) = keysV (insAt L i x) := by
  rw [keys_take L i hi, keys_drop L i hi]
  unfold insAt
  rw [keys_app]
  simp [keysV]
theorem begs_ins (L : RkL) (i : Nat) (x : (Int × Int) × BegE) : (begsV L).take (i * 1) ++ [.slice x.2.a x.2.xs.length x.2.c] ++ (begsV L).drop (i * 1) = begsV (insAt L i x) := by
  unfold insAt begsV
  rw [Nat.mul_one, List.map_append, List.map_cons, List.map_take, List.map_drop]
  simp
theorem OwnR.take {W : World} {B e k n m c : Nat} {a : Option Addr} {xs : List Value} (h : OwnR W B e k (.slice a n c) n xs) (hm : m ≤ n) (h0 : 0 < m) : OwnR W B e k (.slice a m c) m (xs.take (m * k)) := by
  have hl := h.len
  refine ⟨by rw [List.length_take, hl]; exact Nat.min_eq_left (Nat.mul_le_mul_right _ hm), ?_⟩
  rcases h.2 with ⟨_, h1⟩ | ⟨g, cap, cur, e1, h2, h3, h4, h5, h6, h7⟩
  · omega
  · injection e1 with e1 _ e3
    subst e1 e3
    refine .inr ⟨g, c, cur, rfl, h2, h3, by omega, h5, h6, ?_⟩
    rw [← h7, List.take_take, Nat.min_eq_left (Nat.mul_le_mul_right _ hm)]
theorem OwnR.form {W : World} {B e k n : Nat} {v : Value} {xs : List Value} (h : OwnR W B e k v n xs) : ∃ a c, v = .slice a n c := by
  rcases h.shape with ⟨rfl, rfl⟩ | ⟨g, c, rfl, _⟩
  · exact ⟨none, 0, rfl⟩
  · exact ⟨_, _, rfl⟩
/-- the blocks of the first ones -/
def RkO (rb : Nat) (kv lv : Value) (b : Nat) : Prop := b = rb ∨ kv.ownBlock = some b ∨ lv.ownBlock = some b
structure RkAt (W : World) (rb B most : Nat) (kv lv : Value) (L : RkL) : Prop where
  own : OwnP W rb 3 (VL [.int .i64 most, kv, lv])
  k : OwnR W B 92 2 kv L.length (keysV L)
  l : OwnR W B 34 1 lv L.length (begsV L)
  b : ∀ x ∈ L, BegAt W B x.2.a x.2.c x.2.xs
  kl : ∀ x, kv.ownBlock = some x → lv.ownBlock ≠ some x
  kb : ∀ x ∈ L, ∀ ad, x.2.a = some ad → kv.ownBlock ≠ some ad.block ∧ lv.ownBlock ≠ some ad.block
  rB : rb < B
  BW : B ≤ W.heap.size
theorem RkAt.gr {W W' : World} {rb B most : Nat} {kv lv : Value} {L : RkL} (h : RkAt W rb B most kv lv L) (g : Gr W W') : RkAt W' rb B most kv lv L :=
  ⟨h.own.gr g, h.k.gr g, h.l.gr g, fun x hx => (h.b x hx).gr g, h.kl, h.kb, h.rB, Nat.le_trans h.BW g.size⟩
theorem RkAt.lt {W : World} {rb B most : Nat} {kv lv : Value} {L : RkL} (h : RkAt W rb B most kv lv L) : ∀ b, RkO rb kv lv b → b < W.heap.size := by
  rintro b (rfl | e | e)
  · exact h.own.lt
  · exact (h.k.ge e).2
  · exact (h.l.ge e).2
/-- another block turns -/
theorem RkAt.only {S : Nat → Prop} {W W' : World} {rb B most : Nat} {kv lv : Value} {L : RkL} (h : RkAt W rb B most kv lv L) (g : Only S W W') (h1 : ∀ b, RkO rb kv lv b → ¬ S b) (h2 : ∀ x ∈ L, ∀ ad, x.2.a = some ad → ¬ S ad.block) : RkAt W' rb B most kv lv L :=
  ⟨h.own.only g (h1 _ (.inl rfl)), h.k.only g (fun b e => h1 b (.inr (.inl e))), h.l.only g (fun b e => h1 b (.inr (.inr e))), fun x hx => (h.b x hx).only g (h2 x hx), h.kl, h.kb, h.rB, Nat.le_trans h.BW g.size⟩
namespace Y
variable {P : Program} {W W' : World} {o : Oper} {ρ : Operand → Value}
/-- a slice of an array -/
theorem slAr {t e : TypeId} {x : Operand} {p : Addr} {n : Nat} (ho : o.op = .slice t x none none none) (hx : ρ x = .pointer (some p)) (hu : P.underlying t = some (.array n e)) (hS : ∀ W, (sizeOf e).run P W = .ok 1 W) (hn : n ≠ 0) : (execOp ρ o).run P W = .ok (.value (.slice (some p) n n)) W := by
  have e0 : p.add 0 = p := add_zero p
  simp [execOp, ho, hx, Instr.sliceAt, Instr.slice, Instr.sureAddr, run_underlying hu, Instr.sliceBounds, Instr.sliceBound, hS, go_sem, e0]
end Y
/-- a region that makes two rows of one (8, 16), puts them into two rows (9, 17), and stores these (20, 23) -/
structure RPt (w : World) (B rb most n : Nat) (kv lv : Value) (K K' NK Lx L' NL : List Value) (done : Nat → Bool) (u : Nat → Value) (W : World) : Prop where
  o : Only (RkO rb kv lv) w W
  k8 : done 8 = true → done 9 = false → ∃ g, u 8 = .slice (some ⟨g, 0, none⟩) 1 1 ∧ w.heap.size ≤ g ∧ HpR W g NK 92
  k16 : done 16 = true → done 17 = false → ∃ g, u 16 = .slice (some ⟨g, 0, none⟩) 1 1 ∧ w.heap.size ≤ g ∧ HpR W g NL 34
  kc : ∃ kc, (done 9 = false → kc = kv) ∧ (done 9 = true → kc = u 9) ∧ OwnR W B 92 2 kc (if done 9 then n + 1 else n) (if done 9 then K' else K) ∧ (kc.ownBlock = kv.ownBlock ∨ ∃ x, kc.ownBlock = some x ∧ w.heap.size ≤ x) ∧
    ∃ lc, (done 17 = false → lc = lv) ∧ (done 17 = true → lc = u 17) ∧ OwnR W B 34 1 lc (if done 17 then n + 1 else n) (if done 17 then L' else Lx) ∧ (lc.ownBlock = lv.ownBlock ∨ ∃ x, lc.ownBlock = some x ∧ w.heap.size ≤ x) ∧ (∀ x, kc.ownBlock = some x → lc.ownBlock ≠ some x)
  own : OwnP W rb 3 (VL [.int .i64 most, if done 20 then u 9 else kv, if done 23 then u 17 else lv])
/-- a region that stores into two cells of a block -/
structure RS2 (w : World) (b s1 s2 : Nat) (x0 x1 x2 y1 y2 : Value) (done : Nat → Bool) (u : Nat → Value) (W : World) : Prop where
  o : Only (fun x => x = b) w W
  own : OwnP W b 3 (VL [x0, if done s1 then y1 else x1, if done s2 then y2 else x2])
section
variable {w W W' : World} {b s1 s2 i : Nat} {x0 x1 x2 y1 y2 : Value} {done : Nat → Bool} {u : Nat → Value} {v : Value}
theorem RS2.start {u : Nat → Value} (h : Only (fun x => x = b) w W) (ho : OwnP W b 3 (VL [x0, x1, x2])) : RS2 w b s1 s2 x0 x1 x2 y1 y2 (fun _ => false) u W := ⟨h, by simpa using ho⟩
theorem RS2.quiet (h : RS2 w b s1 s2 x0 x1 x2 y1 y2 done u W) (hi : (i == s1 || i == s2) = false) : RS2 w b s1 s2 x0 x1 x2 y1 y2 (upd done i) (fun j => if j = i then v else u j) W := by
  simp only [Bool.or_eq_false_iff, beq_eq_false_iff_ne] at hi
  refine ⟨h.o, ?_⟩
  rw [upd_ne (Ne.symm hi.1), upd_ne (Ne.symm hi.2)]
  exact h.own
theorem VL3_1 (x0 x1 x2 y : Value) : ∀ k, k < 3 → (if k = 1 then y else VL [x0, x1, x2] k) = VL [x0, y, x2] k := by
  intro k hk
  match k, hk with
  | 0, _ => rfl
  | 1, _ => rfl
  | 2, _ => rfl
theorem VL3_2 (x0 x1 x2 y : Value) : ∀ k, k < 3 → (if k = 2 then y else VL [x0, x1, x2] k) = VL [x0, x1, y] k := by
  intro k hk
  match k, hk with
  | 0, _ => rfl
  | 1, _ => rfl
  | 2, _ => rfl
theorem RS2.st1 (h : RS2 w b s1 s2 x0 x1 x2 y1 y2 done u W) (hne : (s1 == s2) = false) : RS2 w b s1 s2 x0 x1 x2 y1 y2 (upd done s1) (fun j => if j = s1 then v else u j) (W.setCell ⟨b, 1, none⟩ y1) := by
  refine ⟨h.o.trans (Y.set_only _ _ _ _), ?_⟩
  rw [upd_self, upd_ne (by simpa using (fun e : s2 = s1 => by simp [e] at hne))]
  exact (h.own.set y1).congr (VL3_1 _ _ _ _)
theorem RS2.st2 (h : RS2 w b s1 s2 x0 x1 x2 y1 y2 done u W) (hne : (s1 == s2) = false) : RS2 w b s1 s2 x0 x1 x2 y1 y2 (upd done s2) (fun j => if j = s2 then v else u j) (W.setCell ⟨b, 2, none⟩ y2) := by
  refine ⟨h.o.trans (Y.set_only _ _ _ _), ?_⟩
  rw [upd_self, upd_ne (by simpa using (fun e : s1 = s2 => by simp [e] at hne))]
  exact (h.own.set y2).congr (VL3_2 _ _ _ _)
end
section
variable {w W W' : World} {B rb most n i : Nat} {kv lv : Value} {K K' NK Lx L' NL : List Value} {done : Nat → Bool} {u : Nat → Value} {v : Value}
theorem RPt.start {u : Nat → Value} (g : Gr w W) (hk : OwnR W B 92 2 kv n K) (hl : OwnR W B 34 1 lv n Lx) (hkl : ∀ x, kv.ownBlock = some x → lv.ownBlock ≠ some x) (ho : OwnP W rb 3 (VL [.int .i64 most, kv, lv])) : RPt w B rb most n kv lv K K' NK Lx L' NL (fun _ => false) u W :=
  ⟨g.only _, fun h => by simp at h, fun h => by simp at h, ⟨kv, fun _ => rfl, fun h => by simp at h, by simpa using hk, .inl rfl, lv, fun _ => rfl, fun h => by simp at h, by simpa using hl, .inl rfl, hkl⟩, by simpa using ho⟩
theorem RPt.quiet (h : RPt w B rb most n kv lv K K' NK Lx L' NL done u W) (hi : (i == 8 || i == 9 || i == 16 || i == 17 || i == 20 || i == 23) = false) : RPt w B rb most n kv lv K K' NK Lx L' NL (upd done i) (fun j => if j = i then v else u j) W := by
  simp only [Bool.or_eq_false_iff, beq_eq_false_iff_ne] at hi
  obtain ⟨⟨⟨⟨⟨h8, h9⟩, h16⟩, h17⟩, h20⟩, h23⟩ := hi
  have e8 := upd_ne (done := done) (Ne.symm h8)
  have e9 := upd_ne (done := done) (Ne.symm h9)
  have e16 := upd_ne (done := done) (Ne.symm h16)
  have e17 := upd_ne (done := done) (Ne.symm h17)
  have e20 := upd_ne (done := done) (Ne.symm h20)
  have e23 := upd_ne (done := done) (Ne.symm h23)
  refine ⟨h.o, ?_, ?_, ?_, ?_⟩
  · rw [e8, e9, if_neg (Ne.symm h8)]; exact h.k8
  · rw [e16, e17, if_neg (Ne.symm h16)]; exact h.k16
  · rw [e9, e17, if_neg (Ne.symm h9), if_neg (Ne.symm h17)]; exact h.kc
  · rw [e20, e23, if_neg (Ne.symm h9), if_neg (Ne.symm h17)]; exact h.own
theorem RPt.s8 {g : Nat} (h : RPt w B rb most n kv lv K K' NK Lx L' NL done u W) (hg : Gr W W') (hs : w.heap.size ≤ g) (hp : HpR W' g NK 92) : RPt w B rb most n kv lv K K' NK Lx L' NL (upd done 8) (fun j => if j = 8 then .slice (some ⟨g, 0, none⟩) 1 1 else u j) W' := by
  refine ⟨h.o.thenGr hg, fun _ _ => ⟨g, by simp, hs, hp⟩, ?_, ?_, ?_⟩
  · rw [upd_ne (by decide), upd_ne (by decide), if_neg (show ¬ (16 : Nat) = 8 by decide)]
    intro a b
    obtain ⟨g, e, h1, h2⟩ := h.k16 a b
    exact ⟨g, e, h1, h2.gr hg⟩
  · rw [upd_ne (by decide), upd_ne (by decide), if_neg (show ¬ (9 : Nat) = 8 by decide), if_neg (show ¬ (17 : Nat) = 8 by decide)]
    obtain ⟨kc, h1, h2, h3, h4, lc, h5, h6, h7, h8, h9⟩ := h.kc
    exact ⟨kc, h1, h2, h3.gr hg, h4, lc, h5, h6, h7.gr hg, h8, h9⟩
  · rw [upd_ne (by decide), upd_ne (by decide), if_neg (show ¬ (9 : Nat) = 8 by decide), if_neg (show ¬ (17 : Nat) = 8 by decide)]
    exact h.own.gr hg
theorem RPt.s16 {g : Nat} (h : RPt w B rb most n kv lv K K' NK Lx L' NL done u W) (hg : Gr W W') (hs : w.heap.size ≤ g) (hp : HpR W' g NL 34) : RPt w B rb most n kv lv K K' NK Lx L' NL (upd done 16) (fun j => if j = 16 then .slice (some ⟨g, 0, none⟩) 1 1 else u j) W' := by
  refine ⟨h.o.thenGr hg, ?_, fun _ _ => ⟨g, by simp, hs, hp⟩, ?_, ?_⟩
  · rw [upd_ne (by decide), upd_ne (by decide), if_neg (show ¬ (8 : Nat) = 16 by decide)]
    intro a b
    obtain ⟨g, e, h1, h2⟩ := h.k8 a b
    exact ⟨g, e, h1, h2.gr hg⟩
  · rw [upd_ne (by decide), upd_ne (by decide), if_neg (show ¬ (9 : Nat) = 16 by decide), if_neg (show ¬ (17 : Nat) = 16 by decide)]
    obtain ⟨kc, h1, h2, h3, h4, lc, h5, h6, h7, h8, h9⟩ := h.kc
    exact ⟨kc, h1, h2, h3.gr hg, h4, lc, h5, h6, h7.gr hg, h8, h9⟩
  · rw [upd_ne (by decide), upd_ne (by decide), if_neg (show ¬ (9 : Nat) = 16 by decide), if_neg (show ¬ (17 : Nat) = 16 by decide)]
    exact h.own.gr hg
theorem RPt.s9 (h : RPt w B rb most n kv lv K K' NK Lx L' NL done u W) (h9 : done 9 = false) (h20 : done 20 = false) (hlt : ∀ b, RkO rb kv lv b → b < w.heap.size) (hrB : rb < B) (hO : OwnR W' B 92 2 v (n + 1) K') (ho : Only (fun x => kv.ownBlock = some x) W W') (hat : v.ownBlock = kv.ownBlock ∨ ∃ x, v.ownBlock = some x ∧ W.heap.size ≤ x) (hkr : kv.ownBlock ≠ some rb) : RPt w B rb most n kv lv K K' NK Lx L' NL (upd done 9) (fun j => if j = 9 then v else u j) W' := by
  obtain ⟨kc, h1, h2, h3, h4, lc, h5, h6, h7, h8, hkl⟩ := h.kc
  have e := h1 h9
  subst e
  have hsz := h.o.size
  refine ⟨h.o.step2 ho (fun r e => .inl (.inr (.inl e))), fun _ k => (by rw [upd_self] at k; cases k), ?_, ?_, ?_⟩
  · rw [upd_ne (by decide), upd_ne (by decide), if_neg (show ¬ (16 : Nat) = 9 by decide)]
    intro a b
    obtain ⟨g, e, k1, k2⟩ := h.k16 a b
    exact ⟨g, e, k1, k2.only ho (fun e => by have := hlt g (.inr (.inl e)); omega)⟩
  · rw [upd_self, upd_ne (by decide), if_pos rfl, if_pos rfl, if_neg (show ¬ (17 : Nat) = 9 by decide)]
    refine ⟨v, fun k => (by cases k), fun _ => by simp, hO, hat.imp (fun z => z) (fun ⟨x, e, k⟩ => ⟨x, e, by omega⟩), lc, h5, h6, h7.only ho (fun b e k => hkl b k e), h8, fun x hx => ?_⟩
    rcases hat with e | ⟨y, e, k⟩
    · exact hkl x (e ▸ hx)
    · intro k2
      rw [e] at hx
      injection hx with hx
      subst hx
      have := (h7.ge k2).2
      omega
  · rw [upd_ne (by decide), upd_ne (by decide), h20, if_neg (show ¬ (17 : Nat) = 9 by decide)]
    have := h.own
    rw [h20] at this
    exact this.only ho hkr
theorem RPt.s17 (h : RPt w B rb most n kv lv K K' NK Lx L' NL done u W) (h17 : done 17 = false) (h23 : done 23 = false) (hlt : ∀ b, RkO rb kv lv b → b < w.heap.size) (hrB : rb < B) (hO : OwnR W' B 34 1 v (n + 1) L') (ho : Only (fun x => lv.ownBlock = some x) W W') (hat : v.ownBlock = lv.ownBlock ∨ ∃ x, v.ownBlock = some x ∧ W.heap.size ≤ x) (hkr : lv.ownBlock ≠ some rb) : RPt w B rb most n kv lv K K' NK Lx L' NL (upd done 17) (fun j => if j = 17 then v else u j) W' := by
  obtain ⟨kc, h1, h2, h3, h4, lc, h5, h6, h7, h8, hkl⟩ := h.kc
  have e := h5 h17
  subst e
  have hsz := h.o.size
  refine ⟨h.o.step2 ho (fun r e => .inl (.inr (.inr e))), ?_, fun _ k => (by rw [upd_self] at k; cases k), ?_, ?_⟩
  · rw [upd_ne (by decide), upd_ne (by decide), if_neg (show ¬ (8 : Nat) = 17 by decide)]
    intro a b
    obtain ⟨g, e, k1, k2⟩ := h.k8 a b
    exact ⟨g, e, k1, k2.only ho (fun e => by have := hlt g (.inr (.inr e)); omega)⟩
  · rw [upd_self, upd_ne (by decide), if_pos rfl, if_pos rfl, if_neg (show ¬ (9 : Nat) = 17 by decide)]
    refine ⟨kc, h1, h2, h3.only ho (fun b e k => hkl b e k), h4, v, fun k => (by cases k), fun _ => by simp, hO, hat.imp (fun z => z) (fun ⟨x, e, k⟩ => ⟨x, e, by omega⟩), fun x hx => ?_⟩
    rcases hat with e | ⟨y, e, k⟩
    · rw [e]; exact hkl x hx
    · intro k2
      rw [e] at k2
      injection k2 with k2
      subst k2
      have := (h3.ge hx).2
      omega
  · rw [upd_ne (by decide), upd_ne (by decide), h23, if_neg (show ¬ (9 : Nat) = 17 by decide)]
    have := h.own
    rw [h23] at this
    exact this.only ho hkr
theorem RPt.s20 (h : RPt w B rb most n kv lv K K' NK Lx L' NL done u W) (hlt : ∀ b, RkO rb kv lv b → b < w.heap.size) (hrB : rb < B) : RPt w B rb most n kv lv K K' NK Lx L' NL (upd done 20) (fun j => if j = 20 then v else u j) (W.setCell ⟨rb, 1, none⟩ (u 9)) := by
  have ho := Y.set_only W rb 1 (u 9)
  have hr := hlt rb (.inl rfl)
  refine ⟨h.o.step2 ho (fun r e => .inl (.inl e)), ?_, ?_, ?_, ?_⟩
  · rw [upd_ne (by decide), upd_ne (by decide), if_neg (show ¬ (8 : Nat) = 20 by decide)]
    intro a b
    obtain ⟨g, e, k1, k2⟩ := h.k8 a b
    exact ⟨g, e, k1, k2.only ho (by omega)⟩
  · rw [upd_ne (by decide), upd_ne (by decide), if_neg (show ¬ (16 : Nat) = 20 by decide)]
    intro a b
    obtain ⟨g, e, k1, k2⟩ := h.k16 a b
    exact ⟨g, e, k1, k2.only ho (by omega)⟩
  · rw [upd_ne (by decide), upd_ne (by decide), if_neg (show ¬ (9 : Nat) = 20 by decide), if_neg (show ¬ (17 : Nat) = 20 by decide)]
    obtain ⟨kc, h1, h2, h3, h4, lc, h5, h6, h7, h8, h9⟩ := h.kc
    exact ⟨kc, h1, h2, h3.only ho (fun b e k => by have := (h3.ge e).1; omega), h4, lc, h5, h6, h7.only ho (fun b e k => by have := (h7.ge e).1; omega), h8, h9⟩
  · rw [upd_self, upd_ne (by decide), if_neg (show ¬ (9 : Nat) = 20 by decide), if_neg (show ¬ (17 : Nat) = 20 by decide), if_pos rfl]
    exact (h.own.set (u 9)).congr (VL3_1 _ _ _ _)
theorem RPt.s23 (h : RPt w B rb most n kv lv K K' NK Lx L' NL done u W) (hlt : ∀ b, RkO rb kv lv b → b < w.heap.size) (hrB : rb < B) : RPt w B rb most n kv lv K K' NK Lx L' NL (upd done 23) (fun j => if j = 23 then v else u j) (W.setCell ⟨rb, 2, none⟩ (u 17)) := by
  have ho := Y.set_only W rb 2 (u 17)
  have hr := hlt rb (.inl rfl)
  refine ⟨h.o.step2 ho (fun r e => .inl (.inl e)), ?_, ?_, ?_, ?_⟩
  · rw [upd_ne (by decide), upd_ne (by decide), if_neg (show ¬ (8 : Nat) = 23 by decide)]
    intro a b
    obtain ⟨g, e, k1, k2⟩ := h.k8 a b
    exact ⟨g, e, k1, k2.only ho (by omega)⟩
  · rw [upd_ne (by decide), upd_ne (by decide), if_neg (show ¬ (16 : Nat) = 23 by decide)]
    intro a b
    obtain ⟨g, e, k1, k2⟩ := h.k16 a b
    exact ⟨g, e, k1, k2.only ho (by omega)⟩
  · rw [upd_ne (by decide), upd_ne (by decide), if_neg (show ¬ (9 : Nat) = 23 by decide), if_neg (show ¬ (17 : Nat) = 23 by decide)]
    obtain ⟨kc, h1, h2, h3, h4, lc, h5, h6, h7, h8, h9⟩ := h.kc
    exact ⟨kc, h1, h2, h3.only ho (fun b e k => by have := (h3.ge e).1; omega), h4, lc, h5, h6, h7.only ho (fun b e k => by have := (h7.ge e).1; omega), h8, h9⟩
  · rw [upd_self, upd_ne (by decide), if_neg (show ¬ (9 : Nat) = 23 by decide), if_neg (show ¬ (17 : Nat) = 23 by decide), if_pos rfl]
    exact (h.own.set (u 17)).congr (VL3_2 _ _ _ _)
end
end
end Go.Proofs.Ytodedneanlekdaa
