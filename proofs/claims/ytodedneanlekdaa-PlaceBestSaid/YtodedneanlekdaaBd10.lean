/- Several texts of this claim in one file. (1) Contract: slices.Insert of one element. (2) Contracts: comparing rows of numbers. -/
import Derived.Test.YtodedneanlekdaaBd9
import Derived.Test.YtodedneanlekdaaBd8
namespace Go.Proofs.Ytodedneanlekdaa
set_option linter.unusedSimpArgs false
set_option linter.unusedVariables false
section
open Go.RowKit

theorem siz92i : (Try.prog.info? 92).map (·.size) = some 2 := by kernel_rfl
theorem siz34i : (Try.prog.info? 34).map (·.size) = some 1 := by kernel_rfl
theorem run130 (args : Array Value) (w : World) : (callFunc 130 args).run Try.prog w = ((Extern.SlicesOverlaps.overlaps #[89, 89] #[4] args).run Try.prog w).andThen fun v w' => .ok (.value v) w' :=
  run_callFunc_extern Try.func130 (by kernel_rfl) (by kernel_rfl) (by kernel_rfl) (e := Extern.SlicesOverlaps.overlaps #[89, 89] #[4]) (by kernel_rfl) args w
theorem run132 (args : Array Value) (w : World) : (callFunc 132 args).run Try.prog w = ((Extern.SlicesOverlaps.overlaps #[38, 38] #[4] args).run Try.prog w).andThen fun v w' => .ok (.value v) w' :=
  run_callFunc_extern Try.func132 (by kernel_rfl) (by kernel_rfl) (by kernel_rfl) (e := Extern.SlicesOverlaps.overlaps #[38, 38] #[4]) (by kernel_rfl) args w
set_option maxRecDepth 100000 in
set_option maxHeartbeats 1000000 in
theorem ins116_end (B vb : Nat) (a : Option Addr) (n c : Nat) (xs N : List Value) (w : World) (hO : OwnR w B 92 2 (.slice a n c) n xs) (hn : n ≤ 100000) (hnc : n ≤ c) (hV0 : HpR w vb N 92) (hNl : N.length = 2) (hN1 : (N.all fun v => v.oneCell') = true) (hB : B ≤ w.heap.size) :
  Calls Try.prog 116 #[.slice a n c, Vi n, .slice (some ⟨vb, 0, none⟩) 1 1] w fun e w' => ∃ v', e = .returned v' ∧ OwnR w' B 92 2 v' (n + 1) (xs ++ N) ∧ Only (fun x => (Value.slice a n c).ownBlock = some x) w w' ∧ (v'.ownBlock = (Value.slice a n c).ownBlock ∨ ∃ x, v'.ownBlock = some x ∧ w.heap.size ≤ x) := by
 have G := Gr.refl w
 have hV := hV0
 refine Y.calls 95 Try.func116 rfl rfl ?_
 intro ac F0
 have F : Fr ac 95 [(0, .slice a n c), (1, Vi n), (2, .slice (some ⟨vb, 0, none⟩) 1 1)] := F0.sub _
 clear F0
 refine Y.seq ?_
 refine Y.lit (by kernel_rfl) ?_
 refine Y.pv F (X.assign rfl (X.kc (.slice none 0 0) rfl)) ?_;clear F ac;intro ac F
 refine Y.nil ?_
 replace F : Fr ac 95 [(0, .slice a n c), (1, Vi n), (2, .slice (some ⟨vb, 0, none⟩) 1 1)] := F.sub _
 refine X.thenN ?_
 refine Y.seq ?_
 refine Y.lit (by kernel_rfl) ?_
 refine Y.pv F (X.move rfl (F.ev 0 (.slice a n c))) ?_;clear F ac;intro ac F
 refine Y.pv F (X.move rfl (F.ev 1 (Vi n))) ?_;clear F ac;intro ac F
 refine Y.pv F (Y.slL (i := n) rfl (F.ev 10 (.slice a n c)) (F.ev 11 (Vi n)) Try.underlying89 (Try.siz92 _) rfl (by omega) (by omega)) ?_;clear F ac;intro ac F
 refine Y.nil ?_
 replace F : Fr ac 95 [(0, .slice a n c), (1, Vi n), (2, .slice (some ⟨vb, 0, none⟩) 1 1)] := F.sub _
 refine X.thenN ?_
 refine Y.seq ?_
 refine Y.lit (by kernel_rfl) ?_
 refine Y.pv F (X.move rfl (F.ev 2 (.slice (some ⟨vb, 0, none⟩) 1 1))) ?_;clear F ac;intro ac F
 refine Y.pv F (X.len1 Try.underlying89 rfl (F.ev 13 (.slice (some ⟨vb, 0, none⟩) 1 1))) ?_;clear F ac;intro ac F
 refine Y.pv F (X.assign rfl (F.ev 14 (Vi 1))) ?_;clear F ac;intro ac F
 refine Y.nil ?_
 replace F : Fr ac 95 [(0, .slice a n c), (1, Vi n), (2, .slice (some ⟨vb, 0, none⟩) 1 1), (7, Vi 1)] := F.sub _
 refine X.thenN ?_
 refine Y.seq ?_
 refine Y.seq ?_
 refine Y.lit (by kernel_rfl) ?_
 refine Y.pv F (X.move rfl (F.ev 7 (Vi 1))) ?_;clear F ac;intro ac F
 refine Y.pval F (X.w0 rfl) rfl (X.binop rfl (F.ev 15 (Vi 1)) (X.kc (Vi 0) rfl) (X.eqlI Try.underlying3 (show ((1 : Int) == 0) = false by simp))) ?_;clear F ac;intro ac F
 refine Y.nil ?_
 replace F : Fr ac 95 [(0, .slice a n c), (1, Vi n), (2, .slice (some ⟨vb, 0, none⟩) 1 1), (7, Vi 1), (16, .bool false)] := F.sub _
 refine X.thenN ?_
 refine Y.condF (F.ev 16 (.bool false)) ?_
 refine Y.skip ?_
 refine X.thenN ?_
 refine Y.seq ?_
 refine Y.lit (by kernel_rfl) ?_
 refine Y.pv F (X.move rfl (F.ev 0 (.slice a n c))) ?_;clear F ac;intro ac F
 refine Y.pv F (X.len1 Try.underlying89 rfl (F.ev 18 (.slice a n c))) ?_;clear F ac;intro ac F
 refine Y.pv F (X.assign rfl (F.ev 19 (Vi n))) ?_;clear F ac;intro ac F
 refine Y.nil ?_
 replace F : Fr ac 95 [(0, .slice a n c), (1, Vi n), (2, .slice (some ⟨vb, 0, none⟩) 1 1), (7, Vi 1), (8, Vi n)] := F.sub _
 refine X.thenN ?_
 refine Y.seq ?_
 refine Y.seq ?_
 refine Y.lit (by kernel_rfl) ?_
 refine Y.pv F (X.move rfl (F.ev 1 (Vi n))) ?_;clear F ac;intro ac F
 refine Y.pv F (X.move rfl (F.ev 8 (Vi n))) ?_;clear F ac;intro ac F
 refine Y.pval F (X.w0 rfl) rfl (X.binop rfl (F.ev 20 (Vi n)) (F.ev 21 (Vi n)) (X.eqlI Try.underlying3 (show ((n : Int) == n) = true by simp))) ?_;clear F ac;intro ac F
 refine Y.nil ?_
 replace F : Fr ac 95 [(0, .slice a n c), (1, Vi n), (2, .slice (some ⟨vb, 0, none⟩) 1 1), (7, Vi 1), (8, Vi n), (22, .bool true)] := F.sub _
 refine X.thenN ?_
 refine Y.condT (F.ev 22 (.bool true)) ?_
 refine Y.seq ?_
 refine Y.lit (by kernel_rfl) ?_
 refine Y.pv F (X.move rfl (F.ev 0 (.slice a n c))) ?_;clear F ac;intro ac F
 refine Y.pv F (X.move rfl (F.ev 2 (.slice (some ⟨vb, 0, none⟩) 1 1))) ?_;clear F ac;intro ac F
 have hvc := HpR.gr hV G
 have hO2 := OwnR.gr hO G
 have hBW := Nat.le_trans hB G.size
 refine Y.wpL_plain rfl fun _ hK => wp_pushV Try.underlying89 Try.info92 rfl (by decide) rfl (F.ev 23 (.slice a n c)) (F.ev 24 (.slice (some ⟨vb, 0, none⟩) 1 1)) hO2 (m := 1) (news := N) (by omega) (heap_cells hvc (self_get N)) hN1 (by omega) (by decide) hBW (fun v2 w3 hO3 hon hat => hK _ _ ?_)
 refine Y.pput F rfl ?_;clear F ac;intro ac F
 refine Y.pv F (X.assign rfl (F.ev 25 (v2))) ?_;clear F ac;intro ac F
 refine Y.nil ?_
 replace F : Fr ac 95 [(6, v2)] := F.sub _
 refine X.thenN ?_
 refine Y.ret ?_
 refine X.thenR ?_
 exact Y.ret0 (v := v2) F (Y.rs1 F rfl (by kernel_rfl)) ⟨_, rfl, hO3, (G.only _).trans hon, hat.imp (fun z => z) (fun e => ⟨_, e, G.size⟩)⟩
set_option maxRecDepth 100000 in
set_option maxHeartbeats 1000000 in
theorem ins116_grow (B b vb n c i : Nat) (L0 xs N : List Value) (w : World) (hL0 : HpR w b L0 92) (hBb : B ≤ b) (hnc : n ≤ c) (hcm : c ≤ maxLen) (hLl : L0.length = c * 2) (hLx : L0.take (n * 2) = xs) (hxl : xs.length = n * 2) (hx1 : (xs.all fun v => v.oneCell') = true) (hi : i < n) (hn : n ≤ 100000) (hroom : c < n + 1) (hvb : vb ≠ b) (hV0 : HpR w vb N 92) (hNl : N.length = 2) (hN1 : (N.all fun v => v.oneCell') = true) (hB : B ≤ w.heap.size) :
  Calls Try.prog 116 #[.slice (some ⟨b, 0, none⟩) n c, Vi i, .slice (some ⟨vb, 0, none⟩) 1 1] w fun e w' => ∃ v', e = .returned v' ∧ OwnR w' B 92 2 v' (n + 1) (xs.take (i * 2) ++ N ++ xs.drop (i * 2)) ∧ Only (fun x => (Value.slice (some ⟨b, 0, none⟩) n c).ownBlock = some x) w w' ∧ (v'.ownBlock = (Value.slice (some ⟨b, 0, none⟩) n c).ownBlock ∨ ∃ x, v'.ownBlock = some x ∧ w.heap.size ≤ x) := by
 have G := Gr.refl w
 have hL := hL0
 have hV := hV0
 have hbl9 := hL0.lt
 have hvl9 := hV0.lt
 have hvb2 := hvb
 refine Y.calls 95 Try.func116 rfl rfl ?_
 intro ac F0
 have F : Fr ac 95 [(0, .slice (some ⟨b, 0, none⟩) n c), (1, Vi i), (2, .slice (some ⟨vb, 0, none⟩) 1 1)] := F0.sub _
 clear F0
 refine Y.seq ?_
 refine Y.lit (by kernel_rfl) ?_
 refine Y.pv F (X.assign rfl (X.kc (.slice none 0 0) rfl)) ?_;clear F ac;intro ac F
 refine Y.nil ?_
 replace F : Fr ac 95 [(0, .slice (some ⟨b, 0, none⟩) n c), (1, Vi i), (2, .slice (some ⟨vb, 0, none⟩) 1 1)] := F.sub _
 refine X.thenN ?_
 refine Y.seq ?_
 refine Y.lit (by kernel_rfl) ?_
 refine Y.pv F (X.move rfl (F.ev 0 (.slice (some ⟨b, 0, none⟩) n c))) ?_;clear F ac;intro ac F
 refine Y.pv F (X.move rfl (F.ev 1 (Vi i))) ?_;clear F ac;intro ac F
 refine Y.pv F (Y.slL1 (i := i) (q := i * 2) (m := n - i) (r := c - i) rfl (F.ev 10 (.slice (some ⟨b, 0, none⟩) n c)) (F.ev 11 (Vi i)) Try.underlying89 (Try.siz92 _) (by omega) (by omega) (by omega) (by omega) (by omega) (by omega) (by omega)) ?_;clear F ac;intro ac F
 refine Y.nil ?_
 replace F : Fr ac 95 [(0, .slice (some ⟨b, 0, none⟩) n c), (1, Vi i), (2, .slice (some ⟨vb, 0, none⟩) 1 1)] := F.sub _
 refine X.thenN ?_
 refine Y.seq ?_
 refine Y.lit (by kernel_rfl) ?_
 refine Y.pv F (X.move rfl (F.ev 2 (.slice (some ⟨vb, 0, none⟩) 1 1))) ?_;clear F ac;intro ac F
 refine Y.pv F (X.len1 Try.underlying89 rfl (F.ev 13 (.slice (some ⟨vb, 0, none⟩) 1 1))) ?_;clear F ac;intro ac F
 refine Y.pv F (X.assign rfl (F.ev 14 (Vi 1))) ?_;clear F ac;intro ac F
 refine Y.nil ?_
 replace F : Fr ac 95 [(0, .slice (some ⟨b, 0, none⟩) n c), (1, Vi i), (2, .slice (some ⟨vb, 0, none⟩) 1 1), (7, Vi 1)] := F.sub _
 refine X.thenN ?_
 refine Y.seq ?_
 refine Y.seq ?_
 refine Y.lit (by kernel_rfl) ?_
 refine Y.pv F (X.move rfl (F.ev 7 (Vi 1))) ?_;clear F ac;intro ac F
 refine Y.pval F (X.w0 rfl) rfl (X.binop rfl (F.ev 15 (Vi 1)) (X.kc (Vi 0) rfl) (X.eqlI Try.underlying3 (show ((1 : Int) == 0) = false by simp))) ?_;clear F ac;intro ac F
 refine Y.nil ?_
 replace F : Fr ac 95 [(0, .slice (some ⟨b, 0, none⟩) n c), (1, Vi i), (2, .slice (some ⟨vb, 0, none⟩) 1 1), (7, Vi 1), (16, .bool false)] := F.sub _
 refine X.thenN ?_
 refine Y.condF (F.ev 16 (.bool false)) ?_
 refine Y.skip ?_
 refine X.thenN ?_
 refine Y.seq ?_
 refine Y.lit (by kernel_rfl) ?_
 refine Y.pv F (X.move rfl (F.ev 0 (.slice (some ⟨b, 0, none⟩) n c))) ?_;clear F ac;intro ac F
 refine Y.pv F (X.len1 Try.underlying89 rfl (F.ev 18 (.slice (some ⟨b, 0, none⟩) n c))) ?_;clear F ac;intro ac F
 refine Y.pv F (X.assign rfl (F.ev 19 (Vi n))) ?_;clear F ac;intro ac F
 refine Y.nil ?_
 replace F : Fr ac 95 [(0, .slice (some ⟨b, 0, none⟩) n c), (1, Vi i), (2, .slice (some ⟨vb, 0, none⟩) 1 1), (7, Vi 1), (8, Vi n)] := F.sub _
 refine X.thenN ?_
 refine Y.seq ?_
 refine Y.seq ?_
 refine Y.lit (by kernel_rfl) ?_
 refine Y.pv F (X.move rfl (F.ev 1 (Vi i))) ?_;clear F ac;intro ac F
 refine Y.pv F (X.move rfl (F.ev 8 (Vi n))) ?_;clear F ac;intro ac F
 refine Y.pv F (X.binop rfl (F.ev 20 (Vi i)) (F.ev 21 (Vi n)) (X.eqlI Try.underlying3 rfl)) ?_;clear F ac;intro ac F
 refine Y.nil ?_
 replace F : Fr ac 95 [(0, .slice (some ⟨b, 0, none⟩) n c), (1, Vi i), (2, .slice (some ⟨vb, 0, none⟩) 1 1), (7, Vi 1), (8, Vi n), (22, .bool ((i : Int) == n))] := F.sub _
 refine X.thenN ?_
 have h4 : ((i : Int) == n) = false := beq_eq_false_iff_ne.2 (by omega)
 try rw [h4] at F
 refine Y.condF (F.ev 22 (.bool false)) ?_
 refine Y.skip ?_
 refine X.thenN ?_
 refine Y.seq ?_
 refine Y.seq ?_
 refine Y.lit (by kernel_rfl) ?_
 refine Y.pv F (X.move rfl (F.ev 8 (Vi n))) ?_;clear F ac;intro ac F
 refine Y.pv F (X.move rfl (F.ev 7 (Vi 1))) ?_;clear F ac;intro ac F
 refine Y.pv F (X.binop rfl (F.ev 26 (Vi n)) (F.ev 27 (Vi 1)) (X.addI Try.underlying3 rfl (by omega) (by omega))) ?_;clear F ac;intro ac F
 refine Y.pv F (X.move rfl (F.ev 0 (.slice (some ⟨b, 0, none⟩) n c))) ?_;clear F ac;intro ac F
 refine Y.pv F (Y.cap Try.underlying89 rfl (F.ev 29 (.slice (some ⟨b, 0, none⟩) n c))) ?_;clear F ac;intro ac F
 refine Y.pv F (X.binop rfl (F.ev 28 (Vi ((n : Int) + 1))) (F.ev 30 (Vi c)) (X.gtrI Try.underlying3 rfl)) ?_;clear F ac;intro ac F
 refine Y.nil ?_
 replace F : Fr ac 95 [(0, .slice (some ⟨b, 0, none⟩) n c), (1, Vi i), (2, .slice (some ⟨vb, 0, none⟩) 1 1), (7, Vi 1), (8, Vi n), (31, .bool (decide ((c : Int) < ((n : Int) + 1))))] := F.sub _
 refine X.thenN ?_
 have h6 : decide ((c : Int) < ((n : Int) + 1)) = true := decide_eq_true (by omega)
 have h6p : ((c : Int) < ((n : Int) + 1)) := of_decide_eq_true h6
 try rw [h6] at F
 refine Y.condT (F.ev 31 (.bool true)) ?_
 refine Y.seq ?_
 refine Y.lit (by kernel_rfl) ?_
 refine Y.pv F (X.move rfl (F.ev 0 (.slice (some ⟨b, 0, none⟩) n c))) ?_;clear F ac;intro ac F
 refine Y.pv F (X.move rfl (F.ev 1 (Vi i))) ?_;clear F ac;intro ac F
 refine Y.pv F (Y.slH (k := i) rfl (F.ev 32 (.slice (some ⟨b, 0, none⟩) n c)) (F.ev 33 (Vi i)) Try.underlying89 (Try.siz92 _) (by omega) (by omega)) ?_;clear F ac;intro ac F
 refine Y.pv F (X.move rfl (F.ev 8 (Vi n))) ?_;clear F ac;intro ac F
 refine Y.pv F (X.move rfl (F.ev 7 (Vi 1))) ?_;clear F ac;intro ac F
 refine Y.pv F (X.binop rfl (F.ev 35 (Vi n)) (F.ev 36 (Vi 1)) (X.addI Try.underlying3 rfl (by omega) (by omega))) ?_;clear F ac;intro ac F
 refine Y.pv F (X.move rfl (F.ev 1 (Vi i))) ?_;clear F ac;intro ac F
 refine Y.pv F (X.binop rfl (F.ev 37 (Vi ((n : Int) + 1))) (F.ev 38 (Vi i)) (X.subI Try.underlying3 rfl (by omega) (by omega))) ?_;clear F ac;intro ac F
 obtain ⟨w7, cg, Z, hrun, hN, hZl, hnG, hGm, gn⟩ := HpR.grow (P := Try.prog) (t := 89) (tn := 3) (ty := 89) (xs := xs.take (i * 2)) (n := n) (i := i) (c := c) (HpR.gr hL G) Try.underlying89 Try.underlying3 Try.info92 rfl (by decide) (by rw [List.length_take, hxl]; exact Nat.min_eq_left (by omega)) (take_get0 hLx) (by omega) (by omega) (by omega) (by decide)
 have hgs := G.size
 have hbl := hL.lt
 have hvl := hV.lt
 refine Y.pv F (Y.apz rfl (F.ev 34 (.slice (some ⟨b, 0, none⟩) i c)) (F.ev 39 (Vi (((n : Int) + 1 : Int) - i))) hrun) ?_
 clear F ac hrun
 intro ac F
 have g0 := G
 replace G := G.trans gn
 replace hL := hL.gr G
 replace hV := hV.gr G
 clear gn
 refine Y.pv F (X.assign rfl (F.ev 40 (.slice (some ⟨w.heap.size, 0, none⟩) (n + 1) cg))) ?_;clear F ac;intro ac F
 refine Y.nil ?_
 replace F : Fr ac 95 [(0, .slice (some ⟨b, 0, none⟩) n c), (1, Vi i), (2, .slice (some ⟨vb, 0, none⟩) 1 1), (7, Vi 1), (9, .slice (some ⟨w.heap.size, 0, none⟩) (n + 1) cg)] := F.sub _
 refine X.thenN ?_
 refine Y.seq ?_
 refine Y.lit (by kernel_rfl) ?_
 refine Y.pv F (X.move rfl (F.ev 9 (.slice (some ⟨w.heap.size, 0, none⟩) (n + 1) cg))) ?_;clear F ac;intro ac F
 refine Y.pv F (X.move rfl (F.ev 1 (Vi i))) ?_;clear F ac;intro ac F
 refine Y.pv F (Y.slL1 (i := i) (q := i * 2) (m := n + 1 - i) (r := cg - i) rfl (F.ev 41 (.slice (some ⟨w.heap.size, 0, none⟩) (n + 1) cg)) (F.ev 42 (Vi i)) Try.underlying89 (Try.siz92 _) (by omega) (by omega) (by omega) (by omega) (by omega) (by omega) (by omega)) ?_;clear F ac;intro ac F
 refine Y.pv F (X.move rfl (F.ev 2 (.slice (some ⟨vb, 0, none⟩) 1 1))) ?_;clear F ac;intro ac F
 obtain ⟨w8, hrun, hH2, hon⟩ := HpR.copy (P := Try.prog) (dT := 89) (sT := 89) (ty := 3) (k := 2) (o := i * 2) (dLen := n + 1 - i) (dCap := cg - i) (o2 := 0) (sLen := 1) (sCap := 1) (cs := N) hN hV Try.underlying89 siz92i (by rw [hNl, show Nat.min 1 (n + 1 - i) = 1 from Nat.min_eq_left (by omega)]) (self_get N) (by have h8 := hZl; simp only [List.length_append, List.length_take, List.length_drop, hNl, hxl, hLl] at h8 ⊢; omega) hN1
 refine Y.pv F (Y.cpy rfl (F.ev 43 (.slice (some ⟨w.heap.size, i * 2, none⟩) (n + 1 - i) (cg - i))) (F.ev 44 (.slice (some ⟨vb, 0, none⟩) 1 1)) hrun) ?_
 clear F ac hrun
 intro ac F
 replace hL := hL.only hon (by omega)
 replace hV := hV.only hon (by omega)
 replace hN := hH2
 clear hH2
 have hC9 := ((G.only (fun x => x = b)).step hon (.inr (by omega)))
 clear hon
 clear G
 have G := Gr.refl w8
 refine Y.nil ?_
 replace F : Fr ac 95 [(0, .slice (some ⟨b, 0, none⟩) n c), (1, Vi i), (7, Vi 1), (9, .slice (some ⟨w.heap.size, 0, none⟩) (n + 1) cg)] := F.sub _
 refine X.thenN ?_
 refine Y.seq ?_
 refine Y.regionS F [some (.slice (some ⟨w.heap.size, 0, none⟩) (n + 1) cg), some (Vi i), some (Vi 1), some (Vi ((i : Int) + 1)), some (.slice (some ⟨w.heap.size, (i + 1) * 2, none⟩) (n - i) (cg - (i + 1))), some (.slice (some ⟨b, 0, none⟩) n c), some (Vi i), some (.slice (some ⟨b, i * 2, none⟩) (n - i) (c - i)), some (goInt (Nat.min (n - i) (n - i)))] [] 8 (fun _ W => HpR W w.heap.size (((xs.take (i * 2) ++ Z).take (i * 2) ++ N ++ (xs.take (i * 2) ++ Z).drop (i * 2 + N.length)).take ((i + 1) * 2) ++ (xs.drop (i * 2)) ++ ((xs.take (i * 2) ++ Z).take (i * 2) ++ N ++ (xs.take (i * 2) ++ Z).drop (i * 2 + N.length)).drop ((i + 1) * 2 + (xs.drop (i * 2)).length)) 92 ∧ Only (fun x => x = w.heap.size) w8 W) rfl ⟨by kernel_rfl, of_decide_eq_true (by kernel_rfl), by kernel_rfl, by kernel_rfl, by kernel_rfl⟩ (of_decide_eq_true (by kernel_rfl)) ⟨?_, ?_, ?_, ?_, ?_, ?_, ?_, ?_, ?_, trivial⟩ ?_
 ·intro ac done u W Sx hT
  have hs := Sx.no 8 (by kernel_rfl)
  have hR := hT.1 hs
  exact X.vl (X.move rfl (Sx.ev 9 (.slice (some ⟨w.heap.size, 0, none⟩) (n + 1) cg))) (Y.RT.of hs rfl hR.st0)
 ·intro ac done u W Sx hT
  have hs := Sx.no 8 (by kernel_rfl)
  have hR := hT.1 hs
  exact X.vl (X.move rfl (Sx.ev 1 (Vi i))) (Y.RT.of hs rfl hR.st0)
 ·intro ac done u W Sx hT
  have hs := Sx.no 8 (by kernel_rfl)
  have hR := hT.1 hs
  exact X.vl (X.move rfl (Sx.ev 7 (Vi 1))) (Y.RT.of hs rfl hR.st0)
 ·intro ac done u W Sx hT
  have hs := Sx.no 8 (by kernel_rfl)
  have hR := hT.1 hs
  exact X.vl (X.binop rfl (Sx.ev 47 (Vi i)) (Sx.ev 48 (Vi 1)) (X.addI Try.underlying3 rfl (by omega) (by omega))) (Y.RT.of hs rfl hR.st0)
 ·intro ac done u W Sx hT
  have hs := Sx.no 8 (by kernel_rfl)
  have hR := hT.1 hs
  exact X.vl (Y.slL1 (i := i + 1) (q := (i + 1) * 2) (m := n - i) (r := cg - (i + 1)) rfl (Sx.ev 46 (.slice (some ⟨w.heap.size, 0, none⟩) (n + 1) cg)) (Sx.ev 49 (Vi ((i : Int) + 1))) Try.underlying89 (Try.siz92 _) (by omega) (by omega) (by omega) (by omega) (by omega) (by omega) (by omega)) (Y.RT.of hs rfl hR.st0)
 ·intro ac done u W Sx hT
  have hs := Sx.no 8 (by kernel_rfl)
  have hR := hT.1 hs
  exact X.vl (X.move rfl (Sx.ev 0 (.slice (some ⟨b, 0, none⟩) n c))) (Y.RT.of hs rfl hR.st0)
 ·intro ac done u W Sx hT
  have hs := Sx.no 8 (by kernel_rfl)
  have hR := hT.1 hs
  exact X.vl (X.move rfl (Sx.ev 1 (Vi i))) (Y.RT.of hs rfl hR.st0)
 ·intro ac done u W Sx hT
  have hs := Sx.no 8 (by kernel_rfl)
  have hR := hT.1 hs
  exact X.vl (Y.slL1 (i := i) (q := i * 2) (m := n - i) (r := c - i) rfl (Sx.ev 51 (.slice (some ⟨b, 0, none⟩) n c)) (Sx.ev 52 (Vi i)) Try.underlying89 (Try.siz92 _) (by omega) (by omega) (by omega) (by omega) (by omega) (by omega) (by omega)) (Y.RT.of hs rfl hR.st0)
 ·intro ac done u W Sx hT
  have g : Gr w8 W := (hT.1 Sx.nd).1
  obtain ⟨W2, hrun, hH2, hon⟩ := HpR.copy (P := Try.prog) (dT := 89) (sT := 89) (ty := 3) (k := 2) (o := (i + 1) * 2) (dLen := n - i) (dCap := cg - (i + 1)) (o2 := i * 2) (sLen := n - i) (sCap := c - i) (cs := (xs.drop (i * 2))) (hN.gr g) (hL.gr g) Try.underlying89 siz92i (by rw [List.length_drop, hxl, show Nat.min (n - i) (n - i) = n - i from Nat.min_self _]; omega) (take_get hLx) (by have h8 := hZl; simp only [List.length_append, List.length_take, List.length_drop, hNl, hxl, hLl] at h8 ⊢; omega) (drop_all hx1 _)
  exact X.vl (Y.cpy rfl (Sx.ev 50 (.slice (some ⟨w.heap.size, (i + 1) * 2, none⟩) (n - i) (cg - (i + 1)))) (Sx.ev 53 (.slice (some ⟨b, i * 2, none⟩) (n - i) (c - i))) hrun) (Y.RT.fin ⟨hH2, (g.only _).trans hon⟩)
 rintro ac u w9 hs hd hl_ ho ⟨hH2, hon⟩
 replace F : Fr ac 95 [(9, .slice (some ⟨w.heap.size, 0, none⟩) (n + 1) cg)] := X.fr hs hd hl_ _ (by kernel_rfl)
 clear hs hd hl_ ho
 replace hL := hL.only hon (by omega)
 replace hV := hV.only hon (by omega)
 replace hN := hH2
 clear hH2
 replace hC9 := hC9.step hon (.inr (by omega))
 clear hon
 clear G
 have G := Gr.refl w9
 refine X.thenN ?_
 refine Y.seq ?_
 refine Y.lit (by kernel_rfl) ?_
 refine Y.pv F (X.move rfl (F.ev 9 (.slice (some ⟨w.heap.size, 0, none⟩) (n + 1) cg))) ?_;clear F ac;intro ac F
 refine Y.pv F (X.assign rfl (F.ev 55 (.slice (some ⟨w.heap.size, 0, none⟩) (n + 1) cg))) ?_;clear F ac;intro ac F
 refine Y.nil ?_
 replace F : Fr ac 95 [(6, .slice (some ⟨w.heap.size, 0, none⟩) (n + 1) cg)] := F.sub _
 refine X.thenN ?_
 refine Y.ret ?_
 refine X.thenR ?_
 have e9 := ins_new (A := xs.take (i * 2)) (Z := Z) (M := xs.drop (i * 2)) (N := N) (p := i * 2) (k := 2) (m := (n - i) * 2) (by rw [List.length_take, hxl]; exact Nat.min_eq_left (by omega)) hNl (by rw [List.length_drop, hxl]; omega) (by have h8 := hZl; rw [List.length_append, List.length_take, hxl] at h8; omega)
 rw [show i * 2 + 2 = (i + 1) * 2 by omega] at e9
 rw [e9] at hN
 have hlen9 : (xs.take (i * 2) ++ N ++ xs.drop (i * 2) ++ Z.drop (2 + (n - i) * 2)).length = cg * 2 := by have h8 := hZl; simp only [List.length_append, List.length_take, List.length_drop, hNl, hxl] at h8 ⊢; omega
 exact Y.ret0 (v := .slice (some ⟨w.heap.size, 0, none⟩) (n + 1) cg) F (Y.rs1 F rfl (by kernel_rfl)) ⟨_, rfl, ins_own hN (by omega) rfl (by simp only [List.length_append, List.length_take, List.length_drop, hNl, hxl]; omega) hlen9 hnG hGm, hC9.mono (fun x _ e => by subst e; rfl), .inr ⟨_, rfl, hgs⟩⟩
set_option maxRecDepth 100000 in
set_option maxHeartbeats 1000000 in
theorem ins116_shift (B b vb n c i : Nat) (L0 xs N : List Value) (w : World) (hL0 : HpR w b L0 92) (hBb : B ≤ b) (hnc : n ≤ c) (hcm : c ≤ maxLen) (hLl : L0.length = c * 2) (hLx : L0.take (n * 2) = xs) (hxl : xs.length = n * 2) (hx1 : (xs.all fun v => v.oneCell') = true) (hi : i < n) (hn : n ≤ 100000) (hroom : n + 1 ≤ c) (hvb : vb ≠ b) (hV0 : HpR w vb N 92) (hNl : N.length = 2) (hN1 : (N.all fun v => v.oneCell') = true) (hB : B ≤ w.heap.size) :
  Calls Try.prog 116 #[.slice (some ⟨b, 0, none⟩) n c, Vi i, .slice (some ⟨vb, 0, none⟩) 1 1] w fun e w' => ∃ v', e = .returned v' ∧ OwnR w' B 92 2 v' (n + 1) (xs.take (i * 2) ++ N ++ xs.drop (i * 2)) ∧ Only (fun x => (Value.slice (some ⟨b, 0, none⟩) n c).ownBlock = some x) w w' ∧ (v'.ownBlock = (Value.slice (some ⟨b, 0, none⟩) n c).ownBlock ∨ ∃ x, v'.ownBlock = some x ∧ w.heap.size ≤ x) := by
 have G := Gr.refl w
 have hL := hL0
 have hV := hV0
 have hbl9 := hL0.lt
 have hvl9 := hV0.lt
 have hvb2 := hvb
 refine Y.calls 95 Try.func116 rfl rfl ?_
 intro ac F0
 have F : Fr ac 95 [(0, .slice (some ⟨b, 0, none⟩) n c), (1, Vi i), (2, .slice (some ⟨vb, 0, none⟩) 1 1)] := F0.sub _
 clear F0
 refine Y.seq ?_
 refine Y.lit (by kernel_rfl) ?_
 refine Y.pv F (X.assign rfl (X.kc (.slice none 0 0) rfl)) ?_;clear F ac;intro ac F
 refine Y.nil ?_
 replace F : Fr ac 95 [(0, .slice (some ⟨b, 0, none⟩) n c), (1, Vi i), (2, .slice (some ⟨vb, 0, none⟩) 1 1)] := F.sub _
 refine X.thenN ?_
 refine Y.seq ?_
 refine Y.lit (by kernel_rfl) ?_
 refine Y.pv F (X.move rfl (F.ev 0 (.slice (some ⟨b, 0, none⟩) n c))) ?_;clear F ac;intro ac F
 refine Y.pv F (X.move rfl (F.ev 1 (Vi i))) ?_;clear F ac;intro ac F
 refine Y.pv F (Y.slL1 (i := i) (q := i * 2) (m := n - i) (r := c - i) rfl (F.ev 10 (.slice (some ⟨b, 0, none⟩) n c)) (F.ev 11 (Vi i)) Try.underlying89 (Try.siz92 _) (by omega) (by omega) (by omega) (by omega) (by omega) (by omega) (by omega)) ?_;clear F ac;intro ac F
 refine Y.nil ?_
 replace F : Fr ac 95 [(0, .slice (some ⟨b, 0, none⟩) n c), (1, Vi i), (2, .slice (some ⟨vb, 0, none⟩) 1 1)] := F.sub _
 refine X.thenN ?_
 refine Y.seq ?_
 refine Y.lit (by kernel_rfl) ?_
 refine Y.pv F (X.move rfl (F.ev 2 (.slice (some ⟨vb, 0, none⟩) 1 1))) ?_;clear F ac;intro ac F
 refine Y.pv F (X.len1 Try.underlying89 rfl (F.ev 13 (.slice (some ⟨vb, 0, none⟩) 1 1))) ?_;clear F ac;intro ac F
 refine Y.pv F (X.assign rfl (F.ev 14 (Vi 1))) ?_;clear F ac;intro ac F
 refine Y.nil ?_
 replace F : Fr ac 95 [(0, .slice (some ⟨b, 0, none⟩) n c), (1, Vi i), (2, .slice (some ⟨vb, 0, none⟩) 1 1), (7, Vi 1)] := F.sub _
 refine X.thenN ?_
 refine Y.seq ?_
 refine Y.seq ?_
 refine Y.lit (by kernel_rfl) ?_
 refine Y.pv F (X.move rfl (F.ev 7 (Vi 1))) ?_;clear F ac;intro ac F
 refine Y.pval F (X.w0 rfl) rfl (X.binop rfl (F.ev 15 (Vi 1)) (X.kc (Vi 0) rfl) (X.eqlI Try.underlying3 (show ((1 : Int) == 0) = false by simp))) ?_;clear F ac;intro ac F
 refine Y.nil ?_
 replace F : Fr ac 95 [(0, .slice (some ⟨b, 0, none⟩) n c), (1, Vi i), (2, .slice (some ⟨vb, 0, none⟩) 1 1), (7, Vi 1), (16, .bool false)] := F.sub _
 refine X.thenN ?_
 refine Y.condF (F.ev 16 (.bool false)) ?_
 refine Y.skip ?_
 refine X.thenN ?_
 refine Y.seq ?_
 refine Y.lit (by kernel_rfl) ?_
 refine Y.pv F (X.move rfl (F.ev 0 (.slice (some ⟨b, 0, none⟩) n c))) ?_;clear F ac;intro ac F
 refine Y.pv F (X.len1 Try.underlying89 rfl (F.ev 18 (.slice (some ⟨b, 0, none⟩) n c))) ?_;clear F ac;intro ac F
 refine Y.pv F (X.assign rfl (F.ev 19 (Vi n))) ?_;clear F ac;intro ac F
 refine Y.nil ?_
 replace F : Fr ac 95 [(0, .slice (some ⟨b, 0, none⟩) n c), (1, Vi i), (2, .slice (some ⟨vb, 0, none⟩) 1 1), (7, Vi 1), (8, Vi n)] := F.sub _
 refine X.thenN ?_
 refine Y.seq ?_
 refine Y.seq ?_
 refine Y.lit (by kernel_rfl) ?_
 refine Y.pv F (X.move rfl (F.ev 1 (Vi i))) ?_;clear F ac;intro ac F
 refine Y.pv F (X.move rfl (F.ev 8 (Vi n))) ?_;clear F ac;intro ac F
 refine Y.pv F (X.binop rfl (F.ev 20 (Vi i)) (F.ev 21 (Vi n)) (X.eqlI Try.underlying3 rfl)) ?_;clear F ac;intro ac F
 refine Y.nil ?_
 replace F : Fr ac 95 [(0, .slice (some ⟨b, 0, none⟩) n c), (1, Vi i), (2, .slice (some ⟨vb, 0, none⟩) 1 1), (7, Vi 1), (8, Vi n), (22, .bool ((i : Int) == n))] := F.sub _
 refine X.thenN ?_
 have h4 : ((i : Int) == n) = false := beq_eq_false_iff_ne.2 (by omega)
 try rw [h4] at F
 refine Y.condF (F.ev 22 (.bool false)) ?_
 refine Y.skip ?_
 refine X.thenN ?_
 refine Y.seq ?_
 refine Y.seq ?_
 refine Y.lit (by kernel_rfl) ?_
 refine Y.pv F (X.move rfl (F.ev 8 (Vi n))) ?_;clear F ac;intro ac F
 refine Y.pv F (X.move rfl (F.ev 7 (Vi 1))) ?_;clear F ac;intro ac F
 refine Y.pv F (X.binop rfl (F.ev 26 (Vi n)) (F.ev 27 (Vi 1)) (X.addI Try.underlying3 rfl (by omega) (by omega))) ?_;clear F ac;intro ac F
 refine Y.pv F (X.move rfl (F.ev 0 (.slice (some ⟨b, 0, none⟩) n c))) ?_;clear F ac;intro ac F
 refine Y.pv F (Y.cap Try.underlying89 rfl (F.ev 29 (.slice (some ⟨b, 0, none⟩) n c))) ?_;clear F ac;intro ac F
 refine Y.pv F (X.binop rfl (F.ev 28 (Vi ((n : Int) + 1))) (F.ev 30 (Vi c)) (X.gtrI Try.underlying3 rfl)) ?_;clear F ac;intro ac F
 refine Y.nil ?_
 replace F : Fr ac 95 [(0, .slice (some ⟨b, 0, none⟩) n c), (1, Vi i), (2, .slice (some ⟨vb, 0, none⟩) 1 1), (7, Vi 1), (8, Vi n), (31, .bool (decide ((c : Int) < ((n : Int) + 1))))] := F.sub _
 refine X.thenN ?_
 have h6 : decide ((c : Int) < ((n : Int) + 1)) = false := decide_eq_false (by omega)
 have h6p : ¬ ((c : Int) < ((n : Int) + 1)) := of_decide_eq_false h6
 try rw [h6] at F
 refine Y.condF (F.ev 31 (.bool false)) ?_
 refine Y.skip ?_
 refine X.thenN ?_
 refine Y.seq ?_
 refine Y.lit (by kernel_rfl) ?_
 refine Y.pv F (X.move rfl (F.ev 0 (.slice (some ⟨b, 0, none⟩) n c))) ?_;clear F ac;intro ac F
 refine Y.pv F (X.move rfl (F.ev 8 (Vi n))) ?_;clear F ac;intro ac F
 refine Y.pv F (X.move rfl (F.ev 7 (Vi 1))) ?_;clear F ac;intro ac F
 refine Y.pv F (X.binop rfl (F.ev 57 (Vi n)) (F.ev 58 (Vi 1)) (X.addI Try.underlying3 rfl (by omega) (by omega))) ?_;clear F ac;intro ac F
 refine Y.pv F (Y.slH (k := n + 1) rfl (F.ev 56 (.slice (some ⟨b, 0, none⟩) n c)) (F.ev 59 (Vi ((n : Int) + 1))) Try.underlying89 (Try.siz92 _) (by omega) (by omega)) ?_;clear F ac;intro ac F
 refine Y.pv F (X.assign rfl (F.ev 60 (.slice (some ⟨b, 0, none⟩) (n + 1) c))) ?_;clear F ac;intro ac F
 refine Y.nil ?_
 replace F : Fr ac 95 [(0, .slice (some ⟨b, 0, none⟩) (n + 1) c), (1, Vi i), (2, .slice (some ⟨vb, 0, none⟩) 1 1), (7, Vi 1), (8, Vi n)] := F.sub _
 refine X.thenN ?_
 refine Y.seq ?_
 refine Y.seq ?_
 refine Y.lit (by kernel_rfl) ?_
 refine Y.pv F (X.move rfl (F.ev 2 (.slice (some ⟨vb, 0, none⟩) 1 1))) ?_;clear F ac;intro ac F
 refine Y.pv F (X.move rfl (F.ev 0 (.slice (some ⟨b, 0, none⟩) (n + 1) c))) ?_;clear F ac;intro ac F
 refine Y.pv F (X.move rfl (F.ev 1 (Vi i))) ?_;clear F ac;intro ac F
 refine Y.pv F (X.move rfl (F.ev 7 (Vi 1))) ?_;clear F ac;intro ac F
 refine Y.pv F (X.binop rfl (F.ev 63 (Vi i)) (F.ev 64 (Vi 1)) (X.addI Try.underlying3 rfl (by omega) (by omega))) ?_;clear F ac;intro ac F
 refine Y.pv F (Y.slL1 (i := i + 1) (q := (i + 1) * 2) (m := n - i) (r := c - (i + 1)) rfl (F.ev 62 (.slice (some ⟨b, 0, none⟩) (n + 1) c)) (F.ev 65 (Vi ((i : Int) + 1))) Try.underlying89 (Try.siz92 _) (by omega) (by omega) (by omega) (by omega) (by omega) (by omega) (by omega)) ?_;clear F ac;intro ac F
 refine Y.pval F (X.w0 rfl) rfl (Y.ext (v := .slice (some ⟨vb, 0, none⟩) 1 1) (u := .slice (some ⟨b, (i + 1) * 2, none⟩) (n - i) (c - (i + 1))) rfl (F.ev 61 (.slice (some ⟨vb, 0, none⟩) 1 1)) (F.ev 66 (.slice (some ⟨b, (i + 1) * 2, none⟩) (n - i) (c - (i + 1)))) rfl (ovl (fun args => run130 args _) Try.underlying89 Try.siz92 hV hL hvb2 (by rw [hLl]; omega))) ?_;clear F ac;intro ac F
 refine Y.pv F (X.notB rfl (F.ev 67 (.bool false)) rfl) ?_;clear F ac;intro ac F
 refine Y.nil ?_
 replace F : Fr ac 95 [(0, .slice (some ⟨b, 0, none⟩) (n + 1) c), (1, Vi i), (2, .slice (some ⟨vb, 0, none⟩) 1 1), (7, Vi 1), (8, Vi n), (68, .bool true)] := F.sub _
 refine X.thenN ?_
 refine Y.condT (F.ev 68 (.bool true)) ?_
 refine Y.seq ?_
 refine Y.regionS F [some (.slice (some ⟨b, 0, none⟩) (n + 1) c), some (Vi i), some (Vi 1), some (Vi ((i : Int) + 1)), some (.slice (some ⟨b, (i + 1) * 2, none⟩) (n - i) (c - (i + 1))), some (.slice (some ⟨b, 0, none⟩) (n + 1) c), some (Vi i), some (.slice (some ⟨b, i * 2, none⟩) (n + 1 - i) (c - i)), some (goInt (Nat.min (n + 1 - i) (n - i)))] [] 8 (fun _ W => HpR W b (L0.take ((i + 1) * 2) ++ (xs.drop (i * 2)) ++ L0.drop ((i + 1) * 2 + (xs.drop (i * 2)).length)) 92 ∧ Only (fun x => x = b) w W) rfl ⟨by kernel_rfl, of_decide_eq_true (by kernel_rfl), by kernel_rfl, by kernel_rfl, by kernel_rfl⟩ (of_decide_eq_true (by kernel_rfl)) ⟨?_, ?_, ?_, ?_, ?_, ?_, ?_, ?_, ?_, trivial⟩ ?_
 ·intro ac done u W Sx hT
  have hs := Sx.no 8 (by kernel_rfl)
  have hR := hT.1 hs
  exact X.vl (X.move rfl (Sx.ev 0 (.slice (some ⟨b, 0, none⟩) (n + 1) c))) (Y.RT.of hs rfl hR.st0)
 ·intro ac done u W Sx hT
  have hs := Sx.no 8 (by kernel_rfl)
  have hR := hT.1 hs
  exact X.vl (X.move rfl (Sx.ev 1 (Vi i))) (Y.RT.of hs rfl hR.st0)
 ·intro ac done u W Sx hT
  have hs := Sx.no 8 (by kernel_rfl)
  have hR := hT.1 hs
  exact X.vl (X.move rfl (Sx.ev 7 (Vi 1))) (Y.RT.of hs rfl hR.st0)
 ·intro ac done u W Sx hT
  have hs := Sx.no 8 (by kernel_rfl)
  have hR := hT.1 hs
  exact X.vl (X.binop rfl (Sx.ev 70 (Vi i)) (Sx.ev 71 (Vi 1)) (X.addI Try.underlying3 rfl (by omega) (by omega))) (Y.RT.of hs rfl hR.st0)
 ·intro ac done u W Sx hT
  have hs := Sx.no 8 (by kernel_rfl)
  have hR := hT.1 hs
  exact X.vl (Y.slL1 (i := i + 1) (q := (i + 1) * 2) (m := n - i) (r := c - (i + 1)) rfl (Sx.ev 69 (.slice (some ⟨b, 0, none⟩) (n + 1) c)) (Sx.ev 72 (Vi ((i : Int) + 1))) Try.underlying89 (Try.siz92 _) (by omega) (by omega) (by omega) (by omega) (by omega) (by omega) (by omega)) (Y.RT.of hs rfl hR.st0)
 ·intro ac done u W Sx hT
  have hs := Sx.no 8 (by kernel_rfl)
  have hR := hT.1 hs
  exact X.vl (X.move rfl (Sx.ev 0 (.slice (some ⟨b, 0, none⟩) (n + 1) c))) (Y.RT.of hs rfl hR.st0)
 ·intro ac done u W Sx hT
  have hs := Sx.no 8 (by kernel_rfl)
  have hR := hT.1 hs
  exact X.vl (X.move rfl (Sx.ev 1 (Vi i))) (Y.RT.of hs rfl hR.st0)
 ·intro ac done u W Sx hT
  have hs := Sx.no 8 (by kernel_rfl)
  have hR := hT.1 hs
  exact X.vl (Y.slL1 (i := i) (q := i * 2) (m := n + 1 - i) (r := c - i) rfl (Sx.ev 74 (.slice (some ⟨b, 0, none⟩) (n + 1) c)) (Sx.ev 75 (Vi i)) Try.underlying89 (Try.siz92 _) (by omega) (by omega) (by omega) (by omega) (by omega) (by omega) (by omega)) (Y.RT.of hs rfl hR.st0)
 ·intro ac done u W Sx hT
  have g : Gr w W := (hT.1 Sx.nd).1
  obtain ⟨W2, hrun, hH2, hon⟩ := HpR.copy (P := Try.prog) (dT := 89) (sT := 89) (ty := 3) (k := 2) (o := (i + 1) * 2) (dLen := n - i) (dCap := c - (i + 1)) (o2 := i * 2) (sLen := n + 1 - i) (sCap := c - i) (cs := (xs.drop (i * 2))) (hL.gr g) (hL.gr g) Try.underlying89 siz92i (by rw [List.length_drop, hxl, show Nat.min (n + 1 - i) (n - i) = n - i from Nat.min_eq_right (by omega)]; omega) (take_get hLx) (by simp only [List.length_append, List.length_take, List.length_drop, hNl, hxl, hLl]; omega) (drop_all hx1 _)
  exact X.vl (Y.cpy rfl (Sx.ev 73 (.slice (some ⟨b, (i + 1) * 2, none⟩) (n - i) (c - (i + 1)))) (Sx.ev 76 (.slice (some ⟨b, i * 2, none⟩) (n + 1 - i) (c - i))) hrun) (Y.RT.fin ⟨hH2, (g.only _).trans hon⟩)
 rintro ac u w7 hs hd hl_ ho ⟨hH2, hon⟩
 replace F : Fr ac 95 [(0, .slice (some ⟨b, 0, none⟩) (n + 1) c), (1, Vi i), (2, .slice (some ⟨vb, 0, none⟩) 1 1)] := X.fr hs hd hl_ _ (by kernel_rfl)
 clear hs hd hl_ ho
 replace hL := hH2
 replace hV := hV.only hon (by omega)
 clear hH2
 have hC9 := ((G.only (fun x => x = b)).step hon (.inl rfl))
 clear hon
 clear G
 have G := Gr.refl w7
 refine X.thenN ?_
 refine Y.seq ?_
 refine Y.lit (by kernel_rfl) ?_
 refine Y.pv F (X.move rfl (F.ev 0 (.slice (some ⟨b, 0, none⟩) (n + 1) c))) ?_;clear F ac;intro ac F
 refine Y.pv F (X.move rfl (F.ev 1 (Vi i))) ?_;clear F ac;intro ac F
 refine Y.pv F (Y.slL1 (i := i) (q := i * 2) (m := n + 1 - i) (r := c - i) rfl (F.ev 78 (.slice (some ⟨b, 0, none⟩) (n + 1) c)) (F.ev 79 (Vi i)) Try.underlying89 (Try.siz92 _) (by omega) (by omega) (by omega) (by omega) (by omega) (by omega) (by omega)) ?_;clear F ac;intro ac F
 refine Y.pv F (X.move rfl (F.ev 2 (.slice (some ⟨vb, 0, none⟩) 1 1))) ?_;clear F ac;intro ac F
 obtain ⟨w8, hrun, hH2, hon⟩ := HpR.copy (P := Try.prog) (dT := 89) (sT := 89) (ty := 3) (k := 2) (o := i * 2) (dLen := n + 1 - i) (dCap := c - i) (o2 := 0) (sLen := 1) (sCap := 1) (cs := N) hL hV Try.underlying89 siz92i (by rw [hNl, show Nat.min 1 (n + 1 - i) = 1 from Nat.min_eq_left (by omega)]) (self_get N) (by simp only [List.length_append, List.length_take, List.length_drop, hNl, hxl, hLl]; omega) hN1
 refine Y.pv F (Y.cpy rfl (F.ev 80 (.slice (some ⟨b, i * 2, none⟩) (n + 1 - i) (c - i))) (F.ev 81 (.slice (some ⟨vb, 0, none⟩) 1 1)) hrun) ?_
 clear F ac hrun
 intro ac F
 replace hL := hH2
 replace hV := hV.only hon (by omega)
 clear hH2
 replace hC9 := hC9.step hon (.inl rfl)
 clear hon
 clear G
 have G := Gr.refl w8
 refine Y.nil ?_
 replace F : Fr ac 95 [(0, .slice (some ⟨b, 0, none⟩) (n + 1) c)] := F.sub _
 refine X.thenN ?_
 refine Y.seq ?_
 refine Y.lit (by kernel_rfl) ?_
 refine Y.pv F (X.move rfl (F.ev 0 (.slice (some ⟨b, 0, none⟩) (n + 1) c))) ?_;clear F ac;intro ac F
 refine Y.pv F (X.assign rfl (F.ev 83 (.slice (some ⟨b, 0, none⟩) (n + 1) c))) ?_;clear F ac;intro ac F
 refine Y.nil ?_
 replace F : Fr ac 95 [(6, .slice (some ⟨b, 0, none⟩) (n + 1) c)] := F.sub _
 refine X.thenN ?_
 refine Y.ret ?_
 refine X.thenR ?_
 have e9 := ins_place (L0 := L0) (M := xs.drop (i * 2)) (R := L0.drop ((i + 1) * 2 + (xs.drop (i * 2)).length)) (N := N) (p := i * 2) (k := 2) hNl (by rw [hLl]; omega)
 rw [show i * 2 + 2 = (i + 1) * 2 by omega] at e9
 have e8 : L0.take (i * 2) = xs.take (i * 2) := by rw [← hLx, List.take_take, Nat.min_eq_left (by omega)]
 rw [e9, e8] at hL
 have hlen9 : (xs.take (i * 2) ++ N ++ xs.drop (i * 2) ++ L0.drop ((i + 1) * 2 + (xs.drop (i * 2)).length)).length = c * 2 := by simp only [List.length_append, List.length_take, List.length_drop, hNl, hxl, hLl]; omega
 exact Y.ret0 (v := .slice (some ⟨b, 0, none⟩) (n + 1) c) F (Y.rs1 F rfl (by kernel_rfl)) ⟨_, rfl, ins_own hL hBb rfl (by simp only [List.length_append, List.length_take, List.length_drop, hNl, hxl]; omega) hlen9 (by omega) hcm, hC9.mono (fun x _ e => by subst e; rfl), .inl rfl⟩
theorem ins116_any (B vb n i : Nat) (v : Value) (xs N : List Value) (w : World) (hO : OwnR w B 92 2 v n xs) (hx1 : (xs.all fun v => v.oneCell') = true) (hi : i ≤ n) (hn : n ≤ 100000) (hvb : v.ownBlock ≠ some vb) (hV0 : HpR w vb N 92) (hNl : N.length = 2) (hN1 : (N.all fun v => v.oneCell') = true) (hB : B ≤ w.heap.size) :
  Calls Try.prog 116 #[v, Vi i, .slice (some ⟨vb, 0, none⟩) 1 1] w fun e w' => ∃ v', e = .returned v' ∧ OwnR w' B 92 2 v' (n + 1) (xs.take (i * 2) ++ N ++ xs.drop (i * 2)) ∧ Only (fun x => v.ownBlock = some x) w w' ∧ (v'.ownBlock = v.ownBlock ∨ ∃ x, v'.ownBlock = some x ∧ w.heap.size ≤ x) := by
 have hxl := hO.len
 by_cases h : i = n
 ·subst h
  have e1 : xs.take (i * 2) ++ N ++ xs.drop (i * 2) = xs ++ N := by rw [← hxl, List.take_length, List.drop_length, List.append_nil]
  rw [e1]
  rcases hO.shape with ⟨rfl, rfl⟩ | ⟨g, c, rfl, h1, h2⟩
  ·exact ins116_end B vb none 0 0 xs N w hO hn (Nat.le_refl _) hV0 hNl hN1 hB
  ·have hnc : i ≤ c := by
    rcases Nat.eq_zero_or_pos i with h3 | h3
    ·omega
    ·obtain ⟨_, _, _, _, _, h4, _⟩ := hO.row h3; exact h4
   exact ins116_end B vb (some ⟨g, 0, none⟩) i c xs N w hO hn hnc hV0 hNl hN1 hB
 ·have h0 : i < n := by omega
  rcases hO.shape with ⟨_, h3⟩ | ⟨g, c, rfl, h1, h2⟩
  ·omega
  ·obtain ⟨g', L, e, hBb, hL, hnc, hcm, hLl, hLx⟩ := hO.row (by omega)
   injection e with e
   injection e with e
   subst e
   have hne : vb ≠ g := fun e => hvb (by rw [e]; rfl)
   by_cases hr : c < n + 1
   ·exact ins116_grow B g vb n c i L xs N w hL hBb hnc hcm hLl hLx hxl hx1 h0 hn hr hne hV0 hNl hN1 hB
   ·exact ins116_shift B g vb n c i L xs N w hL hBb hnc hcm hLl hLx hxl hx1 h0 hn (by omega) hne hV0 hNl hN1 hB
set_option maxRecDepth 100000 in
set_option maxHeartbeats 1000000 in
theorem ins117_end (B vb : Nat) (a : Option Addr) (n c : Nat) (xs N : List Value) (w : World) (hO : OwnR w B 34 1 (.slice a n c) n xs) (hn : n ≤ 100000) (hnc : n ≤ c) (hV0 : HpR w vb N 34) (hNl : N.length = 1) (hN1 : (N.all fun v => v.oneCell') = true) (hB : B ≤ w.heap.size) :
  Calls Try.prog 117 #[.slice a n c, Vi n, .slice (some ⟨vb, 0, none⟩) 1 1] w fun e w' => ∃ v', e = .returned v' ∧ OwnR w' B 34 1 v' (n + 1) (xs ++ N) ∧ Only (fun x => (Value.slice a n c).ownBlock = some x) w w' ∧ (v'.ownBlock = (Value.slice a n c).ownBlock ∨ ∃ x, v'.ownBlock = some x ∧ w.heap.size ≤ x) := by
 have G := Gr.refl w
 have hV := hV0
 refine Y.calls 95 Try.func117 rfl rfl ?_
 intro ac F0
 have F : Fr ac 95 [(0, .slice a n c), (1, Vi n), (2, .slice (some ⟨vb, 0, none⟩) 1 1)] := F0.sub _
 clear F0
 refine Y.seq ?_
 refine Y.lit (by kernel_rfl) ?_
 refine Y.pv F (X.assign rfl (X.kc (.slice none 0 0) rfl)) ?_;clear F ac;intro ac F
 refine Y.nil ?_
 replace F : Fr ac 95 [(0, .slice a n c), (1, Vi n), (2, .slice (some ⟨vb, 0, none⟩) 1 1)] := F.sub _
 refine X.thenN ?_
 refine Y.seq ?_
 refine Y.lit (by kernel_rfl) ?_
 refine Y.pv F (X.move rfl (F.ev 0 (.slice a n c))) ?_;clear F ac;intro ac F
 refine Y.pv F (X.move rfl (F.ev 1 (Vi n))) ?_;clear F ac;intro ac F
 refine Y.pv F (Y.slL (i := n) rfl (F.ev 10 (.slice a n c)) (F.ev 11 (Vi n)) Try.underlying38 (Try.siz34 _) rfl (by omega) (by omega)) ?_;clear F ac;intro ac F
 refine Y.nil ?_
 replace F : Fr ac 95 [(0, .slice a n c), (1, Vi n), (2, .slice (some ⟨vb, 0, none⟩) 1 1)] := F.sub _
 refine X.thenN ?_
 refine Y.seq ?_
 refine Y.lit (by kernel_rfl) ?_
 refine Y.pv F (X.move rfl (F.ev 2 (.slice (some ⟨vb, 0, none⟩) 1 1))) ?_;clear F ac;intro ac F
 refine Y.pv F (X.len1 Try.underlying38 rfl (F.ev 13 (.slice (some ⟨vb, 0, none⟩) 1 1))) ?_;clear F ac;intro ac F
 refine Y.pv F (X.assign rfl (F.ev 14 (Vi 1))) ?_;clear F ac;intro ac F
 refine Y.nil ?_
 replace F : Fr ac 95 [(0, .slice a n c), (1, Vi n), (2, .slice (some ⟨vb, 0, none⟩) 1 1), (7, Vi 1)] := F.sub _
 refine X.thenN ?_
 refine Y.seq ?_
 refine Y.seq ?_
 refine Y.lit (by kernel_rfl) ?_
 refine Y.pv F (X.move rfl (F.ev 7 (Vi 1))) ?_;clear F ac;intro ac F
 refine Y.pval F (X.w0 rfl) rfl (X.binop rfl (F.ev 15 (Vi 1)) (X.kc (Vi 0) rfl) (X.eqlI Try.underlying3 (show ((1 : Int) == 0) = false by simp))) ?_;clear F ac;intro ac F
 refine Y.nil ?_
 replace F : Fr ac 95 [(0, .slice a n c), (1, Vi n), (2, .slice (some ⟨vb, 0, none⟩) 1 1), (7, Vi 1), (16, .bool false)] := F.sub _
 refine X.thenN ?_
 refine Y.condF (F.ev 16 (.bool false)) ?_
 refine Y.skip ?_
 refine X.thenN ?_
 refine Y.seq ?_
 refine Y.lit (by kernel_rfl) ?_
 refine Y.pv F (X.move rfl (F.ev 0 (.slice a n c))) ?_;clear F ac;intro ac F
 refine Y.pv F (X.len1 Try.underlying38 rfl (F.ev 18 (.slice a n c))) ?_;clear F ac;intro ac F
 refine Y.pv F (X.assign rfl (F.ev 19 (Vi n))) ?_;clear F ac;intro ac F
 refine Y.nil ?_
 replace F : Fr ac 95 [(0, .slice a n c), (1, Vi n), (2, .slice (some ⟨vb, 0, none⟩) 1 1), (7, Vi 1), (8, Vi n)] := F.sub _
 refine X.thenN ?_
 refine Y.seq ?_
 refine Y.seq ?_
 refine Y.lit (by kernel_rfl) ?_
 refine Y.pv F (X.move rfl (F.ev 1 (Vi n))) ?_;clear F ac;intro ac F
 refine Y.pv F (X.move rfl (F.ev 8 (Vi n))) ?_;clear F ac;intro ac F
 refine Y.pval F (X.w0 rfl) rfl (X.binop rfl (F.ev 20 (Vi n)) (F.ev 21 (Vi n)) (X.eqlI Try.underlying3 (show ((n : Int) == n) = true by simp))) ?_;clear F ac;intro ac F
 refine Y.nil ?_
 replace F : Fr ac 95 [(0, .slice a n c), (1, Vi n), (2, .slice (some ⟨vb, 0, none⟩) 1 1), (7, Vi 1), (8, Vi n), (22, .bool true)] := F.sub _
 refine X.thenN ?_
 refine Y.condT (F.ev 22 (.bool true)) ?_
 refine Y.seq ?_
 refine Y.lit (by kernel_rfl) ?_
 refine Y.pv F (X.move rfl (F.ev 0 (.slice a n c))) ?_;clear F ac;intro ac F
 refine Y.pv F (X.move rfl (F.ev 2 (.slice (some ⟨vb, 0, none⟩) 1 1))) ?_;clear F ac;intro ac F
 have hvc := HpR.gr hV G
 have hO2 := OwnR.gr hO G
 have hBW := Nat.le_trans hB G.size
 refine Y.wpL_plain rfl fun _ hK => wp_pushV Try.underlying38 Try.info34 rfl (by decide) rfl (F.ev 23 (.slice a n c)) (F.ev 24 (.slice (some ⟨vb, 0, none⟩) 1 1)) hO2 (m := 1) (news := N) (by omega) (heap_cells hvc (self_get N)) hN1 (by omega) (by decide) hBW (fun v2 w3 hO3 hon hat => hK _ _ ?_)
 refine Y.pput F rfl ?_;clear F ac;intro ac F
 refine Y.pv F (X.assign rfl (F.ev 25 (v2))) ?_;clear F ac;intro ac F
 refine Y.nil ?_
 replace F : Fr ac 95 [(6, v2)] := F.sub _
 refine X.thenN ?_
 refine Y.ret ?_
 refine X.thenR ?_
 exact Y.ret0 (v := v2) F (Y.rs1 F rfl (by kernel_rfl)) ⟨_, rfl, hO3, (G.only _).trans hon, hat.imp (fun z => z) (fun e => ⟨_, e, G.size⟩)⟩
set_option maxRecDepth 100000 in
set_option maxHeartbeats 1000000 in
theorem ins117_grow (B b vb n c i : Nat) (L0 xs N : List Value) (w : World) (hL0 : HpR w b L0 34) (hBb : B ≤ b) (hnc : n ≤ c) (hcm : c ≤ maxLen) (hLl : L0.length = c * 1) (hLx : L0.take (n * 1) = xs) (hxl : xs.length = n * 1) (hx1 : (xs.all fun v => v.oneCell') = true) (hi : i < n) (hn : n ≤ 100000) (hroom : c < n + 1) (hvb : vb ≠ b) (hV0 : HpR w vb N 34) (hNl : N.length = 1) (hN1 : (N.all fun v => v.oneCell') = true) (hB : B ≤ w.heap.size) :
  Calls Try.prog 117 #[.slice (some ⟨b, 0, none⟩) n c, Vi i, .slice (some ⟨vb, 0, none⟩) 1 1] w fun e w' => ∃ v', e = .returned v' ∧ OwnR w' B 34 1 v' (n + 1) (xs.take (i * 1) ++ N ++ xs.drop (i * 1)) ∧ Only (fun x => (Value.slice (some ⟨b, 0, none⟩) n c).ownBlock = some x) w w' ∧ (v'.ownBlock = (Value.slice (some ⟨b, 0, none⟩) n c).ownBlock ∨ ∃ x, v'.ownBlock = some x ∧ w.heap.size ≤ x) := by
 have G := Gr.refl w
 have hL := hL0
 have hV := hV0
 have hbl9 := hL0.lt
 have hvl9 := hV0.lt
 have hvb2 := hvb
 refine Y.calls 95 Try.func117 rfl rfl ?_
 intro ac F0
 have F : Fr ac 95 [(0, .slice (some ⟨b, 0, none⟩) n c), (1, Vi i), (2, .slice (some ⟨vb, 0, none⟩) 1 1)] := F0.sub _
 clear F0
 refine Y.seq ?_
 refine Y.lit (by kernel_rfl) ?_
 refine Y.pv F (X.assign rfl (X.kc (.slice none 0 0) rfl)) ?_;clear F ac;intro ac F
 refine Y.nil ?_
 replace F : Fr ac 95 [(0, .slice (some ⟨b, 0, none⟩) n c), (1, Vi i), (2, .slice (some ⟨vb, 0, none⟩) 1 1)] := F.sub _
 refine X.thenN ?_
 refine Y.seq ?_
 refine Y.lit (by kernel_rfl) ?_
 refine Y.pv F (X.move rfl (F.ev 0 (.slice (some ⟨b, 0, none⟩) n c))) ?_;clear F ac;intro ac F
 refine Y.pv F (X.move rfl (F.ev 1 (Vi i))) ?_;clear F ac;intro ac F
 refine Y.pv F (Y.slL1 (i := i) (q := i * 1) (m := n - i) (r := c - i) rfl (F.ev 10 (.slice (some ⟨b, 0, none⟩) n c)) (F.ev 11 (Vi i)) Try.underlying38 (Try.siz34 _) (by omega) (by omega) (by omega) (by omega) (by omega) (by omega) (by omega)) ?_;clear F ac;intro ac F
 refine Y.nil ?_
 replace F : Fr ac 95 [(0, .slice (some ⟨b, 0, none⟩) n c), (1, Vi i), (2, .slice (some ⟨vb, 0, none⟩) 1 1)] := F.sub _
 refine X.thenN ?_
 refine Y.seq ?_
 refine Y.lit (by kernel_rfl) ?_
 refine Y.pv F (X.move rfl (F.ev 2 (.slice (some ⟨vb, 0, none⟩) 1 1))) ?_;clear F ac;intro ac F
 refine Y.pv F (X.len1 Try.underlying38 rfl (F.ev 13 (.slice (some ⟨vb, 0, none⟩) 1 1))) ?_;clear F ac;intro ac F
 refine Y.pv F (X.assign rfl (F.ev 14 (Vi 1))) ?_;clear F ac;intro ac F
 refine Y.nil ?_
 replace F : Fr ac 95 [(0, .slice (some ⟨b, 0, none⟩) n c), (1, Vi i), (2, .slice (some ⟨vb, 0, none⟩) 1 1), (7, Vi 1)] := F.sub _
 refine X.thenN ?_
 refine Y.seq ?_
 refine Y.seq ?_
 refine Y.lit (by kernel_rfl) ?_
 refine Y.pv F (X.move rfl (F.ev 7 (Vi 1))) ?_;clear F ac;intro ac F
 refine Y.pval F (X.w0 rfl) rfl (X.binop rfl (F.ev 15 (Vi 1)) (X.kc (Vi 0) rfl) (X.eqlI Try.underlying3 (show ((1 : Int) == 0) = false by simp))) ?_;clear F ac;intro ac F
 refine Y.nil ?_
 replace F : Fr ac 95 [(0, .slice (some ⟨b, 0, none⟩) n c), (1, Vi i), (2, .slice (some ⟨vb, 0, none⟩) 1 1), (7, Vi 1), (16, .bool false)] := F.sub _
 refine X.thenN ?_
 refine Y.condF (F.ev 16 (.bool false)) ?_
 refine Y.skip ?_
 refine X.thenN ?_
 refine Y.seq ?_
 refine Y.lit (by kernel_rfl) ?_
 refine Y.pv F (X.move rfl (F.ev 0 (.slice (some ⟨b, 0, none⟩) n c))) ?_;clear F ac;intro ac F
 refine Y.pv F (X.len1 Try.underlying38 rfl (F.ev 18 (.slice (some ⟨b, 0, none⟩) n c))) ?_;clear F ac;intro ac F
 refine Y.pv F (X.assign rfl (F.ev 19 (Vi n))) ?_;clear F ac;intro ac F
 refine Y.nil ?_
 replace F : Fr ac 95 [(0, .slice (some ⟨b, 0, none⟩) n c), (1, Vi i), (2, .slice (some ⟨vb, 0, none⟩) 1 1), (7, Vi 1), (8, Vi n)] := F.sub _
 refine X.thenN ?_
 refine Y.seq ?_
 refine Y.seq ?_
 refine Y.lit (by kernel_rfl) ?_
 refine Y.pv F (X.move rfl (F.ev 1 (Vi i))) ?_;clear F ac;intro ac F
 refine Y.pv F (X.move rfl (F.ev 8 (Vi n))) ?_;clear F ac;intro ac F
 refine Y.pv F (X.binop rfl (F.ev 20 (Vi i)) (F.ev 21 (Vi n)) (X.eqlI Try.underlying3 rfl)) ?_;clear F ac;intro ac F
 refine Y.nil ?_
 replace F : Fr ac 95 [(0, .slice (some ⟨b, 0, none⟩) n c), (1, Vi i), (2, .slice (some ⟨vb, 0, none⟩) 1 1), (7, Vi 1), (8, Vi n), (22, .bool ((i : Int) == n))] := F.sub _
 refine X.thenN ?_
 have h4 : ((i : Int) == n) = false := beq_eq_false_iff_ne.2 (by omega)
 try rw [h4] at F
 refine Y.condF (F.ev 22 (.bool false)) ?_
 refine Y.skip ?_
 refine X.thenN ?_
 refine Y.seq ?_
 refine Y.seq ?_
 refine Y.lit (by kernel_rfl) ?_
 refine Y.pv F (X.move rfl (F.ev 8 (Vi n))) ?_;clear F ac;intro ac F
 refine Y.pv F (X.move rfl (F.ev 7 (Vi 1))) ?_;clear F ac;intro ac F
 refine Y.pv F (X.binop rfl (F.ev 26 (Vi n)) (F.ev 27 (Vi 1)) (X.addI Try.underlying3 rfl (by omega) (by omega))) ?_;clear F ac;intro ac F
 refine Y.pv F (X.move rfl (F.ev 0 (.slice (some ⟨b, 0, none⟩) n c))) ?_;clear F ac;intro ac F
 refine Y.pv F (Y.cap Try.underlying38 rfl (F.ev 29 (.slice (some ⟨b, 0, none⟩) n c))) ?_;clear F ac;intro ac F
 refine Y.pv F (X.binop rfl (F.ev 28 (Vi ((n : Int) + 1))) (F.ev 30 (Vi c)) (X.gtrI Try.underlying3 rfl)) ?_;clear F ac;intro ac F
 refine Y.nil ?_
 replace F : Fr ac 95 [(0, .slice (some ⟨b, 0, none⟩) n c), (1, Vi i), (2, .slice (some ⟨vb, 0, none⟩) 1 1), (7, Vi 1), (8, Vi n), (31, .bool (decide ((c : Int) < ((n : Int) + 1))))] := F.sub _
 refine X.thenN ?_
 have h6 : decide ((c : Int) < ((n : Int) + 1)) = true := decide_eq_true (by omega)
 have h6p : ((c : Int) < ((n : Int) + 1)) := of_decide_eq_true h6
 try rw [h6] at F
 refine Y.condT (F.ev 31 (.bool true)) ?_
 refine Y.seq ?_
 refine Y.lit (by kernel_rfl) ?_
 refine Y.pv F (X.move rfl (F.ev 0 (.slice (some ⟨b, 0, none⟩) n c))) ?_;clear F ac;intro ac F
 refine Y.pv F (X.move rfl (F.ev 1 (Vi i))) ?_;clear F ac;intro ac F
 refine Y.pv F (Y.slH (k := i) rfl (F.ev 32 (.slice (some ⟨b, 0, none⟩) n c)) (F.ev 33 (Vi i)) Try.underlying38 (Try.siz34 _) (by omega) (by omega)) ?_;clear F ac;intro ac F
 refine Y.pv F (X.move rfl (F.ev 8 (Vi n))) ?_;clear F ac;intro ac F
 refine Y.pv F (X.move rfl (F.ev 7 (Vi 1))) ?_;clear F ac;intro ac F
 refine Y.pv F (X.binop rfl (F.ev 35 (Vi n)) (F.ev 36 (Vi 1)) (X.addI Try.underlying3 rfl (by omega) (by omega))) ?_;clear F ac;intro ac F
 refine Y.pv F (X.move rfl (F.ev 1 (Vi i))) ?_;clear F ac;intro ac F
 refine Y.pv F (X.binop rfl (F.ev 37 (Vi ((n : Int) + 1))) (F.ev 38 (Vi i)) (X.subI Try.underlying3 rfl (by omega) (by omega))) ?_;clear F ac;intro ac F
 obtain ⟨w7, cg, Z, hrun, hN, hZl, hnG, hGm, gn⟩ := HpR.grow (P := Try.prog) (t := 38) (tn := 3) (ty := 38) (xs := xs.take (i * 1)) (n := n) (i := i) (c := c) (HpR.gr hL G) Try.underlying38 Try.underlying3 Try.info34 rfl (by decide) (by rw [List.length_take, hxl]; exact Nat.min_eq_left (by omega)) (take_get0 hLx) (by omega) (by omega) (by omega) (by decide)
 have hgs := G.size
 have hbl := hL.lt
 have hvl := hV.lt
 refine Y.pv F (Y.apz rfl (F.ev 34 (.slice (some ⟨b, 0, none⟩) i c)) (F.ev 39 (Vi (((n : Int) + 1 : Int) - i))) hrun) ?_
 clear F ac hrun
 intro ac F
 have g0 := G
 replace G := G.trans gn
 replace hL := hL.gr G
 replace hV := hV.gr G
 clear gn
 refine Y.pv F (X.assign rfl (F.ev 40 (.slice (some ⟨w.heap.size, 0, none⟩) (n + 1) cg))) ?_;clear F ac;intro ac F
 refine Y.nil ?_
 replace F : Fr ac 95 [(0, .slice (some ⟨b, 0, none⟩) n c), (1, Vi i), (2, .slice (some ⟨vb, 0, none⟩) 1 1), (7, Vi 1), (9, .slice (some ⟨w.heap.size, 0, none⟩) (n + 1) cg)] := F.sub _
 refine X.thenN ?_
 refine Y.seq ?_
 refine Y.lit (by kernel_rfl) ?_
 refine Y.pv F (X.move rfl (F.ev 9 (.slice (some ⟨w.heap.size, 0, none⟩) (n + 1) cg))) ?_;clear F ac;intro ac F
 refine Y.pv F (X.move rfl (F.ev 1 (Vi i))) ?_;clear F ac;intro ac F
 refine Y.pv F (Y.slL1 (i := i) (q := i * 1) (m := n + 1 - i) (r := cg - i) rfl (F.ev 41 (.slice (some ⟨w.heap.size, 0, none⟩) (n + 1) cg)) (F.ev 42 (Vi i)) Try.underlying38 (Try.siz34 _) (by omega) (by omega) (by omega) (by omega) (by omega) (by omega) (by omega)) ?_;clear F ac;intro ac F
 refine Y.pv F (X.move rfl (F.ev 2 (.slice (some ⟨vb, 0, none⟩) 1 1))) ?_;clear F ac;intro ac F
 obtain ⟨w8, hrun, hH2, hon⟩ := HpR.copy (P := Try.prog) (dT := 38) (sT := 38) (ty := 3) (k := 1) (o := i * 1) (dLen := n + 1 - i) (dCap := cg - i) (o2 := 0) (sLen := 1) (sCap := 1) (cs := N) hN hV Try.underlying38 siz34i (by rw [hNl, show Nat.min 1 (n + 1 - i) = 1 from Nat.min_eq_left (by omega)]) (self_get N) (by have h8 := hZl; simp only [List.length_append, List.length_take, List.length_drop, hNl, hxl, hLl] at h8 ⊢; omega) hN1
 refine Y.pv F (Y.cpy rfl (F.ev 43 (.slice (some ⟨w.heap.size, i * 1, none⟩) (n + 1 - i) (cg - i))) (F.ev 44 (.slice (some ⟨vb, 0, none⟩) 1 1)) hrun) ?_
 clear F ac hrun
 intro ac F
 replace hL := hL.only hon (by omega)
 replace hV := hV.only hon (by omega)
 replace hN := hH2
 clear hH2
 have hC9 := ((G.only (fun x => x = b)).step hon (.inr (by omega)))
 clear hon
 clear G
 have G := Gr.refl w8
 refine Y.nil ?_
 replace F : Fr ac 95 [(0, .slice (some ⟨b, 0, none⟩) n c), (1, Vi i), (7, Vi 1), (9, .slice (some ⟨w.heap.size, 0, none⟩) (n + 1) cg)] := F.sub _
 refine X.thenN ?_
 refine Y.seq ?_
 refine Y.regionS F [some (.slice (some ⟨w.heap.size, 0, none⟩) (n + 1) cg), some (Vi i), some (Vi 1), some (Vi ((i : Int) + 1)), some (.slice (some ⟨w.heap.size, (i + 1) * 1, none⟩) (n - i) (cg - (i + 1))), some (.slice (some ⟨b, 0, none⟩) n c), some (Vi i), some (.slice (some ⟨b, i * 1, none⟩) (n - i) (c - i)), some (goInt (Nat.min (n - i) (n - i)))] [] 8 (fun _ W => HpR W w.heap.size (((xs.take (i * 1) ++ Z).take (i * 1) ++ N ++ (xs.take (i * 1) ++ Z).drop (i * 1 + N.length)).take ((i + 1) * 1) ++ (xs.drop (i * 1)) ++ ((xs.take (i * 1) ++ Z).take (i * 1) ++ N ++ (xs.take (i * 1) ++ Z).drop (i * 1 + N.length)).drop ((i + 1) * 1 + (xs.drop (i * 1)).length)) 34 ∧ Only (fun x => x = w.heap.size) w8 W) rfl ⟨by kernel_rfl, of_decide_eq_true (by kernel_rfl), by kernel_rfl, by kernel_rfl, by kernel_rfl⟩ (of_decide_eq_true (by kernel_rfl)) ⟨?_, ?_, ?_, ?_, ?_, ?_, ?_, ?_, ?_, trivial⟩ ?_
 ·intro ac done u W Sx hT
  have hs := Sx.no 8 (by kernel_rfl)
  have hR := hT.1 hs
  exact X.vl (X.move rfl (Sx.ev 9 (.slice (some ⟨w.heap.size, 0, none⟩) (n + 1) cg))) (Y.RT.of hs rfl hR.st0)
 ·intro ac done u W Sx hT
  have hs := Sx.no 8 (by kernel_rfl)
  have hR := hT.1 hs
  exact X.vl (X.move rfl (Sx.ev 1 (Vi i))) (Y.RT.of hs rfl hR.st0)
 ·intro ac done u W Sx hT
  have hs := Sx.no 8 (by kernel_rfl)
  have hR := hT.1 hs
  exact X.vl (X.move rfl (Sx.ev 7 (Vi 1))) (Y.RT.of hs rfl hR.st0)
 ·intro ac done u W Sx hT
  have hs := Sx.no 8 (by kernel_rfl)
  have hR := hT.1 hs
  exact X.vl (X.binop rfl (Sx.ev 47 (Vi i)) (Sx.ev 48 (Vi 1)) (X.addI Try.underlying3 rfl (by omega) (by omega))) (Y.RT.of hs rfl hR.st0)
 ·intro ac done u W Sx hT
  have hs := Sx.no 8 (by kernel_rfl)
  have hR := hT.1 hs
  exact X.vl (Y.slL1 (i := i + 1) (q := (i + 1) * 1) (m := n - i) (r := cg - (i + 1)) rfl (Sx.ev 46 (.slice (some ⟨w.heap.size, 0, none⟩) (n + 1) cg)) (Sx.ev 49 (Vi ((i : Int) + 1))) Try.underlying38 (Try.siz34 _) (by omega) (by omega) (by omega) (by omega) (by omega) (by omega) (by omega)) (Y.RT.of hs rfl hR.st0)
 ·intro ac done u W Sx hT
  have hs := Sx.no 8 (by kernel_rfl)
  have hR := hT.1 hs
  exact X.vl (X.move rfl (Sx.ev 0 (.slice (some ⟨b, 0, none⟩) n c))) (Y.RT.of hs rfl hR.st0)
 ·intro ac done u W Sx hT
  have hs := Sx.no 8 (by kernel_rfl)
  have hR := hT.1 hs
  exact X.vl (X.move rfl (Sx.ev 1 (Vi i))) (Y.RT.of hs rfl hR.st0)
 ·intro ac done u W Sx hT
  have hs := Sx.no 8 (by kernel_rfl)
  have hR := hT.1 hs
  exact X.vl (Y.slL1 (i := i) (q := i * 1) (m := n - i) (r := c - i) rfl (Sx.ev 51 (.slice (some ⟨b, 0, none⟩) n c)) (Sx.ev 52 (Vi i)) Try.underlying38 (Try.siz34 _) (by omega) (by omega) (by omega) (by omega) (by omega) (by omega) (by omega)) (Y.RT.of hs rfl hR.st0)
 ·intro ac done u W Sx hT
  have g : Gr w8 W := (hT.1 Sx.nd).1
  obtain ⟨W2, hrun, hH2, hon⟩ := HpR.copy (P := Try.prog) (dT := 38) (sT := 38) (ty := 3) (k := 1) (o := (i + 1) * 1) (dLen := n - i) (dCap := cg - (i + 1)) (o2 := i * 1) (sLen := n - i) (sCap := c - i) (cs := (xs.drop (i * 1))) (hN.gr g) (hL.gr g) Try.underlying38 siz34i (by rw [List.length_drop, hxl, show Nat.min (n - i) (n - i) = n - i from Nat.min_self _]; omega) (take_get hLx) (by have h8 := hZl; simp only [List.length_append, List.length_take, List.length_drop, hNl, hxl, hLl] at h8 ⊢; omega) (drop_all hx1 _)
  exact X.vl (Y.cpy rfl (Sx.ev 50 (.slice (some ⟨w.heap.size, (i + 1) * 1, none⟩) (n - i) (cg - (i + 1)))) (Sx.ev 53 (.slice (some ⟨b, i * 1, none⟩) (n - i) (c - i))) hrun) (Y.RT.fin ⟨hH2, (g.only _).trans hon⟩)
 rintro ac u w9 hs hd hl_ ho ⟨hH2, hon⟩
 replace F : Fr ac 95 [(9, .slice (some ⟨w.heap.size, 0, none⟩) (n + 1) cg)] := X.fr hs hd hl_ _ (by kernel_rfl)
 clear hs hd hl_ ho
 replace hL := hL.only hon (by omega)
 replace hV := hV.only hon (by omega)
 replace hN := hH2
 clear hH2
 replace hC9 := hC9.step hon (.inr (by omega))
 clear hon
 clear G
 have G := Gr.refl w9
 refine X.thenN ?_
 refine Y.seq ?_
 refine Y.lit (by kernel_rfl) ?_
 refine Y.pv F (X.move rfl (F.ev 9 (.slice (some ⟨w.heap.size, 0, none⟩) (n + 1) cg))) ?_;clear F ac;intro ac F
 refine Y.pv F (X.assign rfl (F.ev 55 (.slice (some ⟨w.heap.size, 0, none⟩) (n + 1) cg))) ?_;clear F ac;intro ac F
 refine Y.nil ?_
 replace F : Fr ac 95 [(6, .slice (some ⟨w.heap.size, 0, none⟩) (n + 1) cg)] := F.sub _
 refine X.thenN ?_
 refine Y.ret ?_
 refine X.thenR ?_
 have e9 := ins_new (A := xs.take (i * 1)) (Z := Z) (M := xs.drop (i * 1)) (N := N) (p := i * 1) (k := 1) (m := (n - i) * 1) (by rw [List.length_take, hxl]; exact Nat.min_eq_left (by omega)) hNl (by rw [List.length_drop, hxl]; omega) (by have h8 := hZl; rw [List.length_append, List.length_take, hxl] at h8; omega)
 rw [show i * 1 + 1 = (i + 1) * 1 by omega] at e9
 rw [e9] at hN
 have hlen9 : (xs.take (i * 1) ++ N ++ xs.drop (i * 1) ++ Z.drop (1 + (n - i) * 1)).length = cg * 1 := by have h8 := hZl; simp only [List.length_append, List.length_take, List.length_drop, hNl, hxl] at h8 ⊢; omega
 exact Y.ret0 (v := .slice (some ⟨w.heap.size, 0, none⟩) (n + 1) cg) F (Y.rs1 F rfl (by kernel_rfl)) ⟨_, rfl, ins_own hN (by omega) rfl (by simp only [List.length_append, List.length_take, List.length_drop, hNl, hxl]; omega) hlen9 hnG hGm, hC9.mono (fun x _ e => by subst e; rfl), .inr ⟨_, rfl, hgs⟩⟩
set_option maxRecDepth 100000 in
set_option maxHeartbeats 1000000 in
theorem ins117_shift (B b vb n c i : Nat) (L0 xs N : List Value) (w : World) (hL0 : HpR w b L0 34) (hBb : B ≤ b) (hnc : n ≤ c) (hcm : c ≤ maxLen) (hLl : L0.length = c * 1) (hLx : L0.take (n * 1) = xs) (hxl : xs.length = n * 1) (hx1 : (xs.all fun v => v.oneCell') = true) (hi : i < n) (hn : n ≤ 100000) (hroom : n + 1 ≤ c) (hvb : vb ≠ b) (hV0 : HpR w vb N 34) (hNl : N.length = 1) (hN1 : (N.all fun v => v.oneCell') = true) (hB : B ≤ w.heap.size) :
  Calls Try.prog 117 #[.slice (some ⟨b, 0, none⟩) n c, Vi i, .slice (some ⟨vb, 0, none⟩) 1 1] w fun e w' => ∃ v', e = .returned v' ∧ OwnR w' B 34 1 v' (n + 1) (xs.take (i * 1) ++ N ++ xs.drop (i * 1)) ∧ Only (fun x => (Value.slice (some ⟨b, 0, none⟩) n c).ownBlock = some x) w w' ∧ (v'.ownBlock = (Value.slice (some ⟨b, 0, none⟩) n c).ownBlock ∨ ∃ x, v'.ownBlock = some x ∧ w.heap.size ≤ x) := by
 have G := Gr.refl w
 have hL := hL0
 have hV := hV0
 have hbl9 := hL0.lt
 have hvl9 := hV0.lt
 have hvb2 := hvb
 refine Y.calls 95 Try.func117 rfl rfl ?_
 intro ac F0
 have F : Fr ac 95 [(0, .slice (some ⟨b, 0, none⟩) n c), (1, Vi i), (2, .slice (some ⟨vb, 0, none⟩) 1 1)] := F0.sub _
 clear F0
 refine Y.seq ?_
 refine Y.lit (by kernel_rfl) ?_
 refine Y.pv F (X.assign rfl (X.kc (.slice none 0 0) rfl)) ?_;clear F ac;intro ac F
 refine Y.nil ?_
 replace F : Fr ac 95 [(0, .slice (some ⟨b, 0, none⟩) n c), (1, Vi i), (2, .slice (some ⟨vb, 0, none⟩) 1 1)] := F.sub _
 refine X.thenN ?_
 refine Y.seq ?_
 refine Y.lit (by kernel_rfl) ?_
 refine Y.pv F (X.move rfl (F.ev 0 (.slice (some ⟨b, 0, none⟩) n c))) ?_;clear F ac;intro ac F
 refine Y.pv F (X.move rfl (F.ev 1 (Vi i))) ?_;clear F ac;intro ac F
 refine Y.pv F (Y.slL1 (i := i) (q := i * 1) (m := n - i) (r := c - i) rfl (F.ev 10 (.slice (some ⟨b, 0, none⟩) n c)) (F.ev 11 (Vi i)) Try.underlying38 (Try.siz34 _) (by omega) (by omega) (by omega) (by omega) (by omega) (by omega) (by omega)) ?_;clear F ac;intro ac F
 refine Y.nil ?_
 replace F : Fr ac 95 [(0, .slice (some ⟨b, 0, none⟩) n c), (1, Vi i), (2, .slice (some ⟨vb, 0, none⟩) 1 1)] := F.sub _
 refine X.thenN ?_
 refine Y.seq ?_
 refine Y.lit (by kernel_rfl) ?_
 refine Y.pv F (X.move rfl (F.ev 2 (.slice (some ⟨vb, 0, none⟩) 1 1))) ?_;clear F ac;intro ac F
 refine Y.pv F (X.len1 Try.underlying38 rfl (F.ev 13 (.slice (some ⟨vb, 0, none⟩) 1 1))) ?_;clear F ac;intro ac F
 refine Y.pv F (X.assign rfl (F.ev 14 (Vi 1))) ?_;clear F ac;intro ac F
 refine Y.nil ?_
 replace F : Fr ac 95 [(0, .slice (some ⟨b, 0, none⟩) n c), (1, Vi i), (2, .slice (some ⟨vb, 0, none⟩) 1 1), (7, Vi 1)] := F.sub _
 refine X.thenN ?_
 refine Y.seq ?_
 refine Y.seq ?_
 refine Y.lit (by kernel_rfl) ?_
 refine Y.pv F (X.move rfl (F.ev 7 (Vi 1))) ?_;clear F ac;intro ac F
 refine Y.pval F (X.w0 rfl) rfl (X.binop rfl (F.ev 15 (Vi 1)) (X.kc (Vi 0) rfl) (X.eqlI Try.underlying3 (show ((1 : Int) == 0) = false by simp))) ?_;clear F ac;intro ac F
 refine Y.nil ?_
 replace F : Fr ac 95 [(0, .slice (some ⟨b, 0, none⟩) n c), (1, Vi i), (2, .slice (some ⟨vb, 0, none⟩) 1 1), (7, Vi 1), (16, .bool false)] := F.sub _
 refine X.thenN ?_
 refine Y.condF (F.ev 16 (.bool false)) ?_
 refine Y.skip ?_
 refine X.thenN ?_
 refine Y.seq ?_
 refine Y.lit (by kernel_rfl) ?_
 refine Y.pv F (X.move rfl (F.ev 0 (.slice (some ⟨b, 0, none⟩) n c))) ?_;clear F ac;intro ac F
 refine Y.pv F (X.len1 Try.underlying38 rfl (F.ev 18 (.slice (some ⟨b, 0, none⟩) n c))) ?_;clear F ac;intro ac F
 refine Y.pv F (X.assign rfl (F.ev 19 (Vi n))) ?_;clear F ac;intro ac F
 refine Y.nil ?_
 replace F : Fr ac 95 [(0, .slice (some ⟨b, 0, none⟩) n c), (1, Vi i), (2, .slice (some ⟨vb, 0, none⟩) 1 1), (7, Vi 1), (8, Vi n)] := F.sub _
 refine X.thenN ?_
 refine Y.seq ?_
 refine Y.seq ?_
 refine Y.lit (by kernel_rfl) ?_
 refine Y.pv F (X.move rfl (F.ev 1 (Vi i))) ?_;clear F ac;intro ac F
 refine Y.pv F (X.move rfl (F.ev 8 (Vi n))) ?_;clear F ac;intro ac F
 refine Y.pv F (X.binop rfl (F.ev 20 (Vi i)) (F.ev 21 (Vi n)) (X.eqlI Try.underlying3 rfl)) ?_;clear F ac;intro ac F
 refine Y.nil ?_
 replace F : Fr ac 95 [(0, .slice (some ⟨b, 0, none⟩) n c), (1, Vi i), (2, .slice (some ⟨vb, 0, none⟩) 1 1), (7, Vi 1), (8, Vi n), (22, .bool ((i : Int) == n))] := F.sub _
 refine X.thenN ?_
 have h4 : ((i : Int) == n) = false := beq_eq_false_iff_ne.2 (by omega)
 try rw [h4] at F
 refine Y.condF (F.ev 22 (.bool false)) ?_
 refine Y.skip ?_
 refine X.thenN ?_
 refine Y.seq ?_
 refine Y.seq ?_
 refine Y.lit (by kernel_rfl) ?_
 refine Y.pv F (X.move rfl (F.ev 8 (Vi n))) ?_;clear F ac;intro ac F
 refine Y.pv F (X.move rfl (F.ev 7 (Vi 1))) ?_;clear F ac;intro ac F
 refine Y.pv F (X.binop rfl (F.ev 26 (Vi n)) (F.ev 27 (Vi 1)) (X.addI Try.underlying3 rfl (by omega) (by omega))) ?_;clear F ac;intro ac F
 refine Y.pv F (X.move rfl (F.ev 0 (.slice (some ⟨b, 0, none⟩) n c))) ?_;clear F ac;intro ac F
 refine Y.pv F (Y.cap Try.underlying38 rfl (F.ev 29 (.slice (some ⟨b, 0, none⟩) n c))) ?_;clear F ac;intro ac F
 refine Y.pv F (X.binop rfl (F.ev 28 (Vi ((n : Int) + 1))) (F.ev 30 (Vi c)) (X.gtrI Try.underlying3 rfl)) ?_;clear F ac;intro ac F
 refine Y.nil ?_
 replace F : Fr ac 95 [(0, .slice (some ⟨b, 0, none⟩) n c), (1, Vi i), (2, .slice (some ⟨vb, 0, none⟩) 1 1), (7, Vi 1), (8, Vi n), (31, .bool (decide ((c : Int) < ((n : Int) + 1))))] := F.sub _
 refine X.thenN ?_
 have h6 : decide ((c : Int) < ((n : Int) + 1)) = false := decide_eq_false (by omega)
 have h6p : ¬ ((c : Int) < ((n : Int) + 1)) := of_decide_eq_false h6
 try rw [h6] at F
 refine Y.condF (F.ev 31 (.bool false)) ?_
 refine Y.skip ?_
 refine X.thenN ?_
 refine Y.seq ?_
 refine Y.lit (by kernel_rfl) ?_
 refine Y.pv F (X.move rfl (F.ev 0 (.slice (some ⟨b, 0, none⟩) n c))) ?_;clear F ac;intro ac F
 refine Y.pv F (X.move rfl (F.ev 8 (Vi n))) ?_;clear F ac;intro ac F
 refine Y.pv F (X.move rfl (F.ev 7 (Vi 1))) ?_;clear F ac;intro ac F
 refine Y.pv F (X.binop rfl (F.ev 57 (Vi n)) (F.ev 58 (Vi 1)) (X.addI Try.underlying3 rfl (by omega) (by omega))) ?_;clear F ac;intro ac F
 refine Y.pv F (Y.slH (k := n + 1) rfl (F.ev 56 (.slice (some ⟨b, 0, none⟩) n c)) (F.ev 59 (Vi ((n : Int) + 1))) Try.underlying38 (Try.siz34 _) (by omega) (by omega)) ?_;clear F ac;intro ac F
 refine Y.pv F (X.assign rfl (F.ev 60 (.slice (some ⟨b, 0, none⟩) (n + 1) c))) ?_;clear F ac;intro ac F
 refine Y.nil ?_
 replace F : Fr ac 95 [(0, .slice (some ⟨b, 0, none⟩) (n + 1) c), (1, Vi i), (2, .slice (some ⟨vb, 0, none⟩) 1 1), (7, Vi 1), (8, Vi n)] := F.sub _
 refine X.thenN ?_
 refine Y.seq ?_
 refine Y.seq ?_
 refine Y.lit (by kernel_rfl) ?_
 refine Y.pv F (X.move rfl (F.ev 2 (.slice (some ⟨vb, 0, none⟩) 1 1))) ?_;clear F ac;intro ac F
 refine Y.pv F (X.move rfl (F.ev 0 (.slice (some ⟨b, 0, none⟩) (n + 1) c))) ?_;clear F ac;intro ac F
 refine Y.pv F (X.move rfl (F.ev 1 (Vi i))) ?_;clear F ac;intro ac F
 refine Y.pv F (X.move rfl (F.ev 7 (Vi 1))) ?_;clear F ac;intro ac F
 refine Y.pv F (X.binop rfl (F.ev 63 (Vi i)) (F.ev 64 (Vi 1)) (X.addI Try.underlying3 rfl (by omega) (by omega))) ?_;clear F ac;intro ac F
 refine Y.pv F (Y.slL1 (i := i + 1) (q := (i + 1) * 1) (m := n - i) (r := c - (i + 1)) rfl (F.ev 62 (.slice (some ⟨b, 0, none⟩) (n + 1) c)) (F.ev 65 (Vi ((i : Int) + 1))) Try.underlying38 (Try.siz34 _) (by omega) (by omega) (by omega) (by omega) (by omega) (by omega) (by omega)) ?_;clear F ac;intro ac F
 refine Y.pval F (X.w0 rfl) rfl (Y.ext (v := .slice (some ⟨vb, 0, none⟩) 1 1) (u := .slice (some ⟨b, (i + 1) * 1, none⟩) (n - i) (c - (i + 1))) rfl (F.ev 61 (.slice (some ⟨vb, 0, none⟩) 1 1)) (F.ev 66 (.slice (some ⟨b, (i + 1) * 1, none⟩) (n - i) (c - (i + 1)))) rfl (ovl (fun args => run132 args _) Try.underlying38 Try.siz34 hV hL hvb2 (by rw [hLl]; omega))) ?_;clear F ac;intro ac F
 refine Y.pv F (X.notB rfl (F.ev 67 (.bool false)) rfl) ?_;clear F ac;intro ac F
 refine Y.nil ?_
 replace F : Fr ac 95 [(0, .slice (some ⟨b, 0, none⟩) (n + 1) c), (1, Vi i), (2, .slice (some ⟨vb, 0, none⟩) 1 1), (7, Vi 1), (8, Vi n), (68, .bool true)] := F.sub _
 refine X.thenN ?_
 refine Y.condT (F.ev 68 (.bool true)) ?_
 refine Y.seq ?_
 refine Y.regionS F [some (.slice (some ⟨b, 0, none⟩) (n + 1) c), some (Vi i), some (Vi 1), some (Vi ((i : Int) + 1)), some (.slice (some ⟨b, (i + 1) * 1, none⟩) (n - i) (c - (i + 1))), some (.slice (some ⟨b, 0, none⟩) (n + 1) c), some (Vi i), some (.slice (some ⟨b, i * 1, none⟩) (n + 1 - i) (c - i)), some (goInt (Nat.min (n + 1 - i) (n - i)))] [] 8 (fun _ W => HpR W b (L0.take ((i + 1) * 1) ++ (xs.drop (i * 1)) ++ L0.drop ((i + 1) * 1 + (xs.drop (i * 1)).length)) 34 ∧ Only (fun x => x = b) w W) rfl ⟨by kernel_rfl, of_decide_eq_true (by kernel_rfl), by kernel_rfl, by kernel_rfl, by kernel_rfl⟩ (of_decide_eq_true (by kernel_rfl)) ⟨?_, ?_, ?_, ?_, ?_, ?_, ?_, ?_, ?_, trivial⟩ ?_
 ·intro ac done u W Sx hT
  have hs := Sx.no 8 (by kernel_rfl)
  have hR := hT.1 hs
  exact X.vl (X.move rfl (Sx.ev 0 (.slice (some ⟨b, 0, none⟩) (n + 1) c))) (Y.RT.of hs rfl hR.st0)
 ·intro ac done u W Sx hT
  have hs := Sx.no 8 (by kernel_rfl)
  have hR := hT.1 hs
  exact X.vl (X.move rfl (Sx.ev 1 (Vi i))) (Y.RT.of hs rfl hR.st0)
 ·intro ac done u W Sx hT
  have hs := Sx.no 8 (by kernel_rfl)
  have hR := hT.1 hs
  exact X.vl (X.move rfl (Sx.ev 7 (Vi 1))) (Y.RT.of hs rfl hR.st0)
 ·intro ac done u W Sx hT
  have hs := Sx.no 8 (by kernel_rfl)
  have hR := hT.1 hs
  exact X.vl (X.binop rfl (Sx.ev 70 (Vi i)) (Sx.ev 71 (Vi 1)) (X.addI Try.underlying3 rfl (by omega) (by omega))) (Y.RT.of hs rfl hR.st0)
 ·intro ac done u W Sx hT
  have hs := Sx.no 8 (by kernel_rfl)
  have hR := hT.1 hs
  exact X.vl (Y.slL1 (i := i + 1) (q := (i + 1) * 1) (m := n - i) (r := c - (i + 1)) rfl (Sx.ev 69 (.slice (some ⟨b, 0, none⟩) (n + 1) c)) (Sx.ev 72 (Vi ((i : Int) + 1))) Try.underlying38 (Try.siz34 _) (by omega) (by omega) (by omega) (by omega) (by omega) (by omega) (by omega)) (Y.RT.of hs rfl hR.st0)
 ·intro ac done u W Sx hT
  have hs := Sx.no 8 (by kernel_rfl)
  have hR := hT.1 hs
  exact X.vl (X.move rfl (Sx.ev 0 (.slice (some ⟨b, 0, none⟩) (n + 1) c))) (Y.RT.of hs rfl hR.st0)
 ·intro ac done u W Sx hT
  have hs := Sx.no 8 (by kernel_rfl)
  have hR := hT.1 hs
  exact X.vl (X.move rfl (Sx.ev 1 (Vi i))) (Y.RT.of hs rfl hR.st0)
 ·intro ac done u W Sx hT
  have hs := Sx.no 8 (by kernel_rfl)
  have hR := hT.1 hs
  exact X.vl (Y.slL1 (i := i) (q := i * 1) (m := n + 1 - i) (r := c - i) rfl (Sx.ev 74 (.slice (some ⟨b, 0, none⟩) (n + 1) c)) (Sx.ev 75 (Vi i)) Try.underlying38 (Try.siz34 _) (by omega) (by omega) (by omega) (by omega) (by omega) (by omega) (by omega)) (Y.RT.of hs rfl hR.st0)
 ·intro ac done u W Sx hT
  have g : Gr w W := (hT.1 Sx.nd).1
  obtain ⟨W2, hrun, hH2, hon⟩ := HpR.copy (P := Try.prog) (dT := 38) (sT := 38) (ty := 3) (k := 1) (o := (i + 1) * 1) (dLen := n - i) (dCap := c - (i + 1)) (o2 := i * 1) (sLen := n + 1 - i) (sCap := c - i) (cs := (xs.drop (i * 1))) (hL.gr g) (hL.gr g) Try.underlying38 siz34i (by rw [List.length_drop, hxl, show Nat.min (n + 1 - i) (n - i) = n - i from Nat.min_eq_right (by omega)]; omega) (take_get hLx) (by simp only [List.length_append, List.length_take, List.length_drop, hNl, hxl, hLl]; omega) (drop_all hx1 _)
  exact X.vl (Y.cpy rfl (Sx.ev 73 (.slice (some ⟨b, (i + 1) * 1, none⟩) (n - i) (c - (i + 1)))) (Sx.ev 76 (.slice (some ⟨b, i * 1, none⟩) (n + 1 - i) (c - i))) hrun) (Y.RT.fin ⟨hH2, (g.only _).trans hon⟩)
 rintro ac u w7 hs hd hl_ ho ⟨hH2, hon⟩
 replace F : Fr ac 95 [(0, .slice (some ⟨b, 0, none⟩) (n + 1) c), (1, Vi i), (2, .slice (some ⟨vb, 0, none⟩) 1 1)] := X.fr hs hd hl_ _ (by kernel_rfl)
 clear hs hd hl_ ho
 replace hL := hH2
 replace hV := hV.only hon (by omega)
 clear hH2
 have hC9 := ((G.only (fun x => x = b)).step hon (.inl rfl))
 clear hon
 clear G
 have G := Gr.refl w7
 refine X.thenN ?_
 refine Y.seq ?_
 refine Y.lit (by kernel_rfl) ?_
 refine Y.pv F (X.move rfl (F.ev 0 (.slice (some ⟨b, 0, none⟩) (n + 1) c))) ?_;clear F ac;intro ac F
 refine Y.pv F (X.move rfl (F.ev 1 (Vi i))) ?_;clear F ac;intro ac F
 refine Y.pv F (Y.slL1 (i := i) (q := i * 1) (m := n + 1 - i) (r := c - i) rfl (F.ev 78 (.slice (some ⟨b, 0, none⟩) (n + 1) c)) (F.ev 79 (Vi i)) Try.underlying38 (Try.siz34 _) (by omega) (by omega) (by omega) (by omega) (by omega) (by omega) (by omega)) ?_;clear F ac;intro ac F
 refine Y.pv F (X.move rfl (F.ev 2 (.slice (some ⟨vb, 0, none⟩) 1 1))) ?_;clear F ac;intro ac F
 obtain ⟨w8, hrun, hH2, hon⟩ := HpR.copy (P := Try.prog) (dT := 38) (sT := 38) (ty := 3) (k := 1) (o := i * 1) (dLen := n + 1 - i) (dCap := c - i) (o2 := 0) (sLen := 1) (sCap := 1) (cs := N) hL hV Try.underlying38 siz34i (by rw [hNl, show Nat.min 1 (n + 1 - i) = 1 from Nat.min_eq_left (by omega)]) (self_get N) (by simp only [List.length_append, List.length_take, List.length_drop, hNl, hxl, hLl]; omega) hN1
 refine Y.pv F (Y.cpy rfl (F.ev 80 (.slice (some ⟨b, i * 1, none⟩) (n + 1 - i) (c - i))) (F.ev 81 (.slice (some ⟨vb, 0, none⟩) 1 1)) hrun) ?_
 clear F ac hrun
 intro ac F
 replace hL := hH2
 replace hV := hV.only hon (by omega)
 clear hH2
 replace hC9 := hC9.step hon (.inl rfl)
 clear hon
 clear G
 have G := Gr.refl w8
 refine Y.nil ?_
 replace F : Fr ac 95 [(0, .slice (some ⟨b, 0, none⟩) (n + 1) c)] := F.sub _
 refine X.thenN ?_
 refine Y.seq ?_
 refine Y.lit (by kernel_rfl) ?_
 refine Y.pv F (X.move rfl (F.ev 0 (.slice (some ⟨b, 0, none⟩) (n + 1) c))) ?_;clear F ac;intro ac F
 refine Y.pv F (X.assign rfl (F.ev 83 (.slice (some ⟨b, 0, none⟩) (n + 1) c))) ?_;clear F ac;intro ac F
 refine Y.nil ?_
 replace F : Fr ac 95 [(6, .slice (some ⟨b, 0, none⟩) (n + 1) c)] := F.sub _
 refine X.thenN ?_
 refine Y.ret ?_
 refine X.thenR ?_
 have e9 := ins_place (L0 := L0) (M := xs.drop (i * 1)) (R := L0.drop ((i + 1) * 1 + (xs.drop (i * 1)).length)) (N := N) (p := i * 1) (k := 1) hNl (by rw [hLl]; omega)
 rw [show i * 1 + 1 = (i + 1) * 1 by omega] at e9
 have e8 : L0.take (i * 1) = xs.take (i * 1) := by rw [← hLx, List.take_take, Nat.min_eq_left (by omega)]
 rw [e9, e8] at hL
 have hlen9 : (xs.take (i * 1) ++ N ++ xs.drop (i * 1) ++ L0.drop ((i + 1) * 1 + (xs.drop (i * 1)).length)).length = c * 1 := by simp only [List.length_append, List.length_take, List.length_drop, hNl, hxl, hLl]; omega
 exact Y.ret0 (v := .slice (some ⟨b, 0, none⟩) (n + 1) c) F (Y.rs1 F rfl (by kernel_rfl)) ⟨_, rfl, ins_own hL hBb rfl (by simp only [List.length_append, List.length_take, List.length_drop, hNl, hxl]; omega) hlen9 (by omega) hcm, hC9.mono (fun x _ e => by subst e; rfl), .inl rfl⟩
theorem ins117_any (B vb n i : Nat) (v : Value) (xs N : List Value) (w : World) (hO : OwnR w B 34 1 v n xs) (hx1 : (xs.all fun v => v.oneCell') = true) (hi : i ≤ n) (hn : n ≤ 100000) (hvb : v.ownBlock ≠ some vb) (hV0 : HpR w vb N 34) (hNl : N.length = 1) (hN1 : (N.all fun v => v.oneCell') = true) (hB : B ≤ w.heap.size) :
  Calls Try.prog 117 #[v, Vi i, .slice (some ⟨vb, 0, none⟩) 1 1] w fun e w' => ∃ v', e = .returned v' ∧ OwnR w' B 34 1 v' (n + 1) (xs.take (i * 1) ++ N ++ xs.drop (i * 1)) ∧ Only (fun x => v.ownBlock = some x) w w' ∧ (v'.ownBlock = v.ownBlock ∨ ∃ x, v'.ownBlock = some x ∧ w.heap.size ≤ x) := by
 have hxl := hO.len
 by_cases h : i = n
 ·subst h
  have e1 : xs.take (i * 1) ++ N ++ xs.drop (i * 1) = xs ++ N := by rw [← hxl, List.take_length, List.drop_length, List.append_nil]
  rw [e1]
  rcases hO.shape with ⟨rfl, rfl⟩ | ⟨g, c, rfl, h1, h2⟩
  ·exact ins117_end B vb none 0 0 xs N w hO hn (Nat.le_refl _) hV0 hNl hN1 hB
  ·have hnc : i ≤ c := by
    rcases Nat.eq_zero_or_pos i with h3 | h3
    ·omega
    ·obtain ⟨_, _, _, _, _, h4, _⟩ := hO.row h3; exact h4
   exact ins117_end B vb (some ⟨g, 0, none⟩) i c xs N w hO hn hnc hV0 hNl hN1 hB
 ·have h0 : i < n := by omega
  rcases hO.shape with ⟨_, h3⟩ | ⟨g, c, rfl, h1, h2⟩
  ·omega
  ·obtain ⟨g', L, e, hBb, hL, hnc, hcm, hLl, hLx⟩ := hO.row (by omega)
   injection e with e
   injection e with e
   subst e
   have hne : vb ≠ g := fun e => hvb (by rw [e]; rfl)
   by_cases hr : c < n + 1
   ·exact ins117_grow B g vb n c i L xs N w hL hBb hnc hcm hLl hLx hxl hx1 h0 hn hr hne hV0 hNl hN1 hB
   ·exact ins117_shift B g vb n c i L xs N w hL hBb hnc hcm hLl hLx hxl hx1 h0 hn (by omega) hne hV0 hNl hN1 hB
end
section
open Go.RowKit

def cmpI (x y : Int) : Int := if x < y then -1 else if y < x then 1 else 0
def cmpL : List Int → List Int → Int
  | [], [] => 0
  | [], _ :: _ => -1
  | _ :: _, [] => 1
  | x :: xs, y :: ys => if cmpI x y = 0 then cmpL xs ys else cmpI x y
theorem drop_cons0 {xs : List Int} {k : Nat} (h : k < xs.length) : xs.drop k = xs[k]?.getD 0 :: xs.drop (k + 1) := by
  rw [List.drop_eq_getElem_cons h]; simp [h]
theorem cmp_1 {xs ys : List Int} {k : Nat} (h : k < xs.length) (h2 : ys.length ≤ k) : cmpL (xs.drop k) (ys.drop k) = 1 := by
  rw [drop_cons0 h, List.drop_eq_nil_of_le h2]; rfl
theorem cmp_ne {xs ys : List Int} {k : Nat} (h : k < xs.length) (h2 : k < ys.length) (h3 : ¬ (cmpI (xs[k]?.getD 0) (ys[k]?.getD 0) : Int) = 0) : cmpL (xs.drop k) (ys.drop k) = cmpI (xs[k]?.getD 0) (ys[k]?.getD 0) := by
  rw [drop_cons0 h, drop_cons0 h2]; simp only [cmpL, if_neg h3]
theorem cmp_eq {xs ys : List Int} {k : Nat} (h : k < xs.length) (h2 : k < ys.length) (h3 : (cmpI (xs[k]?.getD 0) (ys[k]?.getD 0) : Int) = 0) : cmpL (xs.drop k) (ys.drop k) = cmpL (xs.drop (k + 1)) (ys.drop (k + 1)) := by
  rw [drop_cons0 h, drop_cons0 h2]; simp only [cmpL, if_pos h3]
theorem cmp_lt {xs ys : List Int} {k : Nat} (h : k = xs.length) (h2 : k < ys.length) : cmpL (xs.drop k) (ys.drop k) = -1 := by
  rw [drop_cons0 h2, List.drop_eq_nil_of_le (by omega)]; rfl
theorem cmp_0 {xs ys : List Int} {k : Nat} (h : k = xs.length) (h2 : ys.length ≤ k) : cmpL (xs.drop k) (ys.drop k) = 0 := by
  rw [List.drop_eq_nil_of_le h2, List.drop_eq_nil_of_le (by omega)]; rfl
theorem cmp_ltK {a b c d : Int} : decide (cmpL [a, b] [c, d] < 0) = ltK (a, b) (c, d) := by
  unfold ltK cmpL cmpL cmpL cmpI
  by_cases h1 : a < c
  · simp [h1]
  · by_cases h2 : c < a
    · have : ¬ a = c := by omega
      simp [h1, h2, this]
    · have h3 : a = c := by omega
      subst h3
      by_cases h4 : b < d
      · simp [h4]
      · by_cases h5 : d < b
        · simp [h4, h5]
        · simp [h4, h5]
theorem cmp_geK {a b c d : Int} : decide (0 ≤ cmpL [a, b] [c, d]) = !ltK (a, b) (c, d) := by
  rw [← cmp_ltK]
  by_cases h : cmpL [a, b] [c, d] < 0
  · have : ¬ 0 ≤ cmpL [a, b] [c, d] := by omega
    simp [h, this]
  · have : 0 ≤ cmpL [a, b] [c, d] := by omega
    simp [h, this]
set_option maxRecDepth 100000 in
set_option maxHeartbeats 400000 in
theorem nan_any (x : Int) (w : World) :
  Calls Try.prog 129 #[Vi x] w fun e w' => e = .returned (.bool false) ∧ Gr w w' := by
 have G := Gr.refl w
 refine Y.calls 6 Try.func129 rfl rfl ?_
 intro ac F0
 have F : Fr ac 6 [(0, Vi x)] := F0.sub _
 clear F0
 refine Y.seq ?_
 refine Y.lit (by kernel_rfl) ?_
 refine Y.pv F (X.assign rfl (X.kc (.bool false) rfl)) ?_;clear F ac;intro ac F
 refine Y.nil ?_
 replace F : Fr ac 6 [(0, Vi x)] := F.sub _
 refine X.thenN ?_
 refine Y.seq ?_
 refine Y.lit (by kernel_rfl) ?_
 refine Y.pv F (X.move rfl (F.ev 0 (Vi x))) ?_;clear F ac;intro ac F
 refine Y.pv F (X.move rfl (F.ev 0 (Vi x))) ?_;clear F ac;intro ac F
 refine Y.pval F (X.w0 rfl) rfl (X.binop rfl (F.ev 3 (Vi x)) (F.ev 4 (Vi x)) (X.neqI Try.underlying3 (show ((x : Int) != x) = false by simp))) ?_;clear F ac;intro ac F
 refine Y.pv F (X.assign rfl (F.ev 5 (.bool false))) ?_;clear F ac;intro ac F
 refine Y.nil ?_
 replace F : Fr ac 6 [(2, .bool false)] := F.sub _
 refine X.thenN ?_
 refine Y.ret ?_
 exact Y.ret0 (v := .bool false) F (Y.rs1 F rfl (by kernel_rfl)) ⟨rfl, G⟩
set_option maxRecDepth 100000 in
set_option maxHeartbeats 400000 in
theorem compare_any (x y : Int) (w : World) :
  Calls Try.prog 113 #[Vi x, Vi y] w fun e w' => e = .returned (Vi (cmpI x y)) ∧ Gr w w' := by
 have G := Gr.refl w
 refine Y.calls 20 Try.func113 rfl rfl ?_
 intro ac F0
 have F : Fr ac 20 [(0, Vi x), (1, Vi y)] := F0.sub _
 clear F0
 refine Y.seq ?_
 refine Y.lit (by kernel_rfl) ?_
 refine Y.pv F (X.assign rfl (X.kc (Vi 0) rfl)) ?_;clear F ac;intro ac F
 refine Y.nil ?_
 replace F : Fr ac 20 [(0, Vi x), (1, Vi y)] := F.sub _
 refine X.thenN ?_
 refine Y.seq ?_
 refine Y.lit (by kernel_rfl) ?_
 refine Y.pv F (X.move rfl (F.ev 0 (Vi x))) ?_;clear F ac;intro ac F
 refine Y.pcall F (X.w0 rfl) rfl (X.enter (F := 129) rfl (X.kc (.func (.func 129) #[] #[]) rfl) (X.a1 (F.ev 7 (Vi x))) (enters_of Try.func129 (by kernel_rfl) rfl _)) (nan_any x w) ?_
 clear F ac
 rintro e w3 ⟨rfl, g⟩
 refine ⟨_, rfl, ?_⟩
 intro ac F
 replace G := G.trans g
 clear g
 refine Y.pv F (X.assign rfl (F.ev 8 (.bool false))) ?_;clear F ac;intro ac F
 refine Y.nil ?_
 replace F : Fr ac 20 [(0, Vi x), (1, Vi y), (5, .bool false)] := F.sub _
 refine X.thenN ?_
 refine Y.seq ?_
 refine Y.lit (by kernel_rfl) ?_
 refine Y.pv F (X.move rfl (F.ev 1 (Vi y))) ?_;clear F ac;intro ac F
 refine Y.pcall F (X.w0 rfl) rfl (X.enter (F := 129) rfl (X.kc (.func (.func 129) #[] #[]) rfl) (X.a1 (F.ev 9 (Vi y))) (enters_of Try.func129 (by kernel_rfl) rfl _)) (nan_any y w3) ?_
 clear F ac
 rintro e w4 ⟨rfl, g⟩
 refine ⟨_, rfl, ?_⟩
 intro ac F
 replace G := G.trans g
 clear g
 refine Y.pv F (X.assign rfl (F.ev 10 (.bool false))) ?_;clear F ac;intro ac F
 refine Y.nil ?_
 replace F : Fr ac 20 [(0, Vi x), (1, Vi y), (5, .bool false), (6, .bool false)] := F.sub _
 refine X.thenN ?_
 refine Y.seq ?_
 refine Y.seq ?_
 refine Y.lit (by kernel_rfl) ?_
 refine Y.pv F (X.move rfl (F.ev 5 (.bool false))) ?_;clear F ac;intro ac F
 refine Y.nil ?_
 replace F : Fr ac 20 [(0, Vi x), (1, Vi y), (6, .bool false), (11, .bool false)] := F.sub _
 refine X.thenN ?_
 refine Y.condF (F.ev 11 (.bool false)) ?_
 refine Y.skip ?_
 refine X.thenN ?_
 refine Y.seq ?_
 refine Y.seq ?_
 refine Y.lit (by kernel_rfl) ?_
 refine Y.pv F (X.move rfl (F.ev 6 (.bool false))) ?_;clear F ac;intro ac F
 refine Y.nil ?_
 replace F : Fr ac 20 [(0, Vi x), (1, Vi y), (13, .bool false)] := F.sub _
 refine X.thenN ?_
 refine Y.condF (F.ev 13 (.bool false)) ?_
 refine Y.skip ?_
 refine X.thenN ?_
 refine Y.seq ?_
 refine Y.seq ?_
 refine Y.lit (by kernel_rfl) ?_
 refine Y.pv F (X.move rfl (F.ev 0 (Vi x))) ?_;clear F ac;intro ac F
 refine Y.pv F (X.move rfl (F.ev 1 (Vi y))) ?_;clear F ac;intro ac F
 refine Y.pv F (X.binop rfl (F.ev 14 (Vi x)) (F.ev 15 (Vi y)) (X.lssI Try.underlying3 rfl)) ?_;clear F ac;intro ac F
 refine Y.nil ?_
 replace F : Fr ac 20 [(0, Vi x), (1, Vi y), (16, .bool (decide ((x : Int) < y)))] := F.sub _
 refine X.thenN ?_
 cases h5 : decide ((x : Int) < y) with
 | false =>
  try rw [h5] at F
  have h5p : ¬ ((x : Int) < y) := of_decide_eq_false h5
  refine Y.condF (F.ev 16 (.bool false)) ?_
  refine Y.skip ?_
  refine X.thenN ?_
  refine Y.seq ?_
  refine Y.seq ?_
  refine Y.lit (by kernel_rfl) ?_
  refine Y.pv F (X.move rfl (F.ev 0 (Vi x))) ?_;clear F ac;intro ac F
  refine Y.pv F (X.move rfl (F.ev 1 (Vi y))) ?_;clear F ac;intro ac F
  refine Y.pv F (X.binop rfl (F.ev 17 (Vi x)) (F.ev 18 (Vi y)) (X.gtrI Try.underlying3 rfl)) ?_;clear F ac;intro ac F
  refine Y.nil ?_
  replace F : Fr ac 20 [(19, .bool (decide ((y : Int) < x)))] := F.sub _
  refine X.thenN ?_
  cases h6 : decide ((y : Int) < x) with
  | false =>
   try rw [h6] at F
   have h6p : ¬ ((y : Int) < x) := of_decide_eq_false h6
   refine Y.condF (F.ev 19 (.bool false)) ?_
   refine Y.skip ?_
   refine X.thenN ?_
   refine Y.seq ?_
   refine Y.lit (by kernel_rfl) ?_
   refine Y.pv F (X.assign rfl (X.kc (Vi 0) rfl)) ?_;clear F ac;intro ac F
   refine Y.nil ?_
   replace F : Fr ac 20 [(4, Vi 0)] := F.sub _
   refine X.thenN ?_
   refine Y.ret ?_
   exact Y.ret0 (v := Vi 0) F (Y.rs1 F rfl (by kernel_rfl)) ⟨by rw [show cmpI x y = 0 from (if_neg (by omega)).trans (if_neg (by omega))], G⟩
  | true =>
   try rw [h6] at F
   have h6p : ((y : Int) < x) := of_decide_eq_true h6
   refine Y.condT (F.ev 19 (.bool true)) ?_
   refine Y.seq ?_
   refine Y.lit (by kernel_rfl) ?_
   refine Y.pv F (X.assign rfl (X.kc (Vi 1) rfl)) ?_;clear F ac;intro ac F
   refine Y.nil ?_
   replace F : Fr ac 20 [(4, Vi 1)] := F.sub _
   refine X.thenN ?_
   refine Y.ret ?_
   refine X.thenR ?_
   exact Y.ret0 (v := Vi 1) F (Y.rs1 F rfl (by kernel_rfl)) ⟨by rw [show cmpI x y = 1 from (if_neg (by omega)).trans (if_pos (by omega))], G⟩
 | true =>
  try rw [h5] at F
  have h5p : ((x : Int) < y) := of_decide_eq_true h5
  refine Y.condT (F.ev 16 (.bool true)) ?_
  refine Y.seq ?_
  refine Y.lit (by kernel_rfl) ?_
  refine Y.pv F (X.assign rfl (X.kc (Vi (-1)) rfl)) ?_;clear F ac;intro ac F
  refine Y.nil ?_
  replace F : Fr ac 20 [(4, Vi (-1))] := F.sub _
  refine X.thenN ?_
  refine Y.ret ?_
  refine X.thenR ?_
  exact Y.ret0 (v := Vi (-1)) F (Y.rs1 F rfl (by kernel_rfl)) ⟨by rw [show cmpI x y = (-1) from if_pos (by omega)], G⟩
set_option maxRecDepth 100000 in
set_option maxHeartbeats 400000 in
theorem cmpL_any (a b : Option Addr) (c d : Nat) (xs ys : List Int) (w : World) (hX : Ints w a xs.length xs) (hY : Ints w b ys.length ys) :
  Calls Try.prog 90 #[.slice a xs.length c, .slice b ys.length d] w fun e w' => e = .returned (Vi (cmpL xs ys)) ∧ Gr w w' := by
 have G := Gr.refl w
 have hx := hX
 have hy := hY
 have hlx := hX.lt
 have hly := hY.lt
 refine Y.calls 36 Try.func90 rfl rfl ?_
 intro ac F0
 have F : Fr ac 36 [(0, .slice a xs.length c), (1, .slice b ys.length d)] := F0.sub _
 clear F0
 refine Y.seq ?_
 refine Y.lit (by kernel_rfl) ?_
 refine Y.pv F (X.assign rfl (X.kc (Vi 0) rfl)) ?_;clear F ac;intro ac F
 refine Y.nil ?_
 replace F : Fr ac 36 [(0, .slice a xs.length c), (1, .slice b ys.length d)] := F.sub _
 refine X.thenN ?_
 refine Y.seq ?_
 refine Y.seq ?_
 refine Y.lit (by kernel_rfl) ?_
 refine Y.pv F (X.move rfl (F.ev 0 (.slice a xs.length c))) ?_;clear F ac;intro ac F
 refine Y.pv F (X.len1 Try.underlying34 rfl (F.ev 9 (.slice a xs.length c))) ?_;clear F ac;intro ac F
 refine Y.pv F (X.move rfl (X.kc (Vi 0) rfl)) ?_;clear F ac;intro ac F
 refine Y.nil ?_
 replace F : Fr ac 36 [(0, .slice a xs.length c), (1, .slice b ys.length d), (9, .slice a xs.length c), (10, Vi xs.length), (11, Vi 0)] := F.sub _
 refine X.thenN ?_
 refine Y.block ?_
 refine Y.loop (fun me_ ac wr => ∃ (k : Nat), me_ = xs.length - k ∧ Only (fun b => False) w wr ∧ k ≤ xs.length ∧ k ≤ ys.length ∧ cmpL xs ys = cmpL (xs.drop k) (ys.drop k) ∧ Fr ac 36 [(0, .slice a xs.length c), (1, .slice b ys.length d), (9, .slice a xs.length c), (10, Vi xs.length), (11, Vi k)]) _ ⟨0, rfl, Only.refl _ _, Nat.zero_le _, Nat.zero_le _, rfl, F.sub _⟩ ?_
 have hxB1 := hx
 have hyB1 := hy
 have GB1 := G
 clear F ac
 intro me_ ac w3 hI
 obtain ⟨k, rfl, hO1, hk, hm, HC, F⟩ := hI
 replace G := GB1.trans (hO1.gr (fun _ _ h => h))
 replace hx := (hX).gr G
 replace hy := (hY).gr G
 refine Y.seq ?_
 refine Y.lit (by kernel_rfl) ?_
 refine Y.pv F (X.binop rfl (F.ev 11 (Vi k)) (F.ev 10 (Vi xs.length)) (X.lssI Try.underlying3 rfl)) ?_;clear F ac;intro ac F
 refine Y.nil ?_
 replace F : Fr ac 36 [(0, .slice a xs.length c), (1, .slice b ys.length d), (9, .slice a xs.length c), (10, Vi xs.length), (11, Vi k), (12, .bool (decide ((k : Int) < xs.length)))] := F.sub _
 refine X.thenN ?_
 refine Y.seq ?_
 cases h4 : decide ((k : Int) < xs.length) with
 | false =>
  try rw [h4] at F
  have h4p : ¬ ((k : Int) < xs.length) := of_decide_eq_false h4
  have hkn : k = xs.length := by omega
  refine Y.condF (F.ev 12 (.bool false)) ?_
  refine Y.exit ?_
  refine X.thenX ?_
  refine X.thenX ?_
  refine X.blockX ?_
  refine X.thenN ?_
  refine Y.seq ?_
  refine Y.seq ?_
  refine Y.lit (by kernel_rfl) ?_
  refine Y.pv F (X.move rfl (F.ev 0 (.slice a xs.length c))) ?_;clear F ac;intro ac F
  refine Y.pv F (X.len1 Try.underlying34 rfl (F.ev 31 (.slice a xs.length c))) ?_;clear F ac;intro ac F
  refine Y.pv F (X.move rfl (F.ev 1 (.slice b ys.length d))) ?_;clear F ac;intro ac F
  refine Y.pv F (X.len1 Try.underlying34 rfl (F.ev 33 (.slice b ys.length d))) ?_;clear F ac;intro ac F
  refine Y.pv F (X.binop rfl (F.ev 32 (Vi xs.length)) (F.ev 34 (Vi ys.length)) (X.lssI Try.underlying3 rfl)) ?_;clear F ac;intro ac F
  refine Y.nil ?_
  replace F : Fr ac 36 [(35, .bool (decide ((xs.length : Int) < ys.length)))] := F.sub _
  refine X.thenN ?_
  cases h5 : decide ((xs.length : Int) < ys.length) with
  | false =>
   try rw [h5] at F
   have h5p : ¬ ((xs.length : Int) < ys.length) := of_decide_eq_false h5
   have HR : cmpL xs ys = 0 := by rw [HC]; exact cmp_0 hkn (by omega)
   refine Y.condF (F.ev 35 (.bool false)) ?_
   refine Y.skip ?_
   refine X.thenN ?_
   refine Y.seq ?_
   refine Y.lit (by kernel_rfl) ?_
   refine Y.pv F (X.assign rfl (X.kc (Vi 0) rfl)) ?_;clear F ac;intro ac F
   refine Y.nil ?_
   replace F : Fr ac 36 [(4, Vi 0)] := F.sub _
   refine X.thenN ?_
   refine Y.ret ?_
   exact Y.ret0 (v := Vi 0) F (Y.rs1 F rfl (by kernel_rfl)) ⟨by rw [HR], G⟩
  | true =>
   try rw [h5] at F
   have h5p : ((xs.length : Int) < ys.length) := of_decide_eq_true h5
   have HR : cmpL xs ys = -1 := by rw [HC]; exact cmp_lt hkn (by omega)
   refine Y.condT (F.ev 35 (.bool true)) ?_
   refine Y.seq ?_
   refine Y.lit (by kernel_rfl) ?_
   refine Y.pv F (X.assign rfl (X.kc (Vi (-1)) rfl)) ?_;clear F ac;intro ac F
   refine Y.nil ?_
   replace F : Fr ac 36 [(4, Vi (-1))] := F.sub _
   refine X.thenN ?_
   refine Y.ret ?_
   refine X.thenR ?_
   exact Y.ret0 (v := Vi (-1)) F (Y.rs1 F rfl (by kernel_rfl)) ⟨by rw [HR], G⟩
 | true =>
  try rw [h4] at F
  have h4p : ((k : Int) < xs.length) := of_decide_eq_true h4
  have hlt : k < xs.length := by omega
  refine Y.condT (F.ev 12 (.bool true)) ?_
  refine Y.skip ?_
  refine X.thenN ?_
  refine Y.seq ?_
  refine Y.block ?_
  refine Y.seq ?_
  refine Y.lit (by kernel_rfl) ?_
  refine Y.pv F (X.move rfl (F.ev 11 (Vi k))) ?_;clear F ac;intro ac F
  obtain ⟨pd6, pe6, -, pc6⟩ := hx.at (j := k) (by omega)
  subst pe6
  have hC : RCells w3 [(pd6.add k, Vi (xs[k]?.getD 0))] := (RCells.cons pc6 (RCells.nil _))
  clear pc6
  refine Y.pval F (X.w0 rfl) rfl (X.index rfl (F.ev 9 (.slice (some pd6) xs.length c)) (F.ev 11 (Vi k)) (X.idx (k := k) Try.underlying34 (Try.siz3 _) (by omega) (by omega) (by rw [Nat.mul_one]))) ?_;clear F ac;intro ac F
  refine Y.pv F (X.load rfl (F.ev 14 (.pointer (some (pd6.add k)))) (X.ld1 (Try.agg3 _) (hC.at 0 rfl))) ?_;clear F ac;intro ac F
  refine Y.pv F (X.assign rfl (F.ev 13 (Vi k))) ?_;clear F ac;intro ac F
  refine Y.pv F (X.assign rfl (F.ev 15 (Vi (xs[k]?.getD 0)))) ?_;clear F ac;intro ac F
  refine Y.nil ?_
  replace F : Fr ac 36 [(0, .slice (some pd6) xs.length c), (1, .slice b ys.length d), (5, Vi k), (6, Vi (xs[k]?.getD 0)), (9, .slice (some pd6) xs.length c), (10, Vi xs.length), (11, Vi k)] := F.sub _
  refine X.thenN ?_
  refine Y.seq ?_
  refine Y.seq ?_
  refine Y.lit (by kernel_rfl) ?_
  refine Y.pv F (X.move rfl (F.ev 5 (Vi k))) ?_;clear F ac;intro ac F
  refine Y.pv F (X.move rfl (F.ev 1 (.slice b ys.length d))) ?_;clear F ac;intro ac F
  refine Y.pv F (X.len1 Try.underlying34 rfl (F.ev 17 (.slice b ys.length d))) ?_;clear F ac;intro ac F
  refine Y.pv F (X.binop rfl (F.ev 16 (Vi k)) (F.ev 18 (Vi ys.length)) (X.geqI Try.underlying3 rfl)) ?_;clear F ac;intro ac F
  refine Y.nil ?_
  replace F : Fr ac 36 [(0, .slice (some pd6) xs.length c), (1, .slice b ys.length d), (5, Vi k), (6, Vi (xs[k]?.getD 0)), (9, .slice (some pd6) xs.length c), (10, Vi xs.length), (11, Vi k), (19, .bool (decide ((ys.length : Int) ≤ k)))] := F.sub _
  refine X.thenN ?_
  cases h7 : decide ((ys.length : Int) ≤ k) with
  | false =>
   try rw [h7] at F
   have h7p : ¬ ((ys.length : Int) ≤ k) := of_decide_eq_false h7
   have hlm : k < ys.length := by omega
   refine Y.condF (F.ev 19 (.bool false)) ?_
   refine Y.skip ?_
   refine X.thenN ?_
   refine Y.seq ?_
   refine Y.lit (by kernel_rfl) ?_
   refine Y.pv F (X.move rfl (F.ev 1 (.slice b ys.length d))) ?_;clear F ac;intro ac F
   refine Y.pv F (X.move rfl (F.ev 5 (Vi k))) ?_;clear F ac;intro ac F
   obtain ⟨pd8, pe8, -, pc8⟩ := hy.at (j := k) (by omega)
   subst pe8
   replace hC : RCells w3 [(pd6.add k, Vi (xs[k]?.getD 0)), (pd8.add k, Vi (ys[k]?.getD 0))] := hC.append ((RCells.cons pc8 (RCells.nil _)))
   clear pc8
   refine Y.pval F (X.w0 rfl) rfl (X.index rfl (F.ev 20 (.slice (some pd8) ys.length d)) (F.ev 21 (Vi k)) (X.idx (k := k) Try.underlying34 (Try.siz3 _) (by omega) (by omega) (by rw [Nat.mul_one]))) ?_;clear F ac;intro ac F
   refine Y.pv F (X.load rfl (F.ev 22 (.pointer (some (pd8.add k)))) (X.ld1 (Try.agg3 _) (hC.at 1 rfl))) ?_;clear F ac;intro ac F
   refine Y.pv F (X.assign rfl (F.ev 23 (Vi (ys[k]?.getD 0)))) ?_;clear F ac;intro ac F
   refine Y.nil ?_
   replace F : Fr ac 36 [(0, .slice (some pd6) xs.length c), (1, .slice (some pd8) ys.length d), (6, Vi (xs[k]?.getD 0)), (7, Vi (ys[k]?.getD 0)), (9, .slice (some pd6) xs.length c), (10, Vi xs.length), (11, Vi k)] := F.sub _
   refine X.thenN ?_
   refine Y.seq ?_
   refine Y.lit (by kernel_rfl) ?_
   refine Y.pv F (X.move rfl (F.ev 6 (Vi (xs[k]?.getD 0)))) ?_;clear F ac;intro ac F
   refine Y.pv F (X.move rfl (F.ev 7 (Vi (ys[k]?.getD 0)))) ?_;clear F ac;intro ac F
   refine Y.pcall F (X.w0 rfl) rfl (X.enter (F := 113) rfl (X.kc (.func (.func 113) #[] #[]) rfl) (X.a2 (F.ev 24 (Vi (xs[k]?.getD 0))) (F.ev 25 (Vi (ys[k]?.getD 0)))) (enters_of Try.func113 (by kernel_rfl) rfl _)) (compare_any (xs[k]?.getD 0) (ys[k]?.getD 0) w3) ?_
   clear F ac
   rintro e w9 ⟨rfl, g⟩
   refine ⟨_, rfl, ?_⟩
   intro ac F
   replace G := G.trans g
   replace hC := hC.gr g
   replace hO1 := hO1.thenGr g
   replace hx := hx.gr g
   replace hy := hy.gr g
   clear g
   refine Y.pv F (X.assign rfl (F.ev 26 (Vi (cmpI (xs[k]?.getD 0) (ys[k]?.getD 0))))) ?_;clear F ac;intro ac F
   refine Y.nil ?_
   replace F : Fr ac 36 [(0, .slice (some pd6) xs.length c), (1, .slice (some pd8) ys.length d), (8, Vi (cmpI (xs[k]?.getD 0) (ys[k]?.getD 0))), (9, .slice (some pd6) xs.length c), (10, Vi xs.length), (11, Vi k)] := F.sub _
   refine X.thenN ?_
   refine Y.seq ?_
   refine Y.lit (by kernel_rfl) ?_
   refine Y.pv F (X.move rfl (F.ev 8 (Vi (cmpI (xs[k]?.getD 0) (ys[k]?.getD 0))))) ?_;clear F ac;intro ac F
   refine Y.pv F (X.binop rfl (F.ev 27 (Vi (cmpI (xs[k]?.getD 0) (ys[k]?.getD 0)))) (X.kc (Vi 0) rfl) (X.neqI Try.underlying3 rfl)) ?_;clear F ac;intro ac F
   refine Y.nil ?_
   replace F : Fr ac 36 [(0, .slice (some pd6) xs.length c), (1, .slice (some pd8) ys.length d), (8, Vi (cmpI (xs[k]?.getD 0) (ys[k]?.getD 0))), (9, .slice (some pd6) xs.length c), (10, Vi xs.length), (11, Vi k), (28, .bool ((cmpI (xs[k]?.getD 0) (ys[k]?.getD 0) : Int) != 0))] := F.sub _
   refine X.thenN ?_
   cases h10 : ((cmpI (xs[k]?.getD 0) (ys[k]?.getD 0) : Int) != 0) with
   | false =>
    try rw [h10] at F
    have h10p : (cmpI (xs[k]?.getD 0) (ys[k]?.getD 0) : Int) = 0 := by simpa using h10
    have HC2 : cmpL xs ys = cmpL (xs.drop (k + 1)) (ys.drop (k + 1)) := by rw [HC]; exact cmp_eq hlt hlm h10p
    refine Y.condF (F.ev 28 (.bool false)) ?_
    refine Y.skip ?_
    refine X.blockN ?_
    refine X.thenN ?_
    refine Y.lit (by kernel_rfl) ?_
    refine Y.pv F (X.binop rfl (F.ev 11 (Vi k)) (X.kc (Vi 1) rfl) (X.addI Try.underlying3 rfl (by omega) (by omega))) ?_;clear F ac;intro ac F
    refine Y.pv F (X.move rfl (F.ev 30 (Vi ((k : Int) + 1)))) ?_;clear F ac;intro ac F
    refine Y.nil ?_
    replace F : Fr ac 36 [(0, .slice (some pd6) xs.length c), (1, .slice (some pd8) ys.length d), (9, .slice (some pd6) xs.length c), (10, Vi xs.length), (11, Vi ((k : Int) + 1))] := F.sub _
    refine X.thenN ?_
    refine ⟨_, ?_, k + 1, rfl, hO1, by omega, by omega, HC2, F.sub _⟩
    omega
   | true =>
    try rw [h10] at F
    have h10p : ¬ (cmpI (xs[k]?.getD 0) (ys[k]?.getD 0) : Int) = 0 := by simpa using h10
    have HR : cmpL xs ys = cmpI (xs[k]?.getD 0) (ys[k]?.getD 0) := by rw [HC]; exact cmp_ne hlt hlm h10p
    refine Y.condT (F.ev 28 (.bool true)) ?_
    refine Y.seq ?_
    refine Y.lit (by kernel_rfl) ?_
    refine Y.pv F (X.move rfl (F.ev 8 (Vi (cmpI (xs[k]?.getD 0) (ys[k]?.getD 0))))) ?_;clear F ac;intro ac F
    refine Y.pv F (X.assign rfl (F.ev 29 (Vi (cmpI (xs[k]?.getD 0) (ys[k]?.getD 0))))) ?_;clear F ac;intro ac F
    refine Y.nil ?_
    replace F : Fr ac 36 [(4, Vi (cmpI (xs[k]?.getD 0) (ys[k]?.getD 0)))] := F.sub _
    refine X.thenN ?_
    refine Y.ret ?_
    refine X.blockR ?_
    refine X.thenR ?_
    refine X.thenR ?_
    refine X.blockR ?_
    refine X.thenR ?_
    exact Y.ret0 (v := Vi (cmpI (xs[k]?.getD 0) (ys[k]?.getD 0))) F (Y.rs1 F rfl (by kernel_rfl)) ⟨by rw [HR], G⟩
  | true =>
   try rw [h7] at F
   have h7p : ((ys.length : Int) ≤ k) := of_decide_eq_true h7
   have HR : cmpL xs ys = 1 := by rw [HC]; exact cmp_1 hlt (by omega)
   refine Y.condT (F.ev 19 (.bool true)) ?_
   refine Y.seq ?_
   refine Y.lit (by kernel_rfl) ?_
   refine Y.pv F (X.assign rfl (X.kc (Vi 1) rfl)) ?_;clear F ac;intro ac F
   refine Y.nil ?_
   replace F : Fr ac 36 [(4, Vi 1)] := F.sub _
   refine X.thenN ?_
   refine Y.ret ?_
   refine X.thenR ?_
   refine X.blockR ?_
   refine X.thenR ?_
   refine X.thenR ?_
   refine X.blockR ?_
   refine X.thenR ?_
   exact Y.ret0 (v := Vi 1) F (Y.rs1 F rfl (by kernel_rfl)) ⟨by rw [HR], G⟩
end
end Go.Proofs.Ytodedneanlekdaa
