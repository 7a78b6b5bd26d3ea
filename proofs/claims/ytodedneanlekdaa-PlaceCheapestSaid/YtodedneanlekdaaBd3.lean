/- Several texts of this claim in one file. (1) Contract: slices.Clone of numbers. (2) Shorter forms of the steps of a walk. (3) Contracts: within, named, amount, level, isTask, isHost. (4) Contracts: costs. (5) Contracts: a name that is there already. -/
import Derived.Test.YtodedneanlekdaaBd2
import Derived.Test.YtodedneanlekdaaBd1
namespace Go.Proofs.Ytodedneanlekdaa
set_option linter.unusedSimpArgs false
set_option linter.unusedVariables false
section
open Go.RowKit

set_option maxRecDepth 100000 in
set_option maxHeartbeats 400000 in
theorem clone_0 (w : World) :
  Calls Try.prog 86 #[.slice none 0 0] w fun e w' => ∃ v, e = .returned v ∧ OwnR w' w.heap.size 3 1 v 0 [] ∧ Gr w w' := by
 have G := Gr.refl w
 refine Y.calls 8 Try.func86 rfl rfl ?_
 intro ac F0
 have F : Fr ac 8 [(0, .slice none 0 0)] := F0.sub _
 clear F0
 refine Y.sg F [(0, .slice none 0 0)] (Y.pv F (X.assign rfl (X.kc (.slice none 0 0) rfl)) fun ac F=>Y.fin F) ?_;clear F ac;intro ac F
 refine Y.seq ?_
 refine Y.sg F [(0, .slice none 0 0), (4, .bool true)] (Y.pv F (X.move rfl (F.ev 0 (.slice none 0 0))) fun ac F=>Y.pv F (X.binop rfl (F.ev 3 (.slice none 0 0)) (X.kc (.slice none 0 0) rfl) (Y.nilT Try.underlying34)) fun ac F=>Y.fin F) ?_;clear F ac;intro ac F
 refine Y.condT (F.ev 4 (.bool true)) ?_
 refine Y.sg F [(2, .slice none 0 0)] (Y.pv F (X.assign rfl (X.kc (.slice none 0 0) rfl)) fun ac F=>Y.fin F) ?_;clear F ac;intro ac F
 refine Y.ret ?_
 refine X.thenR ?_
 exact Y.ret0 (v := .slice none 0 0) F (Y.r1 F) ⟨_, rfl, OwnR.nil _ _ _ _, G⟩
set_option maxRecDepth 100000 in
set_option maxHeartbeats 400000 in
theorem clone_1 (ad : Addr) (n c : Nat) (xs : List Int) (w : World) (hX : Ints w (some ad) n xs) (hn : n ≤ 100000) :
  Calls Try.prog 86 #[.slice (some ad) n c] w fun e w' => ∃ v, e = .returned v ∧ OwnR w' w.heap.size 3 1 v xs.length (xs.map (Value.int .i64)) ∧ Gr w w' := by
 have G := Gr.refl w
 have hxs := hX
 have hlen := hxs.len
 refine Y.calls 8 Try.func86 rfl rfl ?_
 intro ac F0
 have F : Fr ac 8 [(0, .slice (some ad) n c)] := F0.sub _
 clear F0
 refine Y.sg F [(0, .slice (some ad) n c)] (Y.pv F (X.assign rfl (X.kc (.slice none 0 0) rfl)) fun ac F=>Y.fin F) ?_;clear F ac;intro ac F
 refine Y.seq ?_
 refine Y.sg F [(0, .slice (some ad) n c), (4, .bool false)] (Y.pv F (X.move rfl (F.ev 0 (.slice (some ad) n c))) fun ac F=>Y.pv F (X.binop rfl (F.ev 3 (.slice (some ad) n c)) (X.kc (.slice none 0 0) rfl) (Y.nilF Try.underlying34)) fun ac F=>Y.fin F) ?_;clear F ac;intro ac F
 refine Y.condF (F.ev 4 (.bool false)) ?_
 refine Y.skip ?_
 refine X.thenN ?_
 refine Y.sl ?_
 refine Y.pv F (X.bs rfl rfl (Try.bs34_0 _)) ?_;clear F ac;intro ac F
 have hgs := G.size
 have hgs3 : w.heap.size ≤ w.heap.size := G.size
 have g := Gr.alloc w (.cells #[] 3)
 have hb := heap_alloc_new w (.cells #[] 3)
 have hbl : w.heap.size < (w.alloc (.cells #[] 3)).heap.size := by simp
 generalize w.alloc (.cells #[] 3) = w4 at *
 replace G := G.trans g
 replace hxs := hxs.gr g
 have hO := ownR_0 hb hgs
 clear g hb hbl
 refine Y.pv F (X.move rfl (F.ev 0 (.slice (some ad) n c))) ?_;clear F ac;intro ac F
 refine Y.wpL_plain rfl fun _ hK => wp_pushV Try.underlying34 Try.info3 rfl (by decide) rfl (F.ev 5 (.slice (some ⟨w.heap.size, 0, none⟩) 0 0)) (F.ev 6 (.slice (some ad) n c)) hO (m := n) (news := xs.map (Value.int .i64)) (by rw [List.length_map, hlen, Nat.mul_one]) hxs.cells (ints_all _) (by omega) (by decide) G.size (fun v2 w5 hO2 hon hat => hK _ _ ?_)
 refine Y.pput F rfl ?_
 clear F ac hat
 intro ac F
 have G2 : Gr w w5 := Y.Only.up G (hon.mono' (fun b e => by simp [Value.ownBlock] at e; exact e.symm)) hgs
 clear G
 have G := G2
 clear G2
 refine Y.pv F (X.assign rfl (F.ev 7 (v2))) ?_;clear F ac;intro ac F
 refine Y.nt F [(2, v2)] ?_;clear F ac;intro ac F
 refine Y.ret ?_
 rw [Nat.zero_add, List.nil_append] at hO2
 exact Y.ret0 (v := v2) F (Y.r1 F) ⟨_, rfl, hlen.symm ▸ hO2, G⟩
theorem clone_any (a : Option Addr) (n c : Nat) (xs : List Int) (w : World) (hX : Ints w a n xs) (hn : n ≤ 100000) (hnil : a = none → n = 0 ∧ c = 0) :
  Calls Try.prog 86 #[.slice a n c] w (fun e w' => ∃ v, e = .returned v ∧ OwnR w' w.heap.size 3 1 v xs.length (xs.map (Value.int .i64)) ∧ Gr w w') := by
 cases a with
 | some ad => exact clone_1 ad n c xs w hX hn
 | none =>
  obtain ⟨rfl, rfl⟩ := hnil rfl
  have : xs = [] := List.eq_nil_of_length_eq_zero hX.len
  subst this
  exact clone_0 w
end
section
open Go.RowKit
section
variable {ro : Option Nat} {P : Program} {A : Act} {W W' : World} {Q : Exit → Act → World → Prop} {n : Nat} {L : List (Nat × Value)} {D : List Deferred} {ops : Array Oper} {o o1 o2 o3 o4 o5 : Oper} {rest : List Oper}
theorem Y.cT {x y : Code} (F : Fr A n L D) (s : Nat) (h : x.wpIn (Y.FW ro) 0 P Q A W) (hl : lookS L s = some (.bool true) := by kernel_rfl) : (Code.cond (.tmp s) x y).wpIn (Y.FW ro) 0 P Q A W := Y.condT (F.ev s _ hl) h
theorem Y.cF {x y : Code} (F : Fr A n L D) (s : Nat) (h : y.wpIn (Y.FW ro) 0 P Q A W) (hl : lookS L s = some (.bool false) := by kernel_rfl) : (Code.cond (.tmp s) x y).wpIn (Y.FW ro) 0 P Q A W := Y.condF (F.ev s _ hl) h
theorem Y.sk {id : Nat} {y : Code} {x : Operand} (F : Fr A n L D) (d : Nat) (v : Value) (h : ∀ A', Fr A' n [(d, v)] D → y.wpIn (Y.FW ro) 0 P Q A' W) (ho : o.op = .assign x := by exact rfl) (hx : A.eval x = v := by exact rfl) (hg : o.guard = none := by exact rfl) (ht : o.dst = some d := by exact rfl) (hd : decide (d < n) = true := by exact rfl) : (Code.seq (.region id [o].toArray false) y).wpIn (Y.FW ro) 0 P Q A W :=
  Y.sg F [(d, v)] (Y.pv F (X.assign ho hx) (fun ac F => Y.fin F (by rw [ht]; simp [X.putS, lookS])) hg (by rw [ht]; exact hd)) h (by simp [ho])
theorem Y.p3 (F : Fr A n L D) (j d : Nat) (b : Bool) (h : ∀ A', Fr A' n (X.putS (X.putS (X.putS L o1.dst undef) o2.dst undef) o3.dst undef) D → wpL P ops Q rest A' W) (g1 : o1.guard = some (j, !b) := by exact rfl) (g2 : o2.guard = some (j, !b) := by exact rfl) (g3 : o3.guard = some (j, !b) := by exact rfl) (hj : ((ops[j]?).bind fun o : Oper => o.dst) = some d := by exact rfl)
    (l1 : lookS L d = some (.bool b) := by kernel_rfl) (l2 : lookS (X.putS L o1.dst undef) d = some (.bool b) := by kernel_rfl) (l3 : lookS (X.putS (X.putS L o1.dst undef) o2.dst undef) d = some (.bool b) := by kernel_rfl)
    (d1 : (match o1.dst with | some d => decide (d < n) | none => true) = true := by exact rfl) (d2 : (match o2.dst with | some d => decide (d < n) | none => true) = true := by exact rfl) (d3 : (match o3.dst with | some d => decide (d < n) | none => true) = true := by exact rfl) : wpL P ops Q (o1 :: o2 :: o3 :: rest) A W :=
  Y.ps F j d b (fun _ F => Y.ps F j d b (fun _ F => Y.ps F j d b h g3 hj l3 d3) g2 hj l2 d2) g1 hj l1 d1
theorem Y.p2 (F : Fr A n L D) (j d : Nat) (b : Bool) (h : ∀ A', Fr A' n (X.putS (X.putS L o1.dst undef) o2.dst undef) D → wpL P ops Q rest A' W) (g1 : o1.guard = some (j, !b) := by exact rfl) (g2 : o2.guard = some (j, !b) := by exact rfl) (hj : ((ops[j]?).bind fun o : Oper => o.dst) = some d := by exact rfl)
    (l1 : lookS L d = some (.bool b) := by kernel_rfl) (l2 : lookS (X.putS L o1.dst undef) d = some (.bool b) := by kernel_rfl)
    (d1 : (match o1.dst with | some d => decide (d < n) | none => true) = true := by exact rfl) (d2 : (match o2.dst with | some d => decide (d < n) | none => true) = true := by exact rfl) : wpL P ops Q (o1 :: o2 :: rest) A W :=
  Y.ps F j d b (fun _ F => Y.ps F j d b h g2 hj l2 d2) g1 hj l1 d1
theorem Y.p5 (F : Fr A n L D) (j d : Nat) (b : Bool) (h : ∀ A', Fr A' n (X.putS (X.putS (X.putS (X.putS (X.putS L o1.dst undef) o2.dst undef) o3.dst undef) o4.dst undef) o5.dst undef) D → wpL P ops Q rest A' W) (g1 : o1.guard = some (j, !b) := by exact rfl) (g2 : o2.guard = some (j, !b) := by exact rfl) (g3 : o3.guard = some (j, !b) := by exact rfl) (g4 : o4.guard = some (j, !b) := by exact rfl) (g5 : o5.guard = some (j, !b) := by exact rfl) (hj : ((ops[j]?).bind fun o : Oper => o.dst) = some d := by exact rfl)
    (l1 : lookS L d = some (.bool b) := by kernel_rfl) (l2 : lookS (X.putS L o1.dst undef) d = some (.bool b) := by kernel_rfl) (l3 : lookS (X.putS (X.putS L o1.dst undef) o2.dst undef) d = some (.bool b) := by kernel_rfl) (l4 : lookS (X.putS (X.putS (X.putS L o1.dst undef) o2.dst undef) o3.dst undef) d = some (.bool b) := by kernel_rfl) (l5 : lookS (X.putS (X.putS (X.putS (X.putS L o1.dst undef) o2.dst undef) o3.dst undef) o4.dst undef) d = some (.bool b) := by kernel_rfl)
    (d1 : (match o1.dst with | some d => decide (d < n) | none => true) = true := by exact rfl) (d2 : (match o2.dst with | some d => decide (d < n) | none => true) = true := by exact rfl) (d3 : (match o3.dst with | some d => decide (d < n) | none => true) = true := by exact rfl) (d4 : (match o4.dst with | some d => decide (d < n) | none => true) = true := by exact rfl) (d5 : (match o5.dst with | some d => decide (d < n) | none => true) = true := by exact rfl) : wpL P ops Q (o1 :: o2 :: o3 :: o4 :: o5 :: rest) A W :=
  Y.ps F j d b (fun _ F => Y.ps F j d b (fun _ F => Y.p3 F j d b h g3 g4 g5 hj l3 l4 l5 d3 d4 d5) g2 hj l2 d2) g1 hj l1 d1
end
end
section
open Go.RowKit

def withinB (n lo hi : Int) : Bool := decide (lo ≤ n) && decide (n ≤ hi)
theorem withinB_lev {n : Int} : withinB n 0 4 = levB n := rfl
theorem withinB_t {p : Pb} {n : Int} : withinB n 0 ((p.nt : Int) - 1) = isT p n := by
  unfold withinB isT; congr 1; simp only [decide_eq_decide]; omega
theorem withinB_h {p : Pb} {n : Int} : withinB n 0 ((p.nh : Int) - 1) = isH p n := by
  unfold withinB isH; congr 1; simp only [decide_eq_decide]; omega
def byteB (s : ByteArray) (i : Nat) : Bool := decide (97 ≤ ((s[i]?.getD 0).toNat : Int)) && decide (((s[i]?.getD 0).toNat : Int) ≤ 122)
theorem name_bytes {s : ByteArray} (h1 : 1 ≤ s.size) (h8 : s.size ≤ 8) (h : allN (byteB s) s.size = true) : nameB s = true := by
  unfold nameB; rw [decide_eq_true h1, decide_eq_true h8]; exact h
theorem name_size {s : ByteArray} (h : allN (byteB s) s.size = true) : nameB s = withinB (s.size : Nat) 1 8 := by
  have e : nameB s = ((decide (1 ≤ s.size) && decide (s.size ≤ 8)) && allN (byteB s) s.size) := rfl
  rw [e, h]
  unfold withinB
  rw [Bool.and_true]
  congr 1 <;> simp only [decide_eq_decide] <;> omega
theorem name_short {s : ByteArray} (h : (s.size : Int) < 1 ∨ 8 < (s.size : Int)) : nameB s = false := by
  unfold nameB
  have : (decide (1 ≤ s.size) && decide (s.size ≤ 8)) = false := by
    simp only [Bool.and_eq_false_iff, decide_eq_false_iff_not]; omega
  rw [this]; rfl
theorem name_bad {s : ByteArray} {i : Nat} (hi : i < s.size) (h : byteB s i = false) : nameB s = false := by
  have e : nameB s = ((decide (1 ≤ s.size) && decide (s.size ≤ 8)) && allN (byteB s) s.size) := rfl
  rw [e, allN_false hi h, Bool.and_false]
set_option maxRecDepth 100000 in
set_option maxHeartbeats 400000 in
theorem within_any (x lo hi : Int) (w : World) :
  Calls Try.prog 56 #[Vi x, Vi lo, Vi hi] w fun e w' => e = .returned (.bool (withinB x lo hi)) ∧ w' = w := by
 have G := Gr.refl w
 refine Y.calls 15 Try.func56 rfl rfl ?_
 intro ac F0
 have F : Fr ac 15 [(0, Vi x), (1, Vi lo), (2, Vi hi)] := F0.sub _
 clear F0
 refine Y.sg F [(0, Vi x), (1, Vi lo), (2, Vi hi)] (Y.pv F (X.assign rfl (X.kc (.bool false) rfl)) fun ac F=>Y.fin F) ?_;clear F ac;intro ac F
 refine Y.sl ?_
 refine Y.pv4 F (X.move rfl (F.e 0 rfl)) (fun _ F=>X.move rfl (F.e 1 rfl)) (fun _ F=>X.binop rfl (F.e 7 rfl) (F.e 8 rfl) (X.geqI Try.underlying3 rfl)) (fun _ F=>X.move rfl (F.e 9 rfl)) ?_;clear F ac;intro ac F
 cases h3 : decide ((lo : Int) ≤ x) with
 | false =>
  try rw [h3] at F
  have h3p : ¬ ((lo : Int) ≤ x) := of_decide_eq_false h3
  refine Y.ps F 3 10 false ?_;clear F ac;intro ac F
  refine Y.ps F 3 10 false ?_;clear F ac;intro ac F
  refine Y.ps F 3 10 false ?_;clear F ac;intro ac F
  refine Y.pv2 F (X.pickF rfl (F.e 10 rfl) (X.kc (.bool false) rfl)) (fun _ F=>X.assign rfl (F.e 14 rfl)) ?_;clear F ac;intro ac F
  refine Y.nt F [(6, .bool false)] ?_;clear F ac;intro ac F
  refine Y.ret ?_
  exact Y.ret0 (v := .bool false) F (Y.r1 F) ⟨by simp [withinB, h3], rfl⟩
 | true =>
  try rw [h3] at F
  have h3p : ((lo : Int) ≤ x) := of_decide_eq_true h3
  refine Y.pg F 3 10 true (X.move rfl (F.e 0 rfl)) ?_;clear F ac;intro ac F
  refine Y.pg F 3 10 true (X.move rfl (F.e 2 rfl)) ?_;clear F ac;intro ac F
  refine Y.pg F 3 10 true (X.binop rfl (F.e 11 rfl) (F.e 12 rfl) (X.leqI Try.underlying3 rfl)) ?_;clear F ac;intro ac F
  refine Y.pv2 F (X.pickT rfl (F.e 10 rfl) (F.e 13 rfl)) (fun _ F=>X.assign rfl (F.e 14 rfl)) ?_;clear F ac;intro ac F
  refine Y.nt F [(6, .bool (decide ((x : Int) ≤ hi)))] ?_;clear F ac;intro ac F
  refine Y.ret ?_
  exact Y.ret0 (v := .bool (decide ((x : Int) ≤ hi))) F (Y.r1 F) ⟨by simp [withinB, h3], rfl⟩
set_option maxRecDepth 100000 in
set_option maxHeartbeats 400000 in
theorem amount_any (x : Int) (w : World) :
  Calls Try.prog 63 #[Vi x] w fun e w' => e = .returned (.bool (amtB x)) ∧ w' = w := by
 have G := Gr.refl w
 refine Y.calls 9 Try.func63 rfl rfl ?_
 intro ac F0
 have F : Fr ac 9 [(0, Vi x)] := F0.sub _
 clear F0
 refine Y.sg F [(0, Vi x)] (Y.pv F (X.assign rfl (X.kc (.bool false) rfl)) fun ac F=>Y.fin F) ?_;clear F ac;intro ac F
 refine Y.sl ?_
 refine Y.pv3 F (X.move rfl (F.e 0 rfl)) (fun _ F=>X.binop rfl (F.e 3 rfl) (X.kc (Vi 0) rfl) (X.geqI Try.underlying3 rfl)) (fun _ F=>X.move rfl (F.e 4 rfl)) ?_;clear F ac;intro ac F
 cases h3 : decide ((0 : Int) ≤ x) with
 | false =>
  try rw [h3] at F
  have h3p : ¬ ((0 : Int) ≤ x) := of_decide_eq_false h3
  refine Y.ps F 2 5 false ?_;clear F ac;intro ac F
  refine Y.ps F 2 5 false ?_;clear F ac;intro ac F
  refine Y.pv2 F (X.pickF rfl (F.e 5 rfl) (X.kc (.bool false) rfl)) (fun _ F=>X.assign rfl (F.e 8 rfl)) ?_;clear F ac;intro ac F
  refine Y.nt F [(2, .bool false)] ?_;clear F ac;intro ac F
  refine Y.ret ?_
  exact Y.ret0 (v := .bool false) F (Y.r1 F) ⟨by simp [amtB, h3], rfl⟩
 | true =>
  try rw [h3] at F
  have h3p : ((0 : Int) ≤ x) := of_decide_eq_true h3
  refine Y.pg F 2 5 true (X.move rfl (F.e 0 rfl)) ?_;clear F ac;intro ac F
  refine Y.pg F 2 5 true (X.binop rfl (F.e 6 rfl) (X.kc (Vi 100000) rfl) (X.leqI Try.underlying3 rfl)) ?_;clear F ac;intro ac F
  refine Y.pv2 F (X.pickT rfl (F.e 5 rfl) (F.e 7 rfl)) (fun _ F=>X.assign rfl (F.e 8 rfl)) ?_;clear F ac;intro ac F
  refine Y.nt F [(2, .bool (decide ((x : Int) ≤ 100000)))] ?_;clear F ac;intro ac F
  refine Y.ret ?_
  exact Y.ret0 (v := .bool (decide ((x : Int) ≤ 100000))) F (Y.r1 F) ⟨by simp [amtB, h3], rfl⟩
set_option maxRecDepth 100000 in
set_option maxHeartbeats 400000 in
theorem level_any (x : Int) (w : World) :
  Calls Try.prog 98 #[Vi x] w fun e w' => e = .returned (.bool (levB x)) ∧ w' = w := by
 have G := Gr.refl w
 refine Y.calls 9 Try.func98 rfl rfl ?_
 intro ac F0
 have F : Fr ac 9 [(0, Vi x)] := F0.sub _
 clear F0
 refine Y.sg F [(0, Vi x)] (Y.pv F (X.assign rfl (X.kc (.bool false) rfl)) fun ac F=>Y.fin F) ?_;clear F ac;intro ac F
 refine Y.sl ?_
 refine Y.pv3 F (X.move rfl (F.e 0 rfl)) (fun _ F=>X.binop rfl (F.e 3 rfl) (X.kc (Vi 0) rfl) (X.geqI Try.underlying3 rfl)) (fun _ F=>X.move rfl (F.e 4 rfl)) ?_;clear F ac;intro ac F
 cases h3 : decide ((0 : Int) ≤ x) with
 | false =>
  try rw [h3] at F
  have h3p : ¬ ((0 : Int) ≤ x) := of_decide_eq_false h3
  refine Y.ps F 2 5 false ?_;clear F ac;intro ac F
  refine Y.ps F 2 5 false ?_;clear F ac;intro ac F
  refine Y.pv2 F (X.pickF rfl (F.e 5 rfl) (X.kc (.bool false) rfl)) (fun _ F=>X.assign rfl (F.e 8 rfl)) ?_;clear F ac;intro ac F
  refine Y.nt F [(2, .bool false)] ?_;clear F ac;intro ac F
  refine Y.ret ?_
  exact Y.ret0 (v := .bool false) F (Y.r1 F) ⟨by simp [levB, h3], rfl⟩
 | true =>
  try rw [h3] at F
  have h3p : ((0 : Int) ≤ x) := of_decide_eq_true h3
  refine Y.pg F 2 5 true (X.move rfl (F.e 0 rfl)) ?_;clear F ac;intro ac F
  refine Y.pg F 2 5 true (X.binop rfl (F.e 6 rfl) (X.kc (Vi 4) rfl) (X.leqI Try.underlying3 rfl)) ?_;clear F ac;intro ac F
  refine Y.pv2 F (X.pickT rfl (F.e 5 rfl) (F.e 7 rfl)) (fun _ F=>X.assign rfl (F.e 8 rfl)) ?_;clear F ac;intro ac F
  refine Y.nt F [(2, .bool (decide ((x : Int) ≤ 4)))] ?_;clear F ac;intro ac F
  refine Y.ret ?_
  exact Y.ret0 (v := .bool (decide ((x : Int) ≤ 4))) F (Y.r1 F) ⟨by simp [levB, h3], rfl⟩
set_option maxRecDepth 100000 in
set_option maxHeartbeats 400000 in
theorem named_any (s : ByteArray) (w : World) (hs : s.size ≤ 9223372036854775807) :
  Calls Try.prog 54 #[.string s] w fun e w' => e = .returned (.bool (nameB s)) ∧ w' = w := by
 have G := Gr.refl w
 refine Y.calls 23 Try.func54 rfl rfl ?_
 intro ac F0
 have F : Fr ac 23 [(0, .string s)] := F0.sub _
 clear F0
 refine Y.sg F [(0, .string s)] (Y.pv F (X.assign rfl (X.kc (.bool false) rfl)) fun ac F=>Y.fin F) ?_;clear F ac;intro ac F
 refine Y.seq ?_
 refine Y.sg F [(0, .string s), (5, Vi (s.size : Nat)), (6, Vi 0)] (Y.pv F (X.move rfl (F.e 0 rfl)) fun ac F=>Y.pv F (Y.lenS Try.underlying9 rfl (F.e 4 rfl)) fun ac F=>Y.pv F (X.move rfl (X.kc (Vi 0) rfl)) fun ac F=>Y.fin F) ?_;clear F ac;intro ac F
 refine Y.block ?_
 have GB := G
 refine Y.loop (fun me_ ac wr => ∃ (i : Nat), me_ = s.size - i ∧ Gr w wr ∧ i ≤ s.size ∧ allN (byteB s) i = true ∧ wr = w ∧ Fr ac 23 [(0, .string s), (5, Vi (s.size : Nat)), (6, Vi i)]) _ ⟨0, rfl, Gr.refl _, Nat.zero_le _, rfl, rfl, F.sub _⟩ ?_
 clear F
 intro me_ ac w3 hI
 obtain ⟨i, rfl, gr, hi0, hok, hww, F⟩ := hI
 replace G := GB.trans gr
 have GB_ := gr
 clear gr
 refine Y.sg F [(0, .string s), (5, Vi (s.size : Nat)), (6, Vi i), (7, .bool (decide ((i : Int) < (s.size : Nat))))] (Y.pv F (X.binop rfl (F.e 6 rfl) (F.e 5 rfl) (X.lssI Try.underlying3 rfl)) fun ac F=>Y.fin F) ?_;clear F ac;intro ac F
 refine Y.seq ?_
 cases h4 : decide ((i : Int) < (s.size : Nat)) with
 | false =>
  try rw [h4] at F
  have h4p : ¬ ((i : Int) < (s.size : Nat)) := of_decide_eq_false h4
  obtain rfl : i = s.size := by omega
  refine Y.condF (F.e 7 rfl) ?_
  refine Y.exit ?_
  refine X.thenX (X.thenX (X.blockX (X.thenN ?_)))
  refine Y.sl ?_
  refine Y.pv2 F (X.move rfl (F.e 0 rfl)) (fun _ F=>Y.lenS Try.underlying9 rfl (F.e 20 rfl)) ?_;clear F ac;intro ac F
  refine Y.pc F 56 (X.a3 (F.e 21 rfl) (X.kc (Vi 1) rfl) (X.kc (Vi 8) rfl)) Try.func56 (within_any (s.size : Nat) 1 8 w3) ?_
  clear F ac
  rintro e w' ⟨rfl, hw_⟩
  obtain rfl : w3 = w' := hw_.symm
  clear hw_
  refine ⟨_, rfl, ?_⟩
  intro ac F
  refine Y.pv F (X.assign rfl (F.e 22 rfl)) ?_;clear F ac;intro ac F
  refine Y.nt F [(2, .bool (withinB (s.size : Nat) 1 8))] ?_;clear F ac;intro ac F
  refine Y.ret ?_
  exact Y.ret0 (v := .bool (withinB (s.size : Nat) 1 8)) F (Y.r1 F) ⟨by rw [name_size hok], hww⟩
 | true =>
  try rw [h4] at F
  have h4p : ((i : Int) < (s.size : Nat)) := of_decide_eq_true h4
  have hi : i < s.size := by omega
  refine Y.condT (F.e 7 rfl) ?_
  refine Y.skip ?_
  refine X.thenN ?_
  refine Y.seq ?_
  refine Y.block ?_
  refine Y.sg F [(0, .string s), (3, Vi i), (5, Vi (s.size : Nat)), (6, Vi i)] (Y.pv F (X.move rfl (F.e 6 rfl)) fun ac F=>Y.pv F (X.assign rfl (F.e 8 rfl)) fun ac F=>Y.fin F) ?_;clear F ac;intro ac F
  refine Y.sl ?_
  refine Y.pv4 F (X.move rfl (F.e 0 rfl)) (fun _ F=>X.move rfl (F.e 3 rfl)) (fun _ F=>Y.inS (k := i) rfl (F.e 9 rfl) (F.e 10 rfl) Try.underlying9 (by omega) (by omega)) (fun _ F=>X.binop rfl (F.e 11 rfl) (X.kc (.int .u8 97) rfl) (Y.lssU Try.underlying5 rfl)) ?_;clear F ac;intro ac F
  refine Y.pv F (X.move rfl (F.e 12 rfl)) ?_;clear F ac;intro ac F
  cases h5 : decide (((((s)[i]?.getD 0).toNat : Nat) : Int) < 97) with
  | false =>
   try rw [h5] at F
   have h5p : ¬ (((((s)[i]?.getD 0).toNat : Nat) : Int) < 97) := of_decide_eq_false h5
   refine Y.pg F 4 13 false (X.move rfl (F.e 0 rfl)) ?_;clear F ac;intro ac F
   refine Y.pg F 4 13 false (X.move rfl (F.e 3 rfl)) ?_;clear F ac;intro ac F
   refine Y.pg F 4 13 false (Y.inS (k := i) rfl (F.e 14 rfl) (F.e 15 rfl) Try.underlying9 (by omega) (by omega)) ?_;clear F ac;intro ac F
   refine Y.pg F 4 13 false (X.binop rfl (F.e 16 rfl) (X.kc (.int .u8 122) rfl) (Y.gtrU Try.underlying5 rfl)) ?_;clear F ac;intro ac F
   refine Y.pv F (X.pickF rfl (F.e 13 rfl) (F.e 17 rfl)) ?_;clear F ac;intro ac F
   refine Y.nt F [(0, .string s), (5, Vi (s.size : Nat)), (6, Vi i), (18, .bool (decide ((122 : Int) < (((s)[i]?.getD 0).toNat : Nat))))] ?_;clear F ac;intro ac F
   cases h6 : decide ((122 : Int) < (((s)[i]?.getD 0).toNat : Nat)) with
   | false =>
    try rw [h6] at F
    have h6p : ¬ ((122 : Int) < (((s)[i]?.getD 0).toNat : Nat)) := of_decide_eq_false h6
    refine Y.condF (F.e 18 rfl) ?_
    refine Y.skip ?_
    refine X.blockN (X.thenN ?_)
    refine Y.lg F [(0, .string s), (5, Vi (s.size : Nat)), (6, Vi ((i : Int) + 1))] (by
     refine Y.pv F (X.binop rfl (F.e 6 rfl) (X.kc (Vi 1) rfl) (X.addI Try.underlying3 rfl (by omega) (by omega))) fun ac F=>?_
     refine Y.pv F (X.move rfl (F.e 19 rfl)) fun ac F=>?_
     exact Y.fin F) ?_;clear F ac;intro ac F
    refine ⟨_, ?_, i + 1, rfl, GB_, by omega, allN_succ hok (by simp [byteB, h5, h6] <;> omega), hww, F.sub _⟩
    omega
   | true =>
    try rw [h6] at F
    have h6p : ((122 : Int) < (((s)[i]?.getD 0).toNat : Nat)) := of_decide_eq_true h6
    refine Y.condT (F.e 18 rfl) ?_
    refine Y.sk F 2 (.bool false) ?_;clear F ac;intro ac F
    refine Y.ret ?_
    refine X.blockR (X.thenR (X.thenR (X.blockR (X.thenR ?_))))
    exact Y.ret0 (v := .bool false) F (Y.r1 F) ⟨by rw [name_bad hi (by simp [byteB, h5, h6] <;> omega)], hww⟩
  | true =>
   try rw [h5] at F
   have h5p : (((((s)[i]?.getD 0).toNat : Nat) : Int) < 97) := of_decide_eq_true h5
   refine Y.ps F 4 13 true ?_;clear F ac;intro ac F
   refine Y.ps F 4 13 true ?_;clear F ac;intro ac F
   refine Y.ps F 4 13 true ?_;clear F ac;intro ac F
   refine Y.ps F 4 13 true ?_;clear F ac;intro ac F
   refine Y.pv F (X.pickT rfl (F.e 13 rfl) (X.kc (.bool true) rfl)) ?_;clear F ac;intro ac F
   refine Y.nt F [(0, .string s), (5, Vi (s.size : Nat)), (6, Vi i), (18, .bool true)] ?_;clear F ac;intro ac F
   refine Y.condT (F.e 18 rfl) ?_
   refine Y.sk F 2 (.bool false) ?_;clear F ac;intro ac F
   refine Y.ret ?_
   refine X.blockR (X.thenR (X.thenR (X.blockR (X.thenR ?_))))
   exact Y.ret0 (v := .bool false) F (Y.r1 F) ⟨by rw [name_bad hi (by simp [byteB, h5] <;> omega)], hww⟩
set_option maxRecDepth 100000 in
set_option maxHeartbeats 400000 in
theorem named2_any (s : ByteArray) (w : World) (hs : s.size ≤ 9223372036854775807) :
  Calls Try.prog 97 #[.string s] w fun e w' => e = .returned (.bool (nameB s)) ∧ w' = w := by
 have G := Gr.refl w
 refine Y.calls 28 Try.func97 rfl rfl ?_
 intro ac F0
 have F : Fr ac 28 [(0, .string s)] := F0.sub _
 clear F0
 refine Y.sg F [(0, .string s)] (Y.pv F (X.assign rfl (X.kc (.bool false) rfl)) fun ac F=>Y.fin F) ?_;clear F ac;intro ac F
 refine Y.seq ?_
 refine Y.sl ?_
 refine Y.pv4 F (X.move rfl (F.e 0 rfl)) (fun _ F=>Y.lenS Try.underlying9 rfl (F.e 4 rfl)) (fun _ F=>X.binop rfl (F.e 5 rfl) (X.kc (Vi 1) rfl) (X.lssI Try.underlying3 rfl)) (fun _ F=>X.move rfl (F.e 6 rfl)) ?_;clear F ac;intro ac F
 cases h3 : decide (((s.size : Nat) : Int) < 1) with
 | false =>
  try rw [h3] at F
  have h3p : ¬ (((s.size : Nat) : Int) < 1) := of_decide_eq_false h3
  refine Y.pg F 3 7 false (X.move rfl (F.e 0 rfl)) ?_;clear F ac;intro ac F
  refine Y.pg F 3 7 false (Y.lenS Try.underlying9 rfl (F.e 8 rfl)) ?_;clear F ac;intro ac F
  refine Y.pg F 3 7 false (X.binop rfl (F.e 9 rfl) (X.kc (Vi 8) rfl) (X.gtrI Try.underlying3 rfl)) ?_;clear F ac;intro ac F
  refine Y.pv F (X.pickF rfl (F.e 7 rfl) (F.e 10 rfl)) ?_;clear F ac;intro ac F
  refine Y.nt F [(0, .string s), (11, .bool (decide ((8 : Int) < (s.size : Nat))))] ?_;clear F ac;intro ac F
  cases h4 : decide ((8 : Int) < (s.size : Nat)) with
  | false =>
   try rw [h4] at F
   have h4p : ¬ ((8 : Int) < (s.size : Nat)) := of_decide_eq_false h4
   refine Y.condF (F.e 11 rfl) ?_
   refine Y.skip ?_
   refine X.thenN ?_
   refine Y.seq ?_
   refine Y.sg F [(0, .string s), (3, Vi 0)] (Y.pv F (X.assign rfl (X.kc (Vi 0) rfl)) fun ac F=>Y.fin F) ?_;clear F ac;intro ac F
   refine Y.block ?_
   have GB := G
   refine Y.loop (fun me_ ac wr => ∃ (i : Nat), me_ = s.size - i ∧ Gr w wr ∧ i ≤ s.size ∧ allN (byteB s) i = true ∧ wr = w ∧ Fr ac 28 [(0, .string s), (3, Vi i)]) _ ⟨0, rfl, Gr.refl _, Nat.zero_le _, rfl, rfl, F.sub _⟩ ?_
   clear F
   intro me_ ac w5 hI
   obtain ⟨i, rfl, gr, hi0, hok, hww, F⟩ := hI
   replace G := GB.trans gr
   have GB_ := gr
   clear gr
   refine Y.seq ?_
   refine Y.sg F [(0, .string s), (3, Vi i), (15, .bool (decide ((i : Int) < (s.size : Nat))))] (Y.pv F (X.move rfl (F.e 3 rfl)) fun ac F=>Y.pv F (X.move rfl (F.e 0 rfl)) fun ac F=>Y.pv F (Y.lenS Try.underlying9 rfl (F.e 13 rfl)) fun ac F=>Y.pv F (X.binop rfl (F.e 12 rfl) (F.e 14 rfl) (X.lssI Try.underlying3 rfl)) fun ac F=>Y.fin F) ?_;clear F ac;intro ac F
   cases h6 : decide ((i : Int) < (s.size : Nat)) with
   | false =>
    try rw [h6] at F
    have h6p : ¬ ((i : Int) < (s.size : Nat)) := of_decide_eq_false h6
    obtain rfl : i = s.size := by omega
    refine Y.condF (F.e 15 rfl) ?_
    refine Y.exit ?_
    refine X.thenX (X.thenX (X.blockX (X.thenN ?_)))
    refine Y.sk F 2 (.bool true) ?_;clear F ac;intro ac F
    refine Y.ret ?_
    exact Y.ret0 (v := .bool true) F (Y.r1 F) ⟨by rw [name_bytes (by omega) (by omega) hok], hww⟩
   | true =>
    try rw [h6] at F
    have h6p : ((i : Int) < (s.size : Nat)) := of_decide_eq_true h6
    have hi : i < s.size := by omega
    refine Y.condT (F.e 15 rfl) ?_
    refine Y.skip ?_
    refine X.thenN ?_
    refine Y.seq ?_
    refine Y.block ?_
    refine Y.sl ?_
    refine Y.pv4 F (X.move rfl (F.e 0 rfl)) (fun _ F=>X.move rfl (F.e 3 rfl)) (fun _ F=>Y.inS (k := i) rfl (F.e 18 rfl) (F.e 19 rfl) Try.underlying9 (by omega) (by omega)) (fun _ F=>X.binop rfl (F.e 20 rfl) (X.kc (.int .u8 97) rfl) (Y.lssU Try.underlying5 rfl)) ?_;clear F ac;intro ac F
    refine Y.pv F (X.move rfl (F.e 21 rfl)) ?_;clear F ac;intro ac F
    cases h7 : decide (((((s)[i]?.getD 0).toNat : Nat) : Int) < 97) with
    | false =>
     try rw [h7] at F
     have h7p : ¬ (((((s)[i]?.getD 0).toNat : Nat) : Int) < 97) := of_decide_eq_false h7
     refine Y.pg F 4 22 false (X.move rfl (F.e 0 rfl)) ?_;clear F ac;intro ac F
     refine Y.pg F 4 22 false (X.move rfl (F.e 3 rfl)) ?_;clear F ac;intro ac F
     refine Y.pg F 4 22 false (Y.inS (k := i) rfl (F.e 23 rfl) (F.e 24 rfl) Try.underlying9 (by omega) (by omega)) ?_;clear F ac;intro ac F
     refine Y.pg F 4 22 false (X.binop rfl (F.e 25 rfl) (X.kc (.int .u8 122) rfl) (Y.gtrU Try.underlying5 rfl)) ?_;clear F ac;intro ac F
     refine Y.pv F (X.pickF rfl (F.e 22 rfl) (F.e 26 rfl)) ?_;clear F ac;intro ac F
     refine Y.nt F [(0, .string s), (3, Vi i), (27, .bool (decide ((122 : Int) < (((s)[i]?.getD 0).toNat : Nat))))] ?_;clear F ac;intro ac F
     cases h8 : decide ((122 : Int) < (((s)[i]?.getD 0).toNat : Nat)) with
     | false =>
      try rw [h8] at F
      have h8p : ¬ ((122 : Int) < (((s)[i]?.getD 0).toNat : Nat)) := of_decide_eq_false h8
      refine Y.condF (F.e 27 rfl) ?_
      refine Y.skip ?_
      refine X.blockN (X.thenN ?_)
      refine Y.lg F [(0, .string s), (3, Vi ((i : Int) + 1))] (by
       refine Y.pv F (X.move rfl (F.e 3 rfl)) fun ac F=>?_
       refine Y.pv F (X.binop rfl (F.e 16 rfl) (X.kc (Vi 1) rfl) (X.addI Try.underlying3 rfl (by omega) (by omega))) fun ac F=>?_
       refine Y.pv F (X.assign rfl (F.e 17 rfl)) fun ac F=>?_
       exact Y.fin F) ?_;clear F ac;intro ac F
      refine ⟨_, ?_, i + 1, rfl, GB_, by omega, allN_succ hok (by simp [byteB, h7, h8] <;> omega), hww, F.sub _⟩
      omega
     | true =>
      try rw [h8] at F
      have h8p : ((122 : Int) < (((s)[i]?.getD 0).toNat : Nat)) := of_decide_eq_true h8
      refine Y.condT (F.e 27 rfl) ?_
      refine Y.sk F 2 (.bool false) ?_;clear F ac;intro ac F
      refine Y.ret ?_
      refine X.blockR (X.thenR (X.thenR (X.blockR (X.thenR ?_))))
      exact Y.ret0 (v := .bool false) F (Y.r1 F) ⟨by rw [name_bad hi (by simp [byteB, h7, h8] <;> omega)], hww⟩
    | true =>
     try rw [h7] at F
     have h7p : (((((s)[i]?.getD 0).toNat : Nat) : Int) < 97) := of_decide_eq_true h7
     refine Y.ps F 4 22 true ?_;clear F ac;intro ac F
     refine Y.ps F 4 22 true ?_;clear F ac;intro ac F
     refine Y.ps F 4 22 true ?_;clear F ac;intro ac F
     refine Y.ps F 4 22 true ?_;clear F ac;intro ac F
     refine Y.pv F (X.pickT rfl (F.e 22 rfl) (X.kc (.bool true) rfl)) ?_;clear F ac;intro ac F
     refine Y.nt F [(0, .string s), (3, Vi i), (27, .bool true)] ?_;clear F ac;intro ac F
     refine Y.condT (F.e 27 rfl) ?_
     refine Y.sk F 2 (.bool false) ?_;clear F ac;intro ac F
     refine Y.ret ?_
     refine X.blockR (X.thenR (X.thenR (X.blockR (X.thenR ?_))))
     exact Y.ret0 (v := .bool false) F (Y.r1 F) ⟨by rw [name_bad hi (by simp [byteB, h7] <;> omega)], hww⟩
  | true =>
   try rw [h4] at F
   have h4p : ((8 : Int) < (s.size : Nat)) := of_decide_eq_true h4
   refine Y.condT (F.e 11 rfl) ?_
   refine Y.sk F 2 (.bool false) ?_;clear F ac;intro ac F
   refine Y.ret ?_
   refine X.thenR ?_
   exact Y.ret0 (v := .bool false) F (Y.r1 F) ⟨by rw [name_short (by omega)], rfl⟩
 | true =>
  try rw [h3] at F
  have h3p : (((s.size : Nat) : Int) < 1) := of_decide_eq_true h3
  refine Y.ps F 3 7 true ?_;clear F ac;intro ac F
  refine Y.ps F 3 7 true ?_;clear F ac;intro ac F
  refine Y.ps F 3 7 true ?_;clear F ac;intro ac F
  refine Y.pv F (X.pickT rfl (F.e 7 rfl) (X.kc (.bool true) rfl)) ?_;clear F ac;intro ac F
  refine Y.nt F [(0, .string s), (11, .bool true)] ?_;clear F ac;intro ac F
  refine Y.condT (F.e 11 rfl) ?_
  refine Y.sk F 2 (.bool false) ?_;clear F ac;intro ac F
  refine Y.ret ?_
  refine X.thenR ?_
  exact Y.ret0 (v := .bool false) F (Y.r1 F) ⟨by rw [name_short (by omega)], rfl⟩
set_option maxRecDepth 100000 in
set_option maxHeartbeats 400000 in
theorem isTask_any (p : Pb) (ta ha ba la : Option Addr) (tc hc bc lc : Nat) (x : Int) (w : World) :
  Calls Try.prog 61 #[.agg #[.slice ta p.nt tc, .slice ha p.nh hc, .slice ba p.nb bc, .slice la p.nl lc], Vi x] w fun e w' => e = .returned (.bool (isT p x)) ∧ Gr w w' := by
 have G := Gr.refl w
 refine Y.calls 14 Try.func61 rfl rfl ?_
 intro ac F0
 have F : Fr ac 14 [(0, .agg #[.slice ta p.nt tc, .slice ha p.nh hc, .slice ba p.nb bc, .slice la p.nl lc]), (1, Vi x)] := F0.sub _
 clear F0
 refine Y.sl ?_
 refine Y.pv F (X.box rfl (F.e 0 rfl) X.bx) ?_;clear F ac;intro ac F
 obtain ⟨w3, hw_, g, hb, hbl, hC2⟩ := Y.bxd (RCells.nil w) #[.slice ta p.nt tc, .slice ha p.nh hc, .slice ba p.nb bc, .slice la p.nl lc] 27;rw [hw_];clear hw_
 replace G := G.trans g
 have hC := hC2
 clear hC2
 clear g hb hbl
 refine Y.pv F (X.assign rfl (X.kc (.bool false) rfl)) ?_;clear F ac;intro ac F
 refine Y.nt F [(1, Vi x), (2, Vp w.heap.size)] ?_;clear F ac;intro ac F
 refine Y.sl ?_
 refine Y.pv3 F (X.move rfl (F.e 1 rfl)) (fun _ F=>X.binop rfl (F.e 5 rfl) (X.kc (Vi 0) rfl) (X.geqI Try.underlying3 rfl)) (fun _ F=>X.move rfl (F.e 6 rfl)) ?_;clear F ac;intro ac F
 cases h4 : decide ((0 : Int) ≤ x) with
 | false =>
  try rw [h4] at F
  have h4p : ¬ ((0 : Int) ≤ x) := of_decide_eq_false h4
  refine Y.ps F 2 7 false ?_;clear F ac;intro ac F
  refine Y.ps F 2 7 false ?_;clear F ac;intro ac F
  refine Y.ps F 2 7 false ?_;clear F ac;intro ac F
  refine Y.ps F 2 7 false ?_;clear F ac;intro ac F
  refine Y.ps F 2 7 false ?_;clear F ac;intro ac F
  refine Y.pv2 F (X.pickF rfl (F.e 7 rfl) (X.kc (.bool false) rfl)) (fun _ F=>X.assign rfl (F.e 13 rfl)) ?_;clear F ac;intro ac F
  refine Y.nt F [(4, .bool false)] ?_;clear F ac;intro ac F
  refine Y.ret ?_
  exact Y.ret0 (v := .bool false) F (Y.r1 F) ⟨by simp [isT, h4], G⟩
 | true =>
  try rw [h4] at F
  have h4p : ((0 : Int) ≤ x) := of_decide_eq_true h4
  refine Y.pg F 2 7 true (X.move rfl (F.e 1 rfl)) ?_;clear F ac;intro ac F
  refine Y.pg F 2 7 true (X.field rfl (F.e 2 rfl) (X.fld Try.underlying27 rfl (Try.siz22 _) rfl rfl)) ?_;clear F ac;intro ac F
  refine Y.pg F 2 7 true (X.load rfl (F.e 9 rfl) (X.ld1 (Try.agg22 _) (hC.at 0 rfl))) ?_;clear F ac;intro ac F
  refine Y.pg F 2 7 true (X.len1 Try.underlying22 rfl (F.e 10 rfl)) ?_;clear F ac;intro ac F
  refine Y.pg F 2 7 true (X.binop rfl (F.e 8 rfl) (F.e 11 rfl) (X.lssI Try.underlying3 rfl)) ?_;clear F ac;intro ac F
  refine Y.pv2 F (X.pickT rfl (F.e 7 rfl) (F.e 12 rfl)) (fun _ F=>X.assign rfl (F.e 13 rfl)) ?_;clear F ac;intro ac F
  refine Y.nt F [(4, .bool (decide ((x : Int) < p.nt)))] ?_;clear F ac;intro ac F
  refine Y.ret ?_
  exact Y.ret0 (v := .bool (decide ((x : Int) < p.nt))) F (Y.r1 F) ⟨by simp [isT, h4], G⟩
set_option maxRecDepth 100000 in
set_option maxHeartbeats 400000 in
theorem isHost_any (p : Pb) (ta ha ba la : Option Addr) (tc hc bc lc : Nat) (x : Int) (w : World) :
  Calls Try.prog 62 #[.agg #[.slice ta p.nt tc, .slice ha p.nh hc, .slice ba p.nb bc, .slice la p.nl lc], Vi x] w fun e w' => e = .returned (.bool (isH p x)) ∧ Gr w w' := by
 have G := Gr.refl w
 refine Y.calls 14 Try.func62 rfl rfl ?_
 intro ac F0
 have F : Fr ac 14 [(0, .agg #[.slice ta p.nt tc, .slice ha p.nh hc, .slice ba p.nb bc, .slice la p.nl lc]), (1, Vi x)] := F0.sub _
 clear F0
 refine Y.sl ?_
 refine Y.pv F (X.box rfl (F.e 0 rfl) X.bx) ?_;clear F ac;intro ac F
 obtain ⟨w3, hw_, g, hb, hbl, hC2⟩ := Y.bxd (RCells.nil w) #[.slice ta p.nt tc, .slice ha p.nh hc, .slice ba p.nb bc, .slice la p.nl lc] 27;rw [hw_];clear hw_
 replace G := G.trans g
 have hC := hC2
 clear hC2
 clear g hb hbl
 refine Y.pv F (X.assign rfl (X.kc (.bool false) rfl)) ?_;clear F ac;intro ac F
 refine Y.nt F [(1, Vi x), (2, Vp w.heap.size)] ?_;clear F ac;intro ac F
 refine Y.sl ?_
 refine Y.pv3 F (X.move rfl (F.e 1 rfl)) (fun _ F=>X.binop rfl (F.e 5 rfl) (X.kc (Vi 0) rfl) (X.geqI Try.underlying3 rfl)) (fun _ F=>X.move rfl (F.e 6 rfl)) ?_;clear F ac;intro ac F
 cases h4 : decide ((0 : Int) ≤ x) with
 | false =>
  try rw [h4] at F
  have h4p : ¬ ((0 : Int) ≤ x) := of_decide_eq_false h4
  refine Y.ps F 2 7 false ?_;clear F ac;intro ac F
  refine Y.ps F 2 7 false ?_;clear F ac;intro ac F
  refine Y.ps F 2 7 false ?_;clear F ac;intro ac F
  refine Y.ps F 2 7 false ?_;clear F ac;intro ac F
  refine Y.ps F 2 7 false ?_;clear F ac;intro ac F
  refine Y.pv2 F (X.pickF rfl (F.e 7 rfl) (X.kc (.bool false) rfl)) (fun _ F=>X.assign rfl (F.e 13 rfl)) ?_;clear F ac;intro ac F
  refine Y.nt F [(4, .bool false)] ?_;clear F ac;intro ac F
  refine Y.ret ?_
  exact Y.ret0 (v := .bool false) F (Y.r1 F) ⟨by simp [isH, h4], G⟩
 | true =>
  try rw [h4] at F
  have h4p : ((0 : Int) ≤ x) := of_decide_eq_true h4
  refine Y.pg F 2 7 true (X.move rfl (F.e 1 rfl)) ?_;clear F ac;intro ac F
  refine Y.pg F 2 7 true (X.field rfl (F.e 2 rfl) (X.fld Try.underlying27 rfl (Try.siz23 _) rfl rfl)) ?_;clear F ac;intro ac F
  refine Y.pg F 2 7 true (X.load rfl (F.e 9 rfl) (X.ld1 (Try.agg23 _) (hC.at 1 rfl))) ?_;clear F ac;intro ac F
  refine Y.pg F 2 7 true (X.len1 Try.underlying23 rfl (F.e 10 rfl)) ?_;clear F ac;intro ac F
  refine Y.pg F 2 7 true (X.binop rfl (F.e 8 rfl) (F.e 11 rfl) (X.lssI Try.underlying3 rfl)) ?_;clear F ac;intro ac F
  refine Y.pv2 F (X.pickT rfl (F.e 7 rfl) (F.e 12 rfl)) (fun _ F=>X.assign rfl (F.e 13 rfl)) ?_;clear F ac;intro ac F
  refine Y.nt F [(4, .bool (decide ((x : Int) < p.nh)))] ?_;clear F ac;intro ac F
  refine Y.ret ?_
  exact Y.ret0 (v := .bool (decide ((x : Int) < p.nh))) F (Y.r1 F) ⟨by simp [isH, h4], G⟩
end
section
open Go.RowKit

set_option maxRecDepth 100000 in
set_option maxHeartbeats 400000 in
theorem costs1_any (x : Int) (w : World) :
  Calls Try.prog 95 #[Vi x] w fun e w' => e = .returned (.bool (!amtB x)) ∧ w' = w := by
 have G := Gr.refl w
 refine Y.calls 6 Try.func95 rfl rfl ?_
 intro ac F0
 have F : Fr ac 6 [(0, Vi x)] := F0.sub _
 clear F0
 refine Y.sg F [(0, Vi x)] (Y.pv F (X.assign rfl (X.kc (.bool false) rfl)) fun ac F=>Y.fin F) ?_;clear F ac;intro ac F
 refine Y.sl ?_
 refine Y.pv F (X.move rfl (F.e 0 rfl)) ?_;clear F ac;intro ac F
 refine Y.pc F 56 (X.a3 (F.e 3 rfl) (X.kc (Vi 0) rfl) (X.kc (Vi 100000) rfl)) Try.func56 (within_any x 0 100000 w) ?_
 clear F ac
 rintro e w' ⟨rfl, hw_⟩
 obtain rfl : w = w' := hw_.symm
 clear hw_
 refine ⟨_, rfl, ?_⟩
 intro ac F
 refine Y.pv2 F (X.notB rfl (F.e 4 rfl) rfl) (fun _ F=>X.assign rfl (F.e 5 rfl)) ?_;clear F ac;intro ac F
 refine Y.nt F [(2, .bool (!(withinB x 0 100000)))] ?_;clear F ac;intro ac F
 refine Y.ret ?_
 exact Y.ret0 (v := .bool (!(withinB x 0 100000))) F (Y.r1 F) ⟨rfl, rfl⟩
set_option maxRecDepth 100000 in
set_option maxHeartbeats 400000 in
theorem idx115_95 (a : Option Addr) (n c : Nat) (xs : List Int) (w : World) (hx : Ints w a n xs) :
  Calls Try.prog 115 #[.slice a n c, .func (.func 95) #[] #[]] w fun e w' => e = .returned (Vi (firI (fun i => !amtB (xs[i]?.getD 0)) n)) ∧ Gr w w' := by
 have G := Gr.refl w
 have hlen := hx.len
 have hlt := hx.lt
 refine Y.calls 19 Try.func115 rfl rfl ?_
 intro ac F0
 have F : Fr ac 19 [(0, .slice a n c), (1, .func (.func 95) #[] #[])] := F0.sub _
 clear F0
 refine Y.sg F [(0, .slice a n c), (1, .func (.func 95) #[] #[])] (Y.pv F (X.assign rfl (X.kc (Vi 0) rfl)) fun ac F=>Y.fin F) ?_;clear F ac;intro ac F
 refine Y.seq ?_
 refine Y.sg F [(0, .slice a n c), (1, .func (.func 95) #[] #[]), (7, Vi n), (8, Vi 0)] (Y.pv F (X.move rfl (F.e 0 rfl)) fun ac F=>Y.pv F (X.len1 Try.underlying34 rfl (F.e 6 rfl)) fun ac F=>Y.pv F (X.move rfl (X.kc (Vi 0) rfl)) fun ac F=>Y.fin F) ?_;clear F ac;intro ac F
 refine Y.block ?_
 have hxB := hx
 have GB := G
 refine Y.loop (fun me_ ac wr => ∃ (i : Nat), me_ = n - i ∧ Gr w wr ∧ i ≤ n ∧ allN (fun i => !(!amtB (xs[i]?.getD 0))) i = true ∧ Fr ac 19 [(0, .slice a n c), (1, .func (.func 95) #[] #[]), (7, Vi n), (8, Vi i)]) _ ⟨0, rfl, Gr.refl _, Nat.zero_le _, rfl, F.sub _⟩ ?_
 clear F
 intro me_ ac w3 hI
 obtain ⟨i, rfl, gr, hi0, hok, F⟩ := hI
 replace G := GB.trans gr
 replace hx := hxB.gr gr
 have GB_ := gr
 clear gr
 refine Y.sg F [(0, .slice a n c), (1, .func (.func 95) #[] #[]), (7, Vi n), (8, Vi i), (9, .bool (decide ((i : Int) < n)))] (Y.pv F (X.binop rfl (F.e 8 rfl) (F.e 7 rfl) (X.lssI Try.underlying3 rfl)) fun ac F=>Y.fin F) ?_;clear F ac;intro ac F
 refine Y.seq ?_
 cases h4 : decide ((i : Int) < n) with
 | false =>
  try rw [h4] at F
  have h4p : ¬ ((i : Int) < n) := of_decide_eq_false h4
  obtain rfl : i = n := by omega
  refine Y.condF (F.e 9 rfl) ?_
  refine Y.exit ?_
  refine X.thenX (X.thenX (X.blockX (X.thenN ?_)))
  refine Y.sg F [(4, Vi (-1))] (Y.pv F (X.assign rfl (X.kc (Vi (-1)) rfl)) fun ac F=>Y.fin F) ?_;clear F ac;intro ac F
  refine Y.ret ?_
  exact Y.ret0 (v := Vi (-1)) F (Y.r1 F) ⟨ret_int ((firI_none hok).symm), G⟩
 | true =>
  try rw [h4] at F
  have h4p : ((i : Int) < n) := of_decide_eq_true h4
  have hi : i < n := by omega
  refine Y.condT (F.e 9 rfl) ?_
  refine Y.skip ?_
  refine X.thenN ?_
  refine Y.seq ?_
  refine Y.block ?_
  refine Y.sg F [(0, .slice a n c), (1, .func (.func 95) #[] #[]), (5, Vi i), (7, Vi n), (8, Vi i)] (Y.pv F (X.move rfl (F.e 8 rfl)) fun ac F=>Y.pv F (X.assign rfl (F.e 10 rfl)) fun ac F=>Y.fin F) ?_;clear F ac;intro ac F
  refine Y.sl ?_
  refine Y.pv3 F (X.move rfl (F.e 1 rfl)) (fun _ F=>X.move rfl (F.e 0 rfl)) (fun _ F=>X.move rfl (F.e 5 rfl)) ?_;clear F ac;intro ac F
  obtain ⟨pd5, pe5, -, pc5⟩ := hx.at (j := i) (by omega)
  subst pe5
  have hC : RCells w3 [(pd5.add i, Vi (xs[i]?.getD 0))] := (RCells.cons pc5 (RCells.nil _))
  clear pc5
  refine Y.pval F (X.w0 rfl) rfl (X.index rfl (F.e 12 rfl) (F.e 13 rfl) (X.idx (k := i) Try.underlying34 (Try.siz3 _) (by omega) (by omega) (by rw [Nat.mul_one]))) ?_;clear F ac;intro ac F
  refine Y.pv F (X.load rfl (F.e 14 rfl) (X.ld1 (Try.agg3 _) (hC.at 0 rfl))) ?_;clear F ac;intro ac F
  refine Y.pcall F (X.w0 rfl) rfl (X.enter (F := 95) rfl (F.e 11 rfl) (X.a1 (F.e 15 rfl)) (enters_of Try.func95 (by kernel_rfl) rfl _)) (costs1_any (xs[i]?.getD 0) w3) ?_
  clear F ac
  rintro e w' ⟨rfl, hw_⟩
  obtain rfl : w3 = w' := hw_.symm
  clear hw_
  refine ⟨_, rfl, ?_⟩
  intro ac F
  refine Y.nt F [(0, .slice (some pd5) n c), (1, .func (.func 95) #[] #[]), (5, Vi i), (7, Vi n), (8, Vi i), (16, .bool (!amtB (xs[i]?.getD 0)))] ?_;clear F ac;intro ac F
  cases h6 : amtB (xs[i]?.getD 0) with
  | false =>
   try rw [h6] at F
   refine Y.condT (F.e 16 rfl) ?_
   refine Y.sg F [(4, Vi i)] (Y.pv F (X.move rfl (F.e 5 rfl)) fun ac F=>Y.pv F (X.assign rfl (F.e 17 rfl)) fun ac F=>Y.fin F) ?_;clear F ac;intro ac F
   refine Y.ret ?_
   refine X.blockR (X.thenR (X.thenR (X.blockR (X.thenR ?_))))
   exact Y.ret0 (v := Vi i) F (Y.r1 F) ⟨ret_int ((firI_some (f := fun i => !amtB (xs[i]?.getD 0)) hi hok (by simp [h6])).symm), G⟩
  | true =>
   try rw [h6] at F
   refine Y.condF (F.e 16 rfl) ?_
   refine Y.skip ?_
   refine X.blockN (X.thenN ?_)
   refine Y.lg F [(0, .slice (some pd5) n c), (1, .func (.func 95) #[] #[]), (7, Vi n), (8, Vi ((i : Int) + 1))] (by
    refine Y.pv F (X.binop rfl (F.e 8 rfl) (X.kc (Vi 1) rfl) (X.addI Try.underlying3 rfl (by omega) (by omega))) fun ac F=>?_
    refine Y.pv F (X.move rfl (F.e 18 rfl)) fun ac F=>?_
    exact Y.fin F) ?_;clear F ac;intro ac F
   refine ⟨_, ?_, i + 1, rfl, GB_, by omega, allN_succ hok (by simp [h6]), F.sub _⟩
   omega
theorem not_notB (f : Nat → Bool) (n : Nat) : allN (fun i => !(!f i)) n = allN f n := allN_congr (fun i _ => by simp)
set_option maxRecDepth 100000 in
set_option maxHeartbeats 400000 in
theorem con94_95 (a : Option Addr) (n c : Nat) (xs : List Int) (w : World) (hx : Ints w a n xs) :
  Calls Try.prog 94 #[.slice a n c, .func (.func 95) #[] #[]] w fun e w' => e = .returned (.bool (!allN (fun i => amtB (xs[i]?.getD 0)) n)) ∧ Gr w w' := by
 have G := Gr.refl w
 refine Y.calls 9 Try.func94 rfl rfl ?_
 intro ac F0
 have F : Fr ac 9 [(0, .slice a n c), (1, .func (.func 95) #[] #[])] := F0.sub _
 clear F0
 refine Y.sg F [(0, .slice a n c), (1, .func (.func 95) #[] #[])] (Y.pv F (X.assign rfl (X.kc (.bool false) rfl)) fun ac F=>Y.fin F) ?_;clear F ac;intro ac F
 refine Y.sl ?_
 refine Y.pv2 F (X.move rfl (F.e 0 rfl)) (fun _ F=>X.move rfl (F.e 1 rfl)) ?_;clear F ac;intro ac F
 refine Y.pc F 115 (X.a2 (F.e 5 rfl) (F.e 6 rfl)) Try.func115 (idx115_95 a n c xs w hx) ?_
 clear F ac
 rintro e w3 ⟨rfl, g⟩
 refine ⟨_, rfl, ?_⟩
 intro ac F
 replace G := G.trans g
 replace hx := hx.gr g
 clear g
 refine Y.pv2 F (X.binop rfl (F.e 7 rfl) (X.kc (Vi 0) rfl) (X.geqI Try.underlying3 rfl)) (fun _ F=>X.assign rfl (F.e 8 rfl)) ?_;clear F ac;intro ac F
 refine Y.nt F [(4, .bool (decide ((0 : Int) ≤ (firI (fun i => !amtB (xs[i]?.getD 0)) n))))] ?_;clear F ac;intro ac F
 refine Y.ret ?_
 exact Y.ret0 (v := .bool (decide ((0 : Int) ≤ (firI (fun i => !amtB (xs[i]?.getD 0)) n)))) F (Y.r1 F) ⟨by rw [firI_any (f := fun i => !amtB (xs[i]?.getD 0)), not_notB], G⟩
set_option maxRecDepth 100000 in
set_option maxHeartbeats 400000 in
theorem costs_any (a : Option Addr) (n c : Nat) (xs : List Int) (w : World) (hx : Ints w a n xs) :
  Calls Try.prog 55 #[.slice a n c] w fun e w' => e = .returned (.bool (allN (fun i => amtB (xs[i]?.getD 0)) n)) ∧ Gr w w' := by
 have G := Gr.refl w
 refine Y.calls 6 Try.func55 rfl rfl ?_
 intro ac F0
 have F : Fr ac 6 [(0, .slice a n c)] := F0.sub _
 clear F0
 refine Y.sg F [(0, .slice a n c)] (Y.pv F (X.assign rfl (X.kc (.bool false) rfl)) fun ac F=>Y.fin F) ?_;clear F ac;intro ac F
 refine Y.sl ?_
 refine Y.pv F (X.move rfl (F.e 0 rfl)) ?_;clear F ac;intro ac F
 refine Y.pc F 94 (X.a2 (F.e 3 rfl) (X.kc (.func (.func 95) #[] #[]) rfl)) Try.func94 (con94_95 a n c xs w hx) ?_
 clear F ac
 rintro e w3 ⟨rfl, g⟩
 refine ⟨_, rfl, ?_⟩
 intro ac F
 replace G := G.trans g
 replace hx := hx.gr g
 clear g
 refine Y.pv2 F (X.notB rfl (F.e 4 rfl) rfl) (fun _ F=>X.assign rfl (F.e 5 rfl)) ?_;clear F ac;intro ac F
 refine Y.nt F [(2, .bool (!(!allN (fun i => amtB (xs[i]?.getD 0)) n)))] ?_;clear F ac;intro ac F
 refine Y.ret ?_
 exact Y.ret0 (v := .bool (!(!allN (fun i => amtB (xs[i]?.getD 0)) n))) F (Y.r1 F) ⟨by rw [Bool.not_not], G⟩
end
section
open Go.RowKit

set_option maxRecDepth 100000 in
set_option maxHeartbeats 400000 in
theorem same53_any (u s : ByteArray) (x1 x2 x3 : Int) (bt : Nat) (w : World) (hbt : w.cell? ⟨bt, 0, none⟩ = some (.string s)) :
  Calls Try.prog 53 #[.agg #[.string u, Vi x1, Vi x2, Vi x3], Vp bt] w fun e w' => e = .returned (.bool (u.toList == s.toList)) ∧ Gr w w' := by
 have G := Gr.refl w
 have hC : RCells w [(Ad bt 0, .string s)] := (RCells.cons hbt (RCells.nil _))
 refine Y.calls 9 Try.func53 rfl rfl ?_
 intro ac F0
 have F : Fr ac 9 [(0, .agg #[.string u, Vi x1, Vi x2, Vi x3]), (1, Vp bt)] := F0.sub _
 clear F0
 refine Y.sl ?_
 refine Y.pv F (X.box rfl (F.e 0 rfl) X.bx) ?_;clear F ac;intro ac F
 obtain ⟨w3, hw_, g, hb, hbl, hC2⟩ := Y.bxd hC #[.string u, Vi x1, Vi x2, Vi x3] 74;rw [hw_];clear hw_
 replace G := G.trans g
 replace hC := hC2
 clear hC2
 clear g hb hbl
 refine Y.pv F (X.assign rfl (X.kc (.bool false) rfl)) ?_;clear F ac;intro ac F
 refine Y.nt F [(1, Vp bt), (2, Vp w.heap.size)] ?_;clear F ac;intro ac F
 refine Y.sg F [(3, .bool (u.toList == s.toList))] (by
  refine Y.pv F (X.field rfl (F.e 2 rfl) (X.fld Try.underlying74 rfl (Try.siz9 _) rfl rfl)) fun ac F=>?_
  refine Y.pv F (X.load rfl (F.e 4 rfl) (X.ld1 (Try.agg9 _) (hC.at 1 rfl))) fun ac F=>?_
  refine Y.pv F (X.field rfl (F.e 1 rfl) (X.fld Try.underlying74 rfl (Try.siz9 _) rfl rfl)) fun ac F=>?_
  refine Y.pv F (X.load rfl (F.e 6 rfl) (X.ld1 (Try.agg9 _) (hC.at 0 rfl))) fun ac F=>?_
  refine Y.pv F (X.binop rfl (F.e 5 rfl) (F.e 7 rfl) (Y.eqlS Try.underlying9 rfl)) fun ac F=>?_
  refine Y.pv F (X.assign rfl (F.e 8 rfl)) fun ac F=>?_
  exact Y.fin F) ?_;clear F ac;intro ac F
 refine Y.ret ?_
 exact Y.ret0 (v := .bool (u.toList == s.toList)) F (Y.r1 F) ⟨rfl, G⟩
set_option maxRecDepth 100000 in
set_option maxHeartbeats 400000 in
theorem idx93_any (p : Pb) (a : Option Addr) (n c bt : Nat) (s : ByteArray) (w : World) (hx : TbAt w 4 a n c (tvV p)) (hbt : w.cell? ⟨bt, 0, none⟩ = some (.string s)) :
  Calls Try.prog 93 #[.slice a n c, .func (.func 53) #[] #[Vp bt]] w fun e w' => e = .returned (Vi (firI (fun i => ((p.tn i).toList == s.toList)) n)) ∧ Gr w w' := by
 have G := Gr.refl w
 have hcp := hx.cap
 have hlt := hx.lt
 have hC : RCells w [(Ad bt 0, .string s)] := (RCells.cons hbt (RCells.nil _))
 refine Y.calls 19 Try.func93 rfl rfl ?_
 intro ac F0
 have F : Fr ac 19 [(0, .slice a n c), (1, .func (.func 53) #[] #[Vp bt])] := F0.sub _
 clear F0
 refine Y.sg F [(0, .slice a n c), (1, .func (.func 53) #[] #[Vp bt])] (Y.pv F (X.assign rfl (X.kc (Vi 0) rfl)) fun ac F=>Y.fin F) ?_;clear F ac;intro ac F
 refine Y.seq ?_
 refine Y.sg F [(0, .slice a n c), (1, .func (.func 53) #[] #[Vp bt]), (7, Vi n), (8, Vi 0)] (Y.pv F (X.move rfl (F.e 0 rfl)) fun ac F=>Y.pv F (X.len1 Try.underlying22 rfl (F.e 6 rfl)) fun ac F=>Y.pv F (X.move rfl (X.kc (Vi 0) rfl)) fun ac F=>Y.fin F) ?_;clear F ac;intro ac F
 refine Y.block ?_
 have hxB := hx
 have hCB := hC
 have GB := G
 refine Y.loop (fun me_ ac wr => ∃ (i : Nat), me_ = n - i ∧ Gr w wr ∧ i ≤ n ∧ allN (fun i => !(((p.tn i).toList == s.toList))) i = true ∧ Fr ac 19 [(0, .slice a n c), (1, .func (.func 53) #[] #[Vp bt]), (7, Vi n), (8, Vi i)]) _ ⟨0, rfl, Gr.refl _, Nat.zero_le _, rfl, F.sub _⟩ ?_
 clear F
 intro me_ ac w3 hI
 obtain ⟨i, rfl, gr, hi0, hok, F⟩ := hI
 replace G := GB.trans gr
 replace hC := hCB.gr gr
 replace hx := hxB.gr gr
 have GB_ := gr
 clear gr
 refine Y.sg F [(0, .slice a n c), (1, .func (.func 53) #[] #[Vp bt]), (7, Vi n), (8, Vi i), (9, .bool (decide ((i : Int) < n)))] (Y.pv F (X.binop rfl (F.e 8 rfl) (F.e 7 rfl) (X.lssI Try.underlying3 rfl)) fun ac F=>Y.fin F) ?_;clear F ac;intro ac F
 refine Y.seq ?_
 cases h4 : decide ((i : Int) < n) with
 | false =>
  try rw [h4] at F
  have h4p : ¬ ((i : Int) < n) := of_decide_eq_false h4
  obtain rfl : i = n := by omega
  refine Y.condF (F.e 9 rfl) ?_
  refine Y.exit ?_
  refine X.thenX (X.thenX (X.blockX (X.thenN ?_)))
  refine Y.sg F [(4, Vi (-1))] (Y.pv F (X.assign rfl (X.kc (Vi (-1)) rfl)) fun ac F=>Y.fin F) ?_;clear F ac;intro ac F
  refine Y.ret ?_
  exact Y.ret0 (v := Vi (-1)) F (Y.r1 F) ⟨ret_int ((firI_none hok).symm), G⟩
 | true =>
  try rw [h4] at F
  have h4p : ((i : Int) < n) := of_decide_eq_true h4
  have hi : i < n := by omega
  refine Y.condT (F.e 9 rfl) ?_
  refine Y.skip ?_
  refine X.thenN ?_
  refine Y.seq ?_
  refine Y.block ?_
  refine Y.sg F [(0, .slice a n c), (1, .func (.func 53) #[] #[Vp bt]), (5, Vi i), (7, Vi n), (8, Vi i)] (Y.pv F (X.move rfl (F.e 8 rfl)) fun ac F=>Y.pv F (X.assign rfl (F.e 10 rfl)) fun ac F=>Y.fin F) ?_;clear F ac;intro ac F
  refine Y.sl ?_
  refine Y.pv3 F (X.move rfl (F.e 1 rfl)) (fun _ F=>X.move rfl (F.e 0 rfl)) (fun _ F=>X.move rfl (F.e 5 rfl)) ?_;clear F ac;intro ac F
  obtain ⟨pd5, pe5, -, pc5⟩ := hx.at (j := i) (by omega)
  subst pe5
  replace hC := hC.append (show RCells w3 (Y.cs (pd5.add (i * 4)) [.string (p.tn i), Vi (p.tv i 1), Vi (p.tv i 2), Vi (p.tv i 3)]) from (RCells.cons (pc5 0 (by decide)) (RCells.cons (pc5 1 (by decide)) (RCells.cons (pc5 2 (by decide)) (RCells.cons (pc5 3 (by decide)) (RCells.nil _))))))
  clear pc5
  refine Y.pv2 F (X.index rfl (F.e 12 rfl) (F.e 13 rfl) (X.idx (k := i) Try.underlying22 (Try.siz74 _) (by omega) (by omega) rfl)) (fun _ F=>X.load rfl (F.e 14 rfl) (X.ldN (Try.agg74 _) (Try.siz74 _) (Y.atz (pd5.add (i * 4)) (Y.AtFrom.cons (hC.at 1 rfl) (Y.AtFrom.cons (hC.at 2 rfl) (Y.AtFrom.cons (hC.at 3 rfl) (Y.AtFrom.cons (hC.at 4 rfl) (Y.AtFrom.nil _ _ _)))))))) ?_;clear F ac;intro ac F
  refine Y.pcall F (X.w0 rfl) rfl (X.enter (F := 53) rfl (F.e 11 rfl) (X.a1 (F.e 15 rfl)) (enters_of Try.func53 (by kernel_rfl) rfl _)) (same53_any (p.tn i) s (p.tv i 1) (p.tv i 2) (p.tv i 3) bt w3 (hC.at 0 rfl)) ?_
  clear F ac
  rintro e w6 ⟨rfl, g⟩
  refine ⟨_, rfl, ?_⟩
  intro ac F
  replace G := G.trans g
  replace hC := hC.gr g
  replace GB_ := GB_.trans g
  replace hx := hx.gr g
  clear g
  refine Y.nt F [(0, .slice (some pd5) n c), (1, .func (.func 53) #[] #[Vp bt]), (5, Vi i), (7, Vi n), (8, Vi i), (16, .bool ((p.tn i).toList == s.toList))] ?_;clear F ac;intro ac F
  cases h7 : ((p.tn i).toList == s.toList) with
  | false =>
   try rw [h7] at F
   have h7p : ¬ (p.tn i).toList = s.toList := by simpa using h7
   refine Y.condF (F.e 16 rfl) ?_
   refine Y.skip ?_
   refine X.blockN (X.thenN ?_)
   refine Y.lg F [(0, .slice (some pd5) n c), (1, .func (.func 53) #[] #[Vp bt]), (7, Vi n), (8, Vi ((i : Int) + 1))] (by
    refine Y.pv F (X.binop rfl (F.e 8 rfl) (X.kc (Vi 1) rfl) (X.addI Try.underlying3 rfl (by omega) (by omega))) fun ac F=>?_
    refine Y.pv F (X.move rfl (F.e 18 rfl)) fun ac F=>?_
    exact Y.fin F) ?_;clear F ac;intro ac F
   refine ⟨_, ?_, i + 1, rfl, GB_, by omega, allN_succ hok (by simp [h7p]), F.sub _⟩
   omega
  | true =>
   try rw [h7] at F
   have h7p : (p.tn i).toList = s.toList := by simpa using h7
   refine Y.condT (F.e 16 rfl) ?_
   refine Y.sg F [(4, Vi i)] (Y.pv F (X.move rfl (F.e 5 rfl)) fun ac F=>Y.pv F (X.assign rfl (F.e 17 rfl)) fun ac F=>Y.fin F) ?_;clear F ac;intro ac F
   refine Y.ret ?_
   refine X.blockR (X.thenR (X.thenR (X.blockR (X.thenR ?_))))
   exact Y.ret0 (v := Vi i) F (Y.r1 F) ⟨ret_int ((firI_some (f := fun i => ((p.tn i).toList == s.toList)) hi hok (by simp [h7p])).symm), G⟩
set_option maxRecDepth 100000 in
set_option maxHeartbeats 400000 in
theorem con52_any (p : Pb) (a : Option Addr) (n c bt : Nat) (s : ByteArray) (w : World) (hx : TbAt w 4 a n c (tvV p)) (hbt : w.cell? ⟨bt, 0, none⟩ = some (.string s)) :
  Calls Try.prog 52 #[.slice a n c, .func (.func 53) #[] #[Vp bt]] w fun e w' => e = .returned (.bool (!allN (fun i => !((p.tn i).toList == s.toList)) n)) ∧ Gr w w' := by
 have G := Gr.refl w
 have hcp := hx.cap
 have hlt := hx.lt
 have hC : RCells w [(Ad bt 0, .string s)] := (RCells.cons hbt (RCells.nil _))
 refine Y.calls 9 Try.func52 rfl rfl ?_
 intro ac F0
 have F : Fr ac 9 [(0, .slice a n c), (1, .func (.func 53) #[] #[Vp bt])] := F0.sub _
 clear F0
 refine Y.sg F [(0, .slice a n c), (1, .func (.func 53) #[] #[Vp bt])] (Y.pv F (X.assign rfl (X.kc (.bool false) rfl)) fun ac F=>Y.fin F) ?_;clear F ac;intro ac F
 refine Y.sl ?_
 refine Y.pv2 F (X.move rfl (F.e 0 rfl)) (fun _ F=>X.move rfl (F.e 1 rfl)) ?_;clear F ac;intro ac F
 refine Y.pc F 93 (X.a2 (F.e 5 rfl) (F.e 6 rfl)) Try.func93 (idx93_any p a n c bt s w hx (hC.at 0 rfl)) ?_
 clear F ac
 rintro e w3 ⟨rfl, g⟩
 refine ⟨_, rfl, ?_⟩
 intro ac F
 replace G := G.trans g
 replace hC := hC.gr g
 replace hx := hx.gr g
 clear g
 refine Y.pv2 F (X.binop rfl (F.e 7 rfl) (X.kc (Vi 0) rfl) (X.geqI Try.underlying3 rfl)) (fun _ F=>X.assign rfl (F.e 8 rfl)) ?_;clear F ac;intro ac F
 refine Y.nt F [(4, .bool (decide ((0 : Int) ≤ (firI (fun i => ((p.tn i).toList == s.toList)) n))))] ?_;clear F ac;intro ac F
 refine Y.ret ?_
 exact Y.ret0 (v := .bool (decide ((0 : Int) ≤ (firI (fun i => ((p.tn i).toList == s.toList)) n)))) F (Y.r1 F) ⟨by rw [firI_any (f := fun i => ((p.tn i).toList == s.toList))], G⟩
set_option maxRecDepth 100000 in
set_option maxHeartbeats 400000 in
theorem same58_any (u s : ByteArray) (x1 x2 x3 x4 x5 : Int) (bt : Nat) (w : World) (hbt : w.cell? ⟨bt, 0, none⟩ = some (.string s)) :
  Calls Try.prog 58 #[.agg #[.string u, Vi x1, Vi x2, Vi x3, Vi x4, Vi x5], Vp bt] w fun e w' => e = .returned (.bool (u.toList == s.toList)) ∧ Gr w w' := by
 have G := Gr.refl w
 have hC : RCells w [(Ad bt 0, .string s)] := (RCells.cons hbt (RCells.nil _))
 refine Y.calls 9 Try.func58 rfl rfl ?_
 intro ac F0
 have F : Fr ac 9 [(0, .agg #[.string u, Vi x1, Vi x2, Vi x3, Vi x4, Vi x5]), (1, Vp bt)] := F0.sub _
 clear F0
 refine Y.sl ?_
 refine Y.pv F (X.box rfl (F.e 0 rfl) X.bx) ?_;clear F ac;intro ac F
 obtain ⟨w3, hw_, g, hb, hbl, hC2⟩ := Y.bxd hC #[.string u, Vi x1, Vi x2, Vi x3, Vi x4, Vi x5] 53;rw [hw_];clear hw_
 replace G := G.trans g
 replace hC := hC2
 clear hC2
 clear g hb hbl
 refine Y.pv F (X.assign rfl (X.kc (.bool false) rfl)) ?_;clear F ac;intro ac F
 refine Y.nt F [(1, Vp bt), (2, Vp w.heap.size)] ?_;clear F ac;intro ac F
 refine Y.sg F [(3, .bool (u.toList == s.toList))] (by
  refine Y.pv F (X.field rfl (F.e 2 rfl) (X.fld Try.underlying53 rfl (Try.siz9 _) rfl rfl)) fun ac F=>?_
  refine Y.pv F (X.load rfl (F.e 4 rfl) (X.ld1 (Try.agg9 _) (hC.at 1 rfl))) fun ac F=>?_
  refine Y.pv F (X.field rfl (F.e 1 rfl) (X.fld Try.underlying53 rfl (Try.siz9 _) rfl rfl)) fun ac F=>?_
  refine Y.pv F (X.load rfl (F.e 6 rfl) (X.ld1 (Try.agg9 _) (hC.at 0 rfl))) fun ac F=>?_
  refine Y.pv F (X.binop rfl (F.e 5 rfl) (F.e 7 rfl) (Y.eqlS Try.underlying9 rfl)) fun ac F=>?_
  refine Y.pv F (X.assign rfl (F.e 8 rfl)) fun ac F=>?_
  exact Y.fin F) ?_;clear F ac;intro ac F
 refine Y.ret ?_
 exact Y.ret0 (v := .bool (u.toList == s.toList)) F (Y.r1 F) ⟨rfl, G⟩
set_option maxRecDepth 100000 in
set_option maxHeartbeats 400000 in
theorem idx96_any (p : Pb) (a : Option Addr) (n c bt : Nat) (s : ByteArray) (w : World) (hx : TbAt w 6 a n c (hvV p)) (hbt : w.cell? ⟨bt, 0, none⟩ = some (.string s)) :
  Calls Try.prog 96 #[.slice a n c, .func (.func 58) #[] #[Vp bt]] w fun e w' => e = .returned (Vi (firI (fun i => ((p.hn i).toList == s.toList)) n)) ∧ Gr w w' := by
 have G := Gr.refl w
 have hcp := hx.cap
 have hlt := hx.lt
 have hC : RCells w [(Ad bt 0, .string s)] := (RCells.cons hbt (RCells.nil _))
 refine Y.calls 19 Try.func96 rfl rfl ?_
 intro ac F0
 have F : Fr ac 19 [(0, .slice a n c), (1, .func (.func 58) #[] #[Vp bt])] := F0.sub _
 clear F0
 refine Y.sg F [(0, .slice a n c), (1, .func (.func 58) #[] #[Vp bt])] (Y.pv F (X.assign rfl (X.kc (Vi 0) rfl)) fun ac F=>Y.fin F) ?_;clear F ac;intro ac F
 refine Y.seq ?_
 refine Y.sg F [(0, .slice a n c), (1, .func (.func 58) #[] #[Vp bt]), (7, Vi n), (8, Vi 0)] (Y.pv F (X.move rfl (F.e 0 rfl)) fun ac F=>Y.pv F (X.len1 Try.underlying23 rfl (F.e 6 rfl)) fun ac F=>Y.pv F (X.move rfl (X.kc (Vi 0) rfl)) fun ac F=>Y.fin F) ?_;clear F ac;intro ac F
 refine Y.block ?_
 have hxB := hx
 have hCB := hC
 have GB := G
 refine Y.loop (fun me_ ac wr => ∃ (i : Nat), me_ = n - i ∧ Gr w wr ∧ i ≤ n ∧ allN (fun i => !(((p.hn i).toList == s.toList))) i = true ∧ Fr ac 19 [(0, .slice a n c), (1, .func (.func 58) #[] #[Vp bt]), (7, Vi n), (8, Vi i)]) _ ⟨0, rfl, Gr.refl _, Nat.zero_le _, rfl, F.sub _⟩ ?_
 clear F
 intro me_ ac w3 hI
 obtain ⟨i, rfl, gr, hi0, hok, F⟩ := hI
 replace G := GB.trans gr
 replace hC := hCB.gr gr
 replace hx := hxB.gr gr
 have GB_ := gr
 clear gr
 refine Y.sg F [(0, .slice a n c), (1, .func (.func 58) #[] #[Vp bt]), (7, Vi n), (8, Vi i), (9, .bool (decide ((i : Int) < n)))] (Y.pv F (X.binop rfl (F.e 8 rfl) (F.e 7 rfl) (X.lssI Try.underlying3 rfl)) fun ac F=>Y.fin F) ?_;clear F ac;intro ac F
 refine Y.seq ?_
 cases h4 : decide ((i : Int) < n) with
 | false =>
  try rw [h4] at F
  have h4p : ¬ ((i : Int) < n) := of_decide_eq_false h4
  obtain rfl : i = n := by omega
  refine Y.condF (F.e 9 rfl) ?_
  refine Y.exit ?_
  refine X.thenX (X.thenX (X.blockX (X.thenN ?_)))
  refine Y.sg F [(4, Vi (-1))] (Y.pv F (X.assign rfl (X.kc (Vi (-1)) rfl)) fun ac F=>Y.fin F) ?_;clear F ac;intro ac F
  refine Y.ret ?_
  exact Y.ret0 (v := Vi (-1)) F (Y.r1 F) ⟨ret_int ((firI_none hok).symm), G⟩
 | true =>
  try rw [h4] at F
  have h4p : ((i : Int) < n) := of_decide_eq_true h4
  have hi : i < n := by omega
  refine Y.condT (F.e 9 rfl) ?_
  refine Y.skip ?_
  refine X.thenN ?_
  refine Y.seq ?_
  refine Y.block ?_
  refine Y.sg F [(0, .slice a n c), (1, .func (.func 58) #[] #[Vp bt]), (5, Vi i), (7, Vi n), (8, Vi i)] (Y.pv F (X.move rfl (F.e 8 rfl)) fun ac F=>Y.pv F (X.assign rfl (F.e 10 rfl)) fun ac F=>Y.fin F) ?_;clear F ac;intro ac F
  refine Y.sl ?_
  refine Y.pv3 F (X.move rfl (F.e 1 rfl)) (fun _ F=>X.move rfl (F.e 0 rfl)) (fun _ F=>X.move rfl (F.e 5 rfl)) ?_;clear F ac;intro ac F
  obtain ⟨pd5, pe5, -, pc5⟩ := hx.at (j := i) (by omega)
  subst pe5
  replace hC := hC.append (show RCells w3 (Y.cs (pd5.add (i * 6)) [.string (p.hn i), Vi (p.hv i 1), Vi (p.hv i 2), Vi (p.hv i 3), Vi (p.hv i 4), Vi (p.hv i 5)]) from (RCells.cons (pc5 0 (by decide)) (RCells.cons (pc5 1 (by decide)) (RCells.cons (pc5 2 (by decide)) (RCells.cons (pc5 3 (by decide)) (RCells.cons (pc5 4 (by decide)) (RCells.cons (pc5 5 (by decide)) (RCells.nil _))))))))
  clear pc5
  refine Y.pv2 F (X.index rfl (F.e 12 rfl) (F.e 13 rfl) (X.idx (k := i) Try.underlying23 (Try.siz53 _) (by omega) (by omega) rfl)) (fun _ F=>X.load rfl (F.e 14 rfl) (X.ldN (Try.agg53 _) (Try.siz53 _) (Y.atz (pd5.add (i * 6)) (Y.AtFrom.cons (hC.at 1 rfl) (Y.AtFrom.cons (hC.at 2 rfl) (Y.AtFrom.cons (hC.at 3 rfl) (Y.AtFrom.cons (hC.at 4 rfl) (Y.AtFrom.cons (hC.at 5 rfl) (Y.AtFrom.cons (hC.at 6 rfl) (Y.AtFrom.nil _ _ _)))))))))) ?_;clear F ac;intro ac F
  refine Y.pcall F (X.w0 rfl) rfl (X.enter (F := 58) rfl (F.e 11 rfl) (X.a1 (F.e 15 rfl)) (enters_of Try.func58 (by kernel_rfl) rfl _)) (same58_any (p.hn i) s (p.hv i 1) (p.hv i 2) (p.hv i 3) (p.hv i 4) (p.hv i 5) bt w3 (hC.at 0 rfl)) ?_
  clear F ac
  rintro e w6 ⟨rfl, g⟩
  refine ⟨_, rfl, ?_⟩
  intro ac F
  replace G := G.trans g
  replace hC := hC.gr g
  replace GB_ := GB_.trans g
  replace hx := hx.gr g
  clear g
  refine Y.nt F [(0, .slice (some pd5) n c), (1, .func (.func 58) #[] #[Vp bt]), (5, Vi i), (7, Vi n), (8, Vi i), (16, .bool ((p.hn i).toList == s.toList))] ?_;clear F ac;intro ac F
  cases h7 : ((p.hn i).toList == s.toList) with
  | false =>
   try rw [h7] at F
   have h7p : ¬ (p.hn i).toList = s.toList := by simpa using h7
   refine Y.condF (F.e 16 rfl) ?_
   refine Y.skip ?_
   refine X.blockN (X.thenN ?_)
   refine Y.lg F [(0, .slice (some pd5) n c), (1, .func (.func 58) #[] #[Vp bt]), (7, Vi n), (8, Vi ((i : Int) + 1))] (by
    refine Y.pv F (X.binop rfl (F.e 8 rfl) (X.kc (Vi 1) rfl) (X.addI Try.underlying3 rfl (by omega) (by omega))) fun ac F=>?_
    refine Y.pv F (X.move rfl (F.e 18 rfl)) fun ac F=>?_
    exact Y.fin F) ?_;clear F ac;intro ac F
   refine ⟨_, ?_, i + 1, rfl, GB_, by omega, allN_succ hok (by simp [h7p]), F.sub _⟩
   omega
  | true =>
   try rw [h7] at F
   have h7p : (p.hn i).toList = s.toList := by simpa using h7
   refine Y.condT (F.e 16 rfl) ?_
   refine Y.sg F [(4, Vi i)] (Y.pv F (X.move rfl (F.e 5 rfl)) fun ac F=>Y.pv F (X.assign rfl (F.e 17 rfl)) fun ac F=>Y.fin F) ?_;clear F ac;intro ac F
   refine Y.ret ?_
   refine X.blockR (X.thenR (X.thenR (X.blockR (X.thenR ?_))))
   exact Y.ret0 (v := Vi i) F (Y.r1 F) ⟨ret_int ((firI_some (f := fun i => ((p.hn i).toList == s.toList)) hi hok (by simp [h7p])).symm), G⟩
set_option maxRecDepth 100000 in
set_option maxHeartbeats 400000 in
theorem con57_any (p : Pb) (a : Option Addr) (n c bt : Nat) (s : ByteArray) (w : World) (hx : TbAt w 6 a n c (hvV p)) (hbt : w.cell? ⟨bt, 0, none⟩ = some (.string s)) :
  Calls Try.prog 57 #[.slice a n c, .func (.func 58) #[] #[Vp bt]] w fun e w' => e = .returned (.bool (!allN (fun i => !((p.hn i).toList == s.toList)) n)) ∧ Gr w w' := by
 have G := Gr.refl w
 have hcp := hx.cap
 have hlt := hx.lt
 have hC : RCells w [(Ad bt 0, .string s)] := (RCells.cons hbt (RCells.nil _))
 refine Y.calls 9 Try.func57 rfl rfl ?_
 intro ac F0
 have F : Fr ac 9 [(0, .slice a n c), (1, .func (.func 58) #[] #[Vp bt])] := F0.sub _
 clear F0
 refine Y.sg F [(0, .slice a n c), (1, .func (.func 58) #[] #[Vp bt])] (Y.pv F (X.assign rfl (X.kc (.bool false) rfl)) fun ac F=>Y.fin F) ?_;clear F ac;intro ac F
 refine Y.sl ?_
 refine Y.pv2 F (X.move rfl (F.e 0 rfl)) (fun _ F=>X.move rfl (F.e 1 rfl)) ?_;clear F ac;intro ac F
 refine Y.pc F 96 (X.a2 (F.e 5 rfl) (F.e 6 rfl)) Try.func96 (idx96_any p a n c bt s w hx (hC.at 0 rfl)) ?_
 clear F ac
 rintro e w3 ⟨rfl, g⟩
 refine ⟨_, rfl, ?_⟩
 intro ac F
 replace G := G.trans g
 replace hC := hC.gr g
 replace hx := hx.gr g
 clear g
 refine Y.pv2 F (X.binop rfl (F.e 7 rfl) (X.kc (Vi 0) rfl) (X.geqI Try.underlying3 rfl)) (fun _ F=>X.assign rfl (F.e 8 rfl)) ?_;clear F ac;intro ac F
 refine Y.nt F [(4, .bool (decide ((0 : Int) ≤ (firI (fun i => ((p.hn i).toList == s.toList)) n))))] ?_;clear F ac;intro ac F
 refine Y.ret ?_
 exact Y.ret0 (v := .bool (decide ((0 : Int) ≤ (firI (fun i => ((p.hn i).toList == s.toList)) n)))) F (Y.r1 F) ⟨by rw [firI_any (f := fun i => ((p.hn i).toList == s.toList))], G⟩
end
end Go.Proofs.Ytodedneanlekdaa
