/- Several texts of this claim in one file. (1) The first ones by a key, as they lie in memory. Nothing of the program is proved here. (2) Copies of rows into new memory. Nothing of the program is proved here. (3) Arguments that came in: a problem, numbers, read off their data. (4) Putting in and what is full, without addresses; what lies where behind it. Nothing of the program is proved here. -/
import Derived.Test.YtodedneanlekdaaBd10
import Derived.Deep.Upon
import Derived.Laws.StructEq
import Derived.DataElems
import Derived.Test.YtodedneanlekdaaChecked
import Derived.Deep.Slices
import Derived.Deep.Fields
import Derived.ChangeSame
import Derived.Lib.SmallJoins
import Derived.SizedLaws
import Derived.ProofKit
namespace Go.Proofs.Ytodedneanlekdaa
set_option linter.unusedSimpArgs false
set_option linter.unusedVariables false
section
set_option linter.unusedVariables false
open Go.RowKit
structure BegE where
  xs : List Int
  a : Option Addr
  c : Nat
abbrev RkL := List ((Int × Int) × BegE)
def keysV (L : RkL) : List Value := L.flatMap fun x => [.int .i64 x.1.1, .int .i64 x.1.2]
def begsV (L : RkL) : List Value := L.map fun x => .slice x.2.a x.2.xs.length x.2.c
theorem keys_len (L : RkL) : (keysV L).length = L.length * 2 := by
  unfold keysV
  induction L with
  | nil => rfl
  | cons x L ih => simp only [List.flatMap_cons, List.length_append, ih, List.length_cons, List.length_nil]; omega
theorem keys_app (L M : RkL) : keysV (L ++ M) = keysV L ++ keysV M := by unfold keysV; rw [List.flatMap_append]
theorem keys_take (L : RkL) (i : Nat) (hi : i ≤ L.length) : (keysV L).take (i * 2) = keysV (L.take i) := by
  have h : keysV L = keysV (L.take i) ++ keysV (L.drop i) := by rw [← keys_app, List.take_append_drop]
  rw [h]
  exact List.take_left' (by rw [keys_len, List.length_take, Nat.min_eq_left hi])
theorem keys_drop (L : RkL) (i : Nat) (hi : i ≤ L.length) : (keysV L).drop (i * 2) = keysV (L.drop i) := by
  have h : keysV L = keysV (L.take i) ++ keysV (L.drop i) := by rw [← keys_app, List.take_append_drop]
  rw [h]
  exact List.drop_left' (by rw [keys_len, List.length_take, Nat.min_eq_left hi])
theorem keys_all (L : RkL) : ((keysV L).all fun v => v.oneCell') = true := by
  rw [List.all_eq_true]
  intro v hv
  simp only [keysV, List.mem_flatMap] at hv
  obtain ⟨x, _, hv⟩ := hv
  simp at hv
  rcases hv with rfl | rfl <;> rfl
theorem keys_get (L : RkL) (i : Nat) (x : (Int × Int) × BegE) (h : L[i]? = some x) : (keysV L)[i * 2]? = some (.int .i64 x.1.1) ∧ (keysV L)[i * 2 + 1]? = some (.int .i64 x.1.2) := by
  have hi : i < L.length := (List.getElem?_eq_some_iff.1 h).1
  have h1 : keysV L = keysV (L.take i) ++ keysV (L.drop i) := by rw [← keys_app, List.take_append_drop]
  have hl : (keysV (L.take i)).length = i * 2 := by rw [keys_len, List.length_take, Nat.min_eq_left (by omega)]
  have h2 : L.drop i = x :: L.drop (i + 1) := by
    rw [List.drop_eq_getElem_cons hi]
    rw [(List.getElem?_eq_some_iff.1 h).2]
  rw [h1, h2]
  constructor
  · rw [List.getElem?_append_right (by omega), hl]; simp [keysV]
  · rw [List.getElem?_append_right (by omega), hl]; simp [keysV]
theorem begs_all (L : RkL) : ((begsV L).all fun v => v.oneCell') = true := by
  rw [List.all_eq_true]
  intro v hv
  simp only [begsV, List.mem_map] at hv
  obtain ⟨x, _, rfl⟩ := hv
  rfl
theorem keys_ins (L : RkL) (i : Nat) (hi : i ≤ L.length) (x : (Int × Int) × BegE) : (keysV L).take (i * 2) ++ [.int .i64 x.1.1, .int .i64 x.1.2] ++ (keysV L).drop (i * 2) = keysV (insAt L i x) := by
  rw [keys_take L i hi, keys_drop L i hi]
  unfold insAt
  rw [keys_app]
  simp [keysV]
theorem begs_ins (L : RkL) (i : Nat) (x : (Int × Int) × BegE) : (begsV L).take (i * 1) ++ [.slice x.2.a x.2.xs.length x.2.c] ++ (begsV L).drop (i * 1) = begsV (insAt L i x) := by
  unfold insAt begsV
  rw [Nat.mul_one, List.map_append, List.map_cons, List.map_take, List.map_drop]
  simp
theorem OwnR.take {W : World} {B e k n m c : Nat} {a : Option Addr} {xs : List Value} (h : OwnR W B e k (.slice a n c) n xs) (hm : m ≤ n) (h0 : 0 < m) : OwnR W B e k (.slice a m c) m (xs.take (m * k)) := by
  have hl := h.len
  refine ⟨by rw [List.length_take, hl]; exact Nat.min_eq_left (Nat.mul_le_mul_right _ hm), ?_⟩
  rcases h.2 with ⟨_, h1⟩ | ⟨g, cap, cur, e1, h2, h3, h4, h5, h6, h7⟩
  · omega
  · injection e1 with e1 _ e3
    subst e1 e3
    refine .inr ⟨g, c, cur, rfl, h2, h3, by omega, h5, h6, ?_⟩
    rw [← h7, List.take_take, Nat.min_eq_left (Nat.mul_le_mul_right _ hm)]
theorem OwnR.form {W : World} {B e k n : Nat} {v : Value} {xs : List Value} (h : OwnR W B e k v n xs) : ∃ a c, v = .slice a n c := by
  rcases h.shape with ⟨rfl, rfl⟩ | ⟨g, c, rfl, _⟩
  · exact ⟨none, 0, rfl⟩
  · exact ⟨_, _, rfl⟩
def RkO (rb : Nat) (kv lv : Value) (b : Nat) : Prop := b = rb ∨ kv.ownBlock = some b ∨ lv.ownBlock = some b
structure RkAt (W : World) (rb B most : Nat) (kv lv : Value) (L : RkL) : Prop where
  own : OwnP W rb 3 (VL [.int .i64 most, kv, lv])
  k : OwnR W B 92 2 kv L.length (keysV L)
  l : OwnR W B 34 1 lv L.length (begsV L)
  b : ∀ x ∈ L, BegAt W B x.2.a x.2.c x.2.xs
  kl : ∀ x, kv.ownBlock = some x → lv.ownBlock ≠ some x
  kb : ∀ x ∈ L, ∀ ad, x.2.a = some ad → kv.ownBlock ≠ some ad.block ∧ lv.ownBlock ≠ some ad.block
  rB : rb < B
  BW : B ≤ W.heap.size
theorem RkAt.gr {W W' : World} {rb B most : Nat} {kv lv : Value} {L : RkL} (h : RkAt W rb B most kv lv L) (g : Gr W W') : RkAt W' rb B most kv lv L :=
  ⟨h.own.gr g, h.k.gr g, h.l.gr g, fun x hx => (h.b x hx).gr g, h.kl, h.kb, h.rB, Nat.le_trans h.BW g.size⟩
theorem RkAt.lt {W : World} {rb B most : Nat} {kv lv : Value} {L : RkL} (h : RkAt W rb B most kv lv L) : ∀ b, RkO rb kv lv b → b < W.heap.size := by
  rintro b (rfl | e | e)
  · exact h.own.lt
  · exact (h.k.ge e).2
  · exact (h.l.ge e).2
theorem RkAt.only {S : Nat → Prop} {W W' : World} {rb B most : Nat} {kv lv : Value} {L : RkL} (h : RkAt W rb B most kv lv L) (g : Only S W W') (h1 : ∀ b, RkO rb kv lv b → ¬ S b) (h2 : ∀ x ∈ L, ∀ ad, x.2.a = some ad → ¬ S ad.block) : RkAt W' rb B most kv lv L :=
  ⟨h.own.only g (h1 _ (.inl rfl)), h.k.only g (fun b e => h1 b (.inr (.inl e))), h.l.only g (fun b e => h1 b (.inr (.inr e))), fun x hx => (h.b x hx).only g (h2 x hx), h.kl, h.kb, h.rB, Nat.le_trans h.BW g.size⟩
namespace Y
variable {P : Program} {W W' : World} {o : Oper} {ρ : Operand → Value}
theorem slAr {t e : TypeId} {x : Operand} {p : Addr} {n : Nat} (ho : o.op = .slice t x none none none) (hx : ρ x = .pointer (some p)) (hu : P.underlying t = some (.array n e)) (hS : ∀ W, (sizeOf e).run P W = .ok 1 W) (hn : n ≠ 0) : (execOp ρ o).run P W = .ok (.value (.slice (some p) n n)) W := by
  have e0 : p.add 0 = p := add_zero p
  simp [execOp, ho, hx, Instr.sliceAt, Instr.slice, Instr.sureAddr, run_underlying hu, Instr.sliceBounds, Instr.sliceBound, hS, go_sem, e0]
end Y
structure RPt (w : World) (B rb most n : Nat) (kv lv : Value) (K K' NK Lx L' NL : List Value) (done : Nat → Bool) (u : Nat → Value) (W : World) : Prop where
  o : Only (RkO rb kv lv) w W
  k8 : done 8 = true → done 9 = false → ∃ g, u 8 = .slice (some ⟨g, 0, none⟩) 1 1 ∧ w.heap.size ≤ g ∧ HpR W g NK 92
  k16 : done 16 = true → done 17 = false → ∃ g, u 16 = .slice (some ⟨g, 0, none⟩) 1 1 ∧ w.heap.size ≤ g ∧ HpR W g NL 34
  kc : ∃ kc, (done 9 = false → kc = kv) ∧ (done 9 = true → kc = u 9) ∧ OwnR W B 92 2 kc (if done 9 then n + 1 else n) (if done 9 then K' else K) ∧ (kc.ownBlock = kv.ownBlock ∨ ∃ x, kc.ownBlock = some x ∧ w.heap.size ≤ x) ∧
    ∃ lc, (done 17 = false → lc = lv) ∧ (done 17 = true → lc = u 17) ∧ OwnR W B 34 1 lc (if done 17 then n + 1 else n) (if done 17 then L' else Lx) ∧ (lc.ownBlock = lv.ownBlock ∨ ∃ x, lc.ownBlock = some x ∧ w.heap.size ≤ x) ∧ (∀ x, kc.ownBlock = some x → lc.ownBlock ≠ some x)
  own : OwnP W rb 3 (VL [.int .i64 most, if done 20 then u 9 else kv, if done 23 then u 17 else lv])
structure RS2 (w : World) (b s1 s2 : Nat) (x0 x1 x2 y1 y2 : Value) (done : Nat → Bool) (u : Nat → Value) (W : World) : Prop where
  o : Only (fun x => x = b) w W
  own : OwnP W b 3 (VL [x0, if done s1 then y1 else x1, if done s2 then y2 else x2])
section
variable {w W W' : World} {b s1 s2 i : Nat} {x0 x1 x2 y1 y2 : Value} {done : Nat → Bool} {u : Nat → Value} {v : Value}
theorem RS2.start {u : Nat → Value} (h : Only (fun x => x = b) w W) (ho : OwnP W b 3 (VL [x0, x1, x2])) : RS2 w b s1 s2 x0 x1 x2 y1 y2 (fun _ => false) u W := ⟨h, by simpa using ho⟩
theorem RS2.quiet (h : RS2 w b s1 s2 x0 x1 x2 y1 y2 done u W) (hi : (i == s1 || i == s2) = false) : RS2 w b s1 s2 x0 x1 x2 y1 y2 (upd done i) (fun j => if j = i then v else u j) W := by
  simp only [Bool.or_eq_false_iff, beq_eq_false_iff_ne] at hi
  refine ⟨h.o, ?_⟩
  rw [upd_ne (Ne.symm hi.1), upd_ne (Ne.symm hi.2)]
  exact h.own
theorem VL3_1 (x0 x1 x2 y : Value) : ∀ k, k < 3 → (if k = 1 then y else VL [x0, x1, x2] k) = VL [x0, y, x2] k := by
  intro k hk
  match k, hk with
  | 0, _ => rfl
  | 1, _ => rfl
  | 2, _ => rfl
theorem VL3_2 (x0 x1 x2 y : Value) : ∀ k, k < 3 → (if k = 2 then y else VL [x0, x1, x2] k) = VL [x0, x1, y] k := by
  intro k hk
  match k, hk with
  | 0, _ => rfl
  | 1, _ => rfl
  | 2, _ => rfl
theorem RS2.st1 (h : RS2 w b s1 s2 x0 x1 x2 y1 y2 done u W) (hne : (s1 == s2) = false) : RS2 w b s1 s2 x0 x1 x2 y1 y2 (upd done s1) (fun j => if j = s1 then v else u j) (W.setCell ⟨b, 1, none⟩ y1) := by
  refine ⟨h.o.trans (Y.set_only _ _ _ _), ?_⟩
  rw [upd_self, upd_ne (by simpa using (fun e : s2 = s1 => by simp [e] at hne))]
  exact (h.own.set y1).congr (VL3_1 _ _ _ _)
theorem RS2.st2 (h : RS2 w b s1 s2 x0 x1 x2 y1 y2 done u W) (hne : (s1 == s2) = false) : RS2 w b s1 s2 x0 x1 x2 y1 y2 (upd done s2) (fun j => if j = s2 then v else u j) (W.setCell ⟨b, 2, none⟩ y2) := by
  refine ⟨h.o.trans (Y.set_only _ _ _ _), ?_⟩
  rw [upd_self, upd_ne (by simpa using (fun e : s1 = s2 => by simp [e] at hne))]
  exact (h.own.set y2).congr (VL3_2 _ _ _ _)
end
section
variable {w W W' : World} {B rb most n i : Nat} {kv lv : Value} {K K' NK Lx L' NL : List Value} {done : Nat → Bool} {u : Nat → Value} {v : Value}
theorem RPt.start {u : Nat → Value} (g : Gr w W) (hk : OwnR W B 92 2 kv n K) (hl : OwnR W B 34 1 lv n Lx) (hkl : ∀ x, kv.ownBlock = some x → lv.ownBlock ≠ some x) (ho : OwnP W rb 3 (VL [.int .i64 most, kv, lv])) : RPt w B rb most n kv lv K K' NK Lx L' NL (fun _ => false) u W :=
  ⟨g.only _, fun h => by simp at h, fun h => by simp at h, ⟨kv, fun _ => rfl, fun h => by simp at h, by simpa using hk, .inl rfl, lv, fun _ => rfl, fun h => by simp at h, by simpa using hl, .inl rfl, hkl⟩, by simpa using ho⟩
theorem RPt.quiet (h : RPt w B rb most n kv lv K K' NK Lx L' NL done u W) (hi : (i == 8 || i == 9 || i == 16 || i == 17 || i == 20 || i == 23) = false) : RPt w B rb most n kv lv K K' NK Lx L' NL (upd done i) (fun j => if j = i then v else u j) W := by
  simp only [Bool.or_eq_false_iff, beq_eq_false_iff_ne] at hi
  obtain ⟨⟨⟨⟨⟨h8, h9⟩, h16⟩, h17⟩, h20⟩, h23⟩ := hi
  have e8 := upd_ne (done := done) (Ne.symm h8)
  have e9 := upd_ne (done := done) (Ne.symm h9)
  have e16 := upd_ne (done := done) (Ne.symm h16)
  have e17 := upd_ne (done := done) (Ne.symm h17)
  have e20 := upd_ne (done := done) (Ne.symm h20)
  have e23 := upd_ne (done := done) (Ne.symm h23)
  refine ⟨h.o, ?_, ?_, ?_, ?_⟩
  · rw [e8, e9, if_neg (Ne.symm h8)]; exact h.k8
  · rw [e16, e17, if_neg (Ne.symm h16)]; exact h.k16
  · rw [e9, e17, if_neg (Ne.symm h9), if_neg (Ne.symm h17)]; exact h.kc
  · rw [e20, e23, if_neg (Ne.symm h9), if_neg (Ne.symm h17)]; exact h.own
theorem RPt.s8 {g : Nat} (h : RPt w B rb most n kv lv K K' NK Lx L' NL done u W) (hg : Gr W W') (hs : w.heap.size ≤ g) (hp : HpR W' g NK 92) : RPt w B rb most n kv lv K K' NK Lx L' NL (upd done 8) (fun j => if j = 8 then .slice (some ⟨g, 0, none⟩) 1 1 else u j) W' := by
  refine ⟨h.o.thenGr hg, fun _ _ => ⟨g, by simp, hs, hp⟩, ?_, ?_, ?_⟩
  · rw [upd_ne (by decide), upd_ne (by decide), if_neg (show ¬ (16 : Nat) = 8 by decide)]
    intro a b
    obtain ⟨g, e, h1, h2⟩ := h.k16 a b
    exact ⟨g, e, h1, h2.gr hg⟩
  · rw [upd_ne (by decide), upd_ne (by decide), if_neg (show ¬ (9 : Nat) = 8 by decide), if_neg (show ¬ (17 : Nat) = 8 by decide)]
    obtain ⟨kc, h1, h2, h3, h4, lc, h5, h6, h7, h8, h9⟩ := h.kc
    exact ⟨kc, h1, h2, h3.gr hg, h4, lc, h5, h6, h7.gr hg, h8, h9⟩
  · rw [upd_ne (by decide), upd_ne (by decide), if_neg (show ¬ (9 : Nat) = 8 by decide), if_neg (show ¬ (17 : Nat) = 8 by decide)]
    exact h.own.gr hg
theorem RPt.s16 {g : Nat} (h : RPt w B rb most n kv lv K K' NK Lx L' NL done u W) (hg : Gr W W') (hs : w.heap.size ≤ g) (hp : HpR W' g NL 34) : RPt w B rb most n kv lv K K' NK Lx L' NL (upd done 16) (fun j => if j = 16 then .slice (some ⟨g, 0, none⟩) 1 1 else u j) W' := by
  refine ⟨h.o.thenGr hg, ?_, fun _ _ => ⟨g, by simp, hs, hp⟩, ?_, ?_⟩
  · rw [upd_ne (by decide), upd_ne (by decide), if_neg (show ¬ (8 : Nat) = 16 by decide)]
    intro a b
    obtain ⟨g, e, h1, h2⟩ := h.k8 a b
    exact ⟨g, e, h1, h2.gr hg⟩
  · rw [upd_ne (by decide), upd_ne (by decide), if_neg (show ¬ (9 : Nat) = 16 by decide), if_neg (show ¬ (17 : Nat) = 16 by decide)]
    obtain ⟨kc, h1, h2, h3, h4, lc, h5, h6, h7, h8, h9⟩ := h.kc
    exact ⟨kc, h1, h2, h3.gr hg, h4, lc, h5, h6, h7.gr hg, h8, h9⟩
  · rw [upd_ne (by decide), upd_ne (by decide), if_neg (show ¬ (9 : Nat) = 16 by decide), if_neg (show ¬ (17 : Nat) = 16 by decide)]
    exact h.own.gr hg
theorem RPt.s9 (h : RPt w B rb most n kv lv K K' NK Lx L' NL done u W) (h9 : done 9 = false) (h20 : done 20 = false) (hlt : ∀ b, RkO rb kv lv b → b < w.heap.size) (hrB : rb < B) (hO : OwnR W' B 92 2 v (n + 1) K') (ho : Only (fun x => kv.ownBlock = some x) W W') (hat : v.ownBlock = kv.ownBlock ∨ ∃ x, v.ownBlock = some x ∧ W.heap.size ≤ x) (hkr : kv.ownBlock ≠ some rb) : RPt w B rb most n kv lv K K' NK Lx L' NL (upd done 9) (fun j => if j = 9 then v else u j) W' := by
  obtain ⟨kc, h1, h2, h3, h4, lc, h5, h6, h7, h8, hkl⟩ := h.kc
  have e := h1 h9
  subst e
  have hsz := h.o.size
  refine ⟨h.o.step2 ho (fun r e => .inl (.inr (.inl e))), fun _ k => (by rw [upd_self] at k; cases k), ?_, ?_, ?_⟩
  · rw [upd_ne (by decide), upd_ne (by decide), if_neg (show ¬ (16 : Nat) = 9 by decide)]
    intro a b
    obtain ⟨g, e, k1, k2⟩ := h.k16 a b
    exact ⟨g, e, k1, k2.only ho (fun e => by have := hlt g (.inr (.inl e)); omega)⟩
  · rw [upd_self, upd_ne (by decide), if_pos rfl, if_pos rfl, if_neg (show ¬ (17 : Nat) = 9 by decide)]
    refine ⟨v, fun k => (by cases k), fun _ => by simp, hO, hat.imp (fun z => z) (fun ⟨x, e, k⟩ => ⟨x, e, by omega⟩), lc, h5, h6, h7.only ho (fun b e k => hkl b k e), h8, fun x hx => ?_⟩
    rcases hat with e | ⟨y, e, k⟩
    · exact hkl x (e ▸ hx)
    · intro k2
      rw [e] at hx
      injection hx with hx
      subst hx
      have := (h7.ge k2).2
      omega
  · rw [upd_ne (by decide), upd_ne (by decide), h20, if_neg (show ¬ (17 : Nat) = 9 by decide)]
    have := h.own
    rw [h20] at this
    exact this.only ho hkr
theorem RPt.s17 (h : RPt w B rb most n kv lv K K' NK Lx L' NL done u W) (h17 : done 17 = false) (h23 : done 23 = false) (hlt : ∀ b, RkO rb kv lv b → b < w.heap.size) (hrB : rb < B) (hO : OwnR W' B 34 1 v (n + 1) L') (ho : Only (fun x => lv.ownBlock = some x) W W') (hat : v.ownBlock = lv.ownBlock ∨ ∃ x, v.ownBlock = some x ∧ W.heap.size ≤ x) (hkr : lv.ownBlock ≠ some rb) : RPt w B rb most n kv lv K K' NK Lx L' NL (upd done 17) (fun j => if j = 17 then v else u j) W' := by
  obtain ⟨kc, h1, h2, h3, h4, lc, h5, h6, h7, h8, hkl⟩ := h.kc
  have e := h5 h17
  subst e
  have hsz := h.o.size
  refine ⟨h.o.step2 ho (fun r e => .inl (.inr (.inr e))), ?_, fun _ k => (by rw [upd_self] at k; cases k), ?_, ?_⟩
  · rw [upd_ne (by decide), upd_ne (by decide), if_neg (show ¬ (8 : Nat) = 17 by decide)]
    intro a b
    obtain ⟨g, e, k1, k2⟩ := h.k8 a b
    exact ⟨g, e, k1, k2.only ho (fun e => by have := hlt g (.inr (.inr e)); omega)⟩
  · rw [upd_self, upd_ne (by decide), if_pos rfl, if_pos rfl, if_neg (show ¬ (9 : Nat) = 17 by decide)]
    refine ⟨kc, h1, h2, h3.only ho (fun b e k => hkl b e k), h4, v, fun k => (by cases k), fun _ => by simp, hO, hat.imp (fun z => z) (fun ⟨x, e, k⟩ => ⟨x, e, by omega⟩), fun x hx => ?_⟩
    rcases hat with e | ⟨y, e, k⟩
    · rw [e]; exact hkl x hx
    · intro k2
      rw [e] at k2
      injection k2 with k2
      subst k2
      have := (h3.ge hx).2
      omega
  · rw [upd_ne (by decide), upd_ne (by decide), h23, if_neg (show ¬ (9 : Nat) = 17 by decide)]
    have := h.own
    rw [h23] at this
    exact this.only ho hkr
theorem RPt.s20 (h : RPt w B rb most n kv lv K K' NK Lx L' NL done u W) (hlt : ∀ b, RkO rb kv lv b → b < w.heap.size) (hrB : rb < B) : RPt w B rb most n kv lv K K' NK Lx L' NL (upd done 20) (fun j => if j = 20 then v else u j) (W.setCell ⟨rb, 1, none⟩ (u 9)) := by
  have ho := Y.set_only W rb 1 (u 9)
  have hr := hlt rb (.inl rfl)
  refine ⟨h.o.step2 ho (fun r e => .inl (.inl e)), ?_, ?_, ?_, ?_⟩
  · rw [upd_ne (by decide), upd_ne (by decide), if_neg (show ¬ (8 : Nat) = 20 by decide)]
    intro a b
    obtain ⟨g, e, k1, k2⟩ := h.k8 a b
    exact ⟨g, e, k1, k2.only ho (by omega)⟩
  · rw [upd_ne (by decide), upd_ne (by decide), if_neg (show ¬ (16 : Nat) = 20 by decide)]
    intro a b
    obtain ⟨g, e, k1, k2⟩ := h.k16 a b
    exact ⟨g, e, k1, k2.only ho (by omega)⟩
  · rw [upd_ne (by decide), upd_ne (by decide), if_neg (show ¬ (9 : Nat) = 20 by decide), if_neg (show ¬ (17 : Nat) = 20 by decide)]
    obtain ⟨kc, h1, h2, h3, h4, lc, h5, h6, h7, h8, h9⟩ := h.kc
    exact ⟨kc, h1, h2, h3.only ho (fun b e k => by have := (h3.ge e).1; omega), h4, lc, h5, h6, h7.only ho (fun b e k => by have := (h7.ge e).1; omega), h8, h9⟩
  · rw [upd_self, upd_ne (by decide), if_neg (show ¬ (9 : Nat) = 20 by decide), if_neg (show ¬ (17 : Nat) = 20 by decide), if_pos rfl]
    exact (h.own.set (u 9)).congr (VL3_1 _ _ _ _)
theorem RPt.s23 (h : RPt w B rb most n kv lv K K' NK Lx L' NL done u W) (hlt : ∀ b, RkO rb kv lv b → b < w.heap.size) (hrB : rb < B) : RPt w B rb most n kv lv K K' NK Lx L' NL (upd done 23) (fun j => if j = 23 then v else u j) (W.setCell ⟨rb, 2, none⟩ (u 17)) := by
  have ho := Y.set_only W rb 2 (u 17)
  have hr := hlt rb (.inl rfl)
  refine ⟨h.o.step2 ho (fun r e => .inl (.inl e)), ?_, ?_, ?_, ?_⟩
  · rw [upd_ne (by decide), upd_ne (by decide), if_neg (show ¬ (8 : Nat) = 23 by decide)]
    intro a b
    obtain ⟨g, e, k1, k2⟩ := h.k8 a b
    exact ⟨g, e, k1, k2.only ho (by omega)⟩
  · rw [upd_ne (by decide), upd_ne (by decide), if_neg (show ¬ (16 : Nat) = 23 by decide)]
    intro a b
    obtain ⟨g, e, k1, k2⟩ := h.k16 a b
    exact ⟨g, e, k1, k2.only ho (by omega)⟩
  · rw [upd_ne (by decide), upd_ne (by decide), if_neg (show ¬ (9 : Nat) = 23 by decide), if_neg (show ¬ (17 : Nat) = 23 by decide)]
    obtain ⟨kc, h1, h2, h3, h4, lc, h5, h6, h7, h8, h9⟩ := h.kc
    exact ⟨kc, h1, h2, h3.only ho (fun b e k => by have := (h3.ge e).1; omega), h4, lc, h5, h6, h7.only ho (fun b e k => by have := (h7.ge e).1; omega), h8, h9⟩
  · rw [upd_self, upd_ne (by decide), if_neg (show ¬ (9 : Nat) = 23 by decide), if_neg (show ¬ (17 : Nat) = 23 by decide), if_pos rfl]
    exact (h.own.set (u 17)).congr (VL3_2 _ _ _ _)
end
end
section
set_option linter.unusedVariables false
open Go.RowKit
theorem run_copyN {P : Program} {W : World} {ts ty e : TypeId} {k bytes B m c : Nat} {z : Value} {a0 sa : Option Addr} {news : List Value}
    (hu : P.underlying ts = some (.slice e)) (hinfo : (P.info? e).map (fun i => (i.zero, i.size, i.bytes)) = some (some z, k, bytes)) (hz : z.cells.size = k) (hk : 0 < k)
    (hO : OwnR W B e k (.slice a0 0 0) 0 []) (hsn : sa = none → m = 0) (hl : news.length = m * k) (hsrc : ∀ ad, sa = some ad → ∀ j u, news[j]? = some u → W.cell? (ad.add j) = some u) (h1 : (news.all fun u => u.oneCell') = true)
    (hmax : m ≤ 1000000) (hbt : bytes ≤ 1000) (hB : B ≤ W.heap.size) :
    ∃ a' c' W', (Builtin.append_ #[ts, ts] ty #[.slice a0 0 0, .slice sa m c]).run P W = .ok (.slice a' m c') W' ∧ OwnR W' B e k (.slice a' m c') m news ∧ Gr W W' := by
  obtain ⟨i0, hi, hz0, hsz, hby⟩ := info_parts hinfo
  by_cases h0 : m = 0
  · subst h0
    have hn0 : news = [] := List.eq_nil_of_length_eq_zero (by omega)
    subst hn0
    have hs : Src P i0.size ts (.slice sa 0 c) 0 [] W := by
      refine ⟨.inl ⟨e, hu⟩, fun w' => ?_, ?_, ?_, by simp, fun u hu => by simp at hu⟩
      · simp [Builtin.lenOf]
      · cases sa <;> simp [Builtin.firstCells, loadCells, loadCellsFrom]
      · cases sa <;> simp [Builtin.firstCells, loadCells, loadCellsFrom]
    exact ⟨a0, 0, W, run_append_nothing W ts ts ty e i0 hu hi a0 0 0 (Nat.le_refl _) _ hs, hO, Gr.refl _⟩
  · cases sa with
    | none => exact absurd (hsn rfl) h0
    | some ad =>
      have hb : m * bytes ≤ 140737488355328 := by
        have := Nat.mul_le_mul hmax hbt
        omega
      have hs := Src.ofSlice W (size := i0.size) hu ad m c news (by rw [hsz]; exact hl) (hsrc ad rfl) (fun u hu => List.all_eq_true.1 h1 u hu)
      have hold : (Builtin.firstCells i0.size 0 (.slice a0 0 0)).run P W.drew = .ok ([] : List Value).toArray W.drew := by
        cases a0 <;> simp [Builtin.firstCells, loadCells, loadCellsFrom]
      have hr := run_append_grow_src W ts ts ty e i0 z hu hi hz0 a0 0 0 [] hold (.slice (some ad) m c) m news hs (by omega) (by omega) (by rw [hby]; exact growslice_fits (by omega) (by simpa using hb))
      have hge := grownCap_ge W (0 + m) 0 e
      have hle := grownCap_le_maxLen W (0 + m) 0 e (by unfold maxLen; omega)
      rw [Nat.zero_add] at hr hge hle
      refine ⟨_, _, _, hr, ⟨hl, .inr ⟨W.heap.size, _, _, rfl, hB, heap_alloc_new W.drew _, hge, hle, ?_, ?_⟩⟩, (Gr.drew W).trans (Gr.alloc _ _)⟩
      · simp [size_zeroCells, hz, hl]
        rw [← Nat.add_mul]
        congr 1
        omega
      · simp [hl]
def tbL (V : Nat → Nat → Value) (n k : Nat) : List Value := (List.range (n * k)).map fun j => V (j / k) (j % k)
theorem tbL_len {V : Nat → Nat → Value} {n k : Nat} : (tbL V n k).length = n * k := by simp [tbL]
theorem tbL_get {V : Nat → Nat → Value} {n k j : Nat} {u : Value} (h : (tbL V n k)[j]? = some u) : j < n * k ∧ u = V (j / k) (j % k) := by
  have hj : j < n * k := by have := (List.getElem?_eq_some_iff.1 h).1; rwa [tbL_len] at this
  simp [tbL, hj] at h
  exact ⟨hj, h.symm⟩
theorem tbL_at {V : Nat → Nat → Value} {n k q r : Nat} (hq : q < n) (hr : r < k) : (tbL V n k)[q * k + r]? = some (V q r) := by
  have hlt : q * k + r < n * k := by
    have := Nat.mul_le_mul_right k (show q + 1 ≤ n from hq)
    rw [Nat.add_mul] at this; omega
  have hk : 0 < k := by omega
  simp [tbL, hlt]
  have e1 : (k * q + r) / k = q := by rw [Nat.mul_add_div hk, Nat.div_eq_of_lt hr]; rfl
  have e2 : (k * q + r) % k = r := by rw [Nat.mul_add_mod, Nat.mod_eq_of_lt hr]
  rw [Nat.mul_comm q k, e1]
  first | rw [e2] | rw [Nat.mod_eq_of_lt hr]
theorem TbAt.src {W : World} {k : Nat} {sa : Option Addr} {n c : Nat} {V : Nat → Nat → Value} (h : TbAt W k sa n c V) (hk : 0 < k) : ∀ ad, sa = some ad → ∀ j u, (tbL V n k)[j]? = some u → W.cell? (ad.add j) = some u := by
  intro ad e j u hu
  obtain ⟨hj, rfl⟩ := tbL_get hu
  have hq : j / k < n := (Nat.div_lt_iff_lt_mul hk).2 hj
  obtain ⟨ad', e', _, hc⟩ := h.at hq
  rw [e] at e'
  injection e' with e'
  subst e'
  have := hc (j % k) (Nat.mod_lt _ hk)
  rw [Addr.add_add, show j / k * k + j % k = j by rw [Nat.mul_comm]; exact Nat.div_add_mod j k] at this
  exact this
theorem TbAt.none0 {W : World} {k : Nat} {sa : Option Addr} {n c : Nat} {V : Nat → Nat → Value} (h : TbAt W k sa n c V) : sa = none → n = 0 := fun e => by
  refine Classical.byContradiction fun h0 => ?_
  obtain ⟨ad, e2, _⟩ := h.at (j := 0) (by omega)
  rw [e] at e2; cases e2
theorem OwnR.tb {W : World} {B e k n c : Nat} {a : Option Addr} {V : Nat → Nat → Value} (h : OwnR W B e k (.slice a n c) n (tbL V n k)) (hn : n * k * 8 ≤ 140737488351232) : TbAt W k a n c V := by
  rcases h.2 with ⟨h2, h3⟩ | ⟨g, cap, cur, h1, h2, h3, h4, h5, h6, h7⟩
  · injection h2 with h2 _ hc
    subst h3
    exact ⟨Nat.zero_le _, by simp, fun j hj => by omega⟩
  · injection h1 with h1 _ hc
    subst h1 hc
    refine ⟨h4, hn, fun j hj => ⟨_, rfl, (Array.getElem?_eq_some_iff.1 h3).1, fun r hr => ?_⟩⟩
    rw [addr_add0, show (⟨g, j * k, none⟩ : Addr).add r = ⟨g, j * k + r, none⟩ from Y.addr_add _ _ _]
    have hlt : j * k + r < n * k := by
      have := Nat.mul_le_mul_right k (show j + 1 ≤ n from hj)
      rw [Nat.add_mul] at this; omega
    have e8 : (cur.toList.take (n * k))[j * k + r]? = some (V j r) := by rw [h7]; exact tbL_at hj hr
    rw [List.getElem?_take_of_lt hlt] at e8
    exact cell_at h3 (by simpa using e8)
theorem tv_one (p : Pb) (n : Nat) : ((tbL (tvV p) n 4).all fun u => u.oneCell') = true := by
  rw [List.all_eq_true]; intro u hu; obtain ⟨j, _, rfl⟩ := List.mem_map.1 hu
  cases j % 4 <;> rfl
theorem hv_one (p : Pb) (n : Nat) : ((tbL (hvV p) n 6).all fun u => u.oneCell') = true := by
  rw [List.all_eq_true]; intro u hu; obtain ⟨j, _, rfl⟩ := List.mem_map.1 hu
  cases j % 6 <;> rfl
theorem bv_one (p : Pb) (n : Nat) : ((tbL (bvV p) n 3).all fun u => u.oneCell') = true := by
  rw [List.all_eq_true]; intro u hu; obtain ⟨j, _, rfl⟩ := List.mem_map.1 hu
  rfl
theorem lv_one (p : Pb) (n : Nat) : ((tbL (lvV p) n 3).all fun u => u.oneCell') = true := by
  rw [List.all_eq_true]; intro u hu; obtain ⟨j, _, rfl⟩ := List.mem_map.1 hu
  rfl
def Y.MP.row (B e k n : Nat) (xs : List Value) : Y.MP := ⟨fun v W => ∃ a c, v = .slice a n c ∧ OwnR W B e k (.slice a n c) n xs, fun _ _ _ ⟨a, c, h1, h2⟩ g => ⟨a, c, h1, h2.gr g⟩⟩
def Y.MP.row0 (B e k : Nat) : Y.MP := ⟨fun v W => ∃ a, v = .slice a 0 0 ∧ OwnR W B e k (.slice a 0 0) 0 [], fun _ _ _ ⟨a, h1, h2⟩ g => ⟨a, h1, h2.gr g⟩⟩
def Y.MP.pbv (B : Nat) (p : Pb) : Y.MP := ⟨fun v W => ∃ t0 c0 t1 c1 t2 c2 t3 c3, v = .agg #[.slice t0 p.nt c0, .slice t1 p.nh c1, .slice t2 p.nb c2, .slice t3 p.nl c3] ∧ OwnR W B 74 4 (.slice t0 p.nt c0) p.nt (tbL (tvV p) p.nt 4) ∧ OwnR W B 53 6 (.slice t1 p.nh c1) p.nh (tbL (hvV p) p.nh 6) ∧ OwnR W B 65 3 (.slice t2 p.nb c2) p.nb (tbL (bvV p) p.nb 3) ∧ OwnR W B 84 3 (.slice t3 p.nl c3) p.nl (tbL (lvV p) p.nl 3),
  fun _ _ _ ⟨t0, c0, t1, c1, t2, c2, t3, c3, h1, h2, h3, h4, h5⟩ g => ⟨t0, c0, t1, c1, t2, c2, t3, c3, h1, h2.gr g, h3.gr g, h4.gr g, h5.gr g⟩⟩
theorem ownR_new {W : World} {B b k e : Nat} (h : W.heap[b]? = some (.cells #[] e)) (hB : B ≤ b) : OwnR W B e k (.slice (some ⟨b, 0, none⟩) 0 0) 0 [] :=
  ⟨by simp, .inr ⟨b, 0, #[], rfl, hB, h, Nat.le_refl _, by unfold maxLen; omega, by simp, by simp⟩⟩
theorem ints_tb {W : World} {a : Option Addr} {n : Nat} {xs : List Int} (h : Ints W a n xs) : (∀ ad, a = some ad → ∀ j u, (xs.map (Value.int .i64))[j]? = some u → W.cell? (ad.add j) = some u) ∧ (a = none → n = 0) :=
  ⟨fun ad e => by subst e; exact h.cells, fun e => by
    subst e
    refine Classical.byContradiction fun h0 => ?_
    obtain ⟨ad, e2, _⟩ := h.at (j := 0) (by omega)
    cases e2⟩
theorem Try.bs22_0 (w : World) : (Instr.buildSlice 22 0 #[]).run Try.prog w = .ok (.slice (some ⟨w.heap.size, 0, none⟩) 0 0) (w.alloc (.cells #[] 74)) := by kernel_rfl
theorem Try.bs23_0 (w : World) : (Instr.buildSlice 23 0 #[]).run Try.prog w = .ok (.slice (some ⟨w.heap.size, 0, none⟩) 0 0) (w.alloc (.cells #[] 53)) := by kernel_rfl
theorem Try.bs24_0 (w : World) : (Instr.buildSlice 24 0 #[]).run Try.prog w = .ok (.slice (some ⟨w.heap.size, 0, none⟩) 0 0) (w.alloc (.cells #[] 65)) := by kernel_rfl
theorem Try.bs25_0 (w : World) : (Instr.buildSlice 25 0 #[]).run Try.prog w = .ok (.slice (some ⟨w.heap.size, 0, none⟩) 0 0) (w.alloc (.cells #[] 84)) := by kernel_rfl
theorem Try.bd27f (a b c d : Option Addr) (n1 c1 n2 c2 n3 c3 n4 c4 : Nat) (w : World) : (Instr.build 27 #[(0, .slice a n1 c1), (1, .slice b n2 c2), (2, .slice c n3 c3), (3, .slice d n4 c4)]).run Try.prog w = .ok (.agg #[.slice a n1 c1, .slice b n2 c2, .slice c n3 c3, .slice d n4 c4]) w := by kernel_rfl
theorem X.bs0 {ρ : Operand → Value} : (([] : List (Nat × Operand)).map fun p => (p.1, ρ p.2)) = [] := rfl
def farB (p : Pb) : Bool := !(decide (p.nt ≤ 20) && decide (p.nh ≤ 20) && decide (p.nb ≤ 40) && decide (p.nl ≤ 40) && allN (fun i => decide ((p.tn i).size ≤ 100)) p.nt && allN (fun i => decide ((p.hn i).size ≤ 100)) p.nh)
section
variable {p : Pb}
theorem far_n (h : ¬ (p.nt ≤ 20 ∧ p.nh ≤ 20 ∧ p.nb ≤ 40 ∧ p.nl ≤ 40)) : farB p = true := by
  cases e : farB p with
  | true => rfl
  | false => simp [farB] at e; exact absurd ⟨e.1.1.1.1.1, e.1.1.1.1.2, e.1.1.1.2, e.1.1.2⟩ h
theorem far_t {i : Nat} (hi : i < p.nt) (h : 100 < (p.tn i).size) : farB p = true := by
  unfold farB; rw [allN_false (f := fun i => decide ((p.tn i).size ≤ 100)) hi (decide_eq_false (by omega))]; simp
theorem far_h {i : Nat} (hi : i < p.nh) (h : 100 < (p.hn i).size) : farB p = true := by
  unfold farB; rw [allN_false (f := fun i => decide ((p.hn i).size ≤ 100)) hi (decide_eq_false (by omega))]; simp
theorem far_no (h : p.nt ≤ 20 ∧ p.nh ≤ 20 ∧ p.nb ≤ 40 ∧ p.nl ≤ 40) (h1 : allN (fun i => decide ((p.tn i).size ≤ 100)) p.nt = true) (h2 : allN (fun i => decide ((p.hn i).size ≤ 100)) p.nh = true) : farB p = false := by
  unfold farB; rw [h1, h2]; simp [h]
theorem far_sz (h : farB p = false) : p.nt ≤ 20 ∧ p.nh ≤ 20 ∧ p.nb ≤ 40 ∧ p.nl ≤ 40 := by
  simp [farB] at h; exact ⟨h.1.1.1.1.1, h.1.1.1.1.2, h.1.1.1.2, h.1.1.2⟩
end
end
section
open Go.ChangeShapes Go.WideShapes Go.RowKit Go.Deep Go.Joins

def Wt {H : Type} (t : TypeId) (d : DataW H) : Prop := ∀ x ∈ d.weights Try.prog t, x ≤ reachBytes

theorem Wt.each {H : Type} {ts : List TypeId} {ds : List (DataW H)} (h : (DataW.weightsEach Try.prog ts ds).all (· ≤ reachBytes) = true) {j : Nat} {t : TypeId} {d : DataW H} (ht : ts[j]? = some t) (hd : ds[j]? = some d) : Wt t d := fun x hx => by
  have := List.all_eq_true.1 h _ (DataW.weights_mem_each ht hd x hx)
  simpa using this
theorem Wt.field {H : Type} {t : TypeId} {fs : Array Field} {parts : List (DataW H)} (hs : Try.prog.underlying t = some (.struct fs)) (h : Wt t (.agg parts)) {j : Nat} {ft : TypeId} {d : DataW H} (ht : (fs.toList.map (·.type))[j]? = some ft) (hd : parts[j]? = some d) : Wt ft d := fun x hx =>
  h x (by simp only [DataW.weights, hs]; exact DataW.weights_mem_each ht hd x hx)
theorem Wt.len {H : Type} {t e : TypeId} {elems spare : List (DataW H)} (hs : Try.prog.underlying t = some (.slice e)) (h : Wt t (.slice elems spare)) : (elems.length + spare.length) * Try.prog.bytesOf e ≤ reachBytes :=
  h _ (by simp only [DataW.weights, hs, List.mem_cons, true_or])

section
variable {H : Type} {enc : TypeId × Value → H} {w : World} {base : Nat} {spare : Nat → Bool} {held : Bool}

theorem cell_blk {w : World} {p : Addr} {v : Value} (h : w.cell? p = some v) : p.block < w.heap.size := by
  unfold World.cell? at h
  cases hb : w.heap[p.block]? with
  | none => rw [hb] at h; simp at h
  | some o => exact (Array.getElem?_eq_some_iff.1 hb).1

theorem Try.cells3 : Try.prog.cellsOf 3 = 1 := by kernel_rfl
theorem Try.cells9 : Try.prog.cellsOf 9 = 1 := by kernel_rfl
theorem Try.cells74 : Try.prog.cellsOf 74 = 4 := by kernel_rfl
theorem Try.cells53 : Try.prog.cellsOf 53 = 6 := by kernel_rfl
theorem Try.cells65 : Try.prog.cellsOf 65 = 3 := by kernel_rfl
theorem Try.cells84 : Try.prog.cellsOf 84 = 3 := by kernel_rfl
theorem Try.bytes74 : Try.prog.bytesOf 74 = 40 := by kernel_rfl
theorem Try.bytes53 : Try.prog.bytesOf 53 = 56 := by kernel_rfl
theorem Try.bytes65 : Try.prog.bytesOf 65 = 24 := by kernel_rfl
theorem Try.bytes84 : Try.prog.bytesOf 84 = 24 := by kernel_rfl
theorem Try.bytes3 : Try.prog.bytesOf 3 = 8 := by kernel_rfl
theorem TbAt.nil0 (w : World) (k c : Nat) (a : Option Addr) (V : Nat → Nat → Value) : TbAt w k a 0 c V := ⟨Nat.zero_le _, by simp, fun j hj => by omega⟩
theorem TbAt.congr {w : World} {k n c : Nat} {a : Option Addr} {V V' : Nat → Nat → Value} (h : TbAt w k a n c V) (e : ∀ j r, V j r = V' j r) : TbAt w k a n c V' := by
  have : V = V' := funext fun j => funext fun r => e j r
  rw [← this]; exact h
theorem list_of {α : Type} {P : Nat → α → Prop} (d : α) : ∀ n, (∀ j, j < n → ∃ x, P j x) → ∃ L : List α, L.length = n ∧ ∀ j, j < n → P j (L[j]?.getD d) := by
  intro n
  induction n with
  | zero => intro _; exact ⟨[], rfl, fun j hj => by omega⟩
  | succ n ih =>
    intro h
    obtain ⟨L, hl, hL⟩ := ih (fun j hj => h j (by omega))
    obtain ⟨x, hx⟩ := h n (by omega)
    refine ⟨L ++ [x], by simp [hl], fun j hj => ?_⟩
    by_cases e : j = n
    · subst e; rw [← hl]; simpa [hl] using hx
    · rw [List.getElem?_append_left (by omega)]; exact hL j (by omega)

theorem len3 {α : Type} {l : List α} (h : l.length = 3) : ∃ a b c, l = [a, b, c] := by
  match l, h with
  | [a, b, c], _ => exact ⟨a, b, c, rfl⟩
theorem len4 {α : Type} {l : List α} (h : l.length = 4) : ∃ a b c d, l = [a, b, c, d] := by
  match l, h with
  | [a, b, c, d], _ => exact ⟨a, b, c, d, rfl⟩
theorem len6 {α : Type} {l : List α} (h : l.length = 6) : ∃ a b c d e f, l = [a, b, c, d, e, f] := by
  match l, h with
  | [a, b, c, d, e, f], _ => exact ⟨a, b, c, d, e, f, rfl⟩
theorem open_s22 {fuel : Nat} {v : Value} {x : DataW H × List MemPlace} (h : DataW.trod enc Try.prog w base spare held fuel 22 [v] = some x) (hw : Wt 22 x.1) : ∃ (a : Option Addr) (n c : Nat) (L : List (ByteArray × List Int)), v = .slice a n c ∧ TbAt w 4 a n c (fun j r => if r = 0 then .string (L[j]?.getD (ByteArray.empty, [])).1 else .int .i64 ((L[j]?.getD (ByteArray.empty, [])).2[r]?.getD 0)) ∧ ∀ j, j < n → (L[j]?.getD (ByteArray.empty, [])).1.size ≤ 9223372036854775807 := by
  rcases open_slice Try.underlying22 h with ⟨hcs, _⟩ | ⟨a, len, cap, m, n, D, Pl, hcs, hb, hl, hm, hmm, hx, hi⟩
  · simp at hcs
    exact ⟨none, 0, 0, [], hcs, TbAt.nil0 _ _ _ _ _, fun j hj => by omega⟩
  · simp at hcs
    subst hcs
    have hlm : len ≤ m := by rw [hmm]; split <;> omega
    have hw1 := hw
    rw [hx] at hw1
    have hlen := hw1.len Try.underlying22
    rw [Try.bytes74] at hlen
    simp only [List.length_map, List.length_range, reachBytes] at hlen
    obtain ⟨C, hC1, hC2⟩ := list_of (P := fun j (c : ByteArray × List Int) => (c.1.size ≤ 9223372036854775807 ∧ w.cell? ((a.add (j * 4)).add 0) = some (.string c.1)) ∧ ∀ r, 0 < r → r < 4 → w.cell? ((a.add (j * 4)).add r) = some (.int .i64 (c.2[r]?.getD 0))) (ByteArray.empty, []) len (fun j hj => by
      obtain ⟨cs', hc, ht'⟩ := hi j (by omega)
      rw [Try.cells74] at hc
      obtain ⟨_, hcl, hat⟩ := World.cells?_some hc
      obtain ⟨ys, n', hn', hy, hlen', hyl, hf⟩ := DataW.trod_struct Try.underlying74 ht'
      have hyln : ys.length = 4 := by simpa using hyl
      obtain ⟨c0, c1, c2, c3, rfl⟩ := len4 hcl
      obtain ⟨y0, y1, y2, y3, rfl⟩ := len4 hyln
      have f0 := hf 0 _ rfl
      have f1 := hf 1 _ rfl
      have f2 := hf 2 _ rfl
      have f3 := hf 3 _ rfl
      simp [Try.cells3, Try.cells9] at f0 f1 f2 f3
      obtain ⟨s0, e0, _, hs0⟩ := DataW.trod_string Try.underlying9 f0
      obtain ⟨i1, e1, _⟩ := DataW.trod_int Try.underlying3 f1
      obtain ⟨i2, e2, _⟩ := DataW.trod_int Try.underlying3 f2
      obtain ⟨i3, e3, _⟩ := DataW.trod_int Try.underlying3 f3
      simp at e0 e1 e2 e3
      subst e0 e1 e2 e3
      exact ⟨(s0, [0, i1, i2, i3]), ⟨by unfold maxLen at hs0; exact hs0, hat 0 (by omega)⟩, fun r h0 hr => by
        match r, h0, hr with
        | 1, _, _ => exact hat 1 (by omega)
        | 2, _, _ => exact hat 2 (by omega)
        | 3, _, _ => exact hat 3 (by omega)⟩)
    refine ⟨some a, len, cap, C, rfl, ⟨hl, by omega, fun j hj => ?_⟩, fun j hj => (hC2 j hj).1.1⟩
    obtain ⟨⟨_, h0⟩, h1⟩ := hC2 j hj
    refine ⟨a, rfl, by have := cell_blk h0; rwa [add_block, add_block] at this, fun r hr => ?_⟩
    by_cases e : r = 0
    · subst e; exact h0
    · show _ = some (ite _ _ _)
      rw [if_neg e]; exact h1 r (by omega) hr
theorem open_s23 {fuel : Nat} {v : Value} {x : DataW H × List MemPlace} (h : DataW.trod enc Try.prog w base spare held fuel 23 [v] = some x) (hw : Wt 23 x.1) : ∃ (a : Option Addr) (n c : Nat) (L : List (ByteArray × List Int)), v = .slice a n c ∧ TbAt w 6 a n c (fun j r => if r = 0 then .string (L[j]?.getD (ByteArray.empty, [])).1 else .int .i64 ((L[j]?.getD (ByteArray.empty, [])).2[r]?.getD 0)) ∧ ∀ j, j < n → (L[j]?.getD (ByteArray.empty, [])).1.size ≤ 9223372036854775807 := by
  rcases open_slice Try.underlying23 h with ⟨hcs, _⟩ | ⟨a, len, cap, m, n, D, Pl, hcs, hb, hl, hm, hmm, hx, hi⟩
  · simp at hcs
    exact ⟨none, 0, 0, [], hcs, TbAt.nil0 _ _ _ _ _, fun j hj => by omega⟩
  · simp at hcs
    subst hcs
    have hlm : len ≤ m := by rw [hmm]; split <;> omega
    have hw1 := hw
    rw [hx] at hw1
    have hlen := hw1.len Try.underlying23
    rw [Try.bytes53] at hlen
    simp only [List.length_map, List.length_range, reachBytes] at hlen
    obtain ⟨C, hC1, hC2⟩ := list_of (P := fun j (c : ByteArray × List Int) => (c.1.size ≤ 9223372036854775807 ∧ w.cell? ((a.add (j * 6)).add 0) = some (.string c.1)) ∧ ∀ r, 0 < r → r < 6 → w.cell? ((a.add (j * 6)).add r) = some (.int .i64 (c.2[r]?.getD 0))) (ByteArray.empty, []) len (fun j hj => by
      obtain ⟨cs', hc, ht'⟩ := hi j (by omega)
      rw [Try.cells53] at hc
      obtain ⟨_, hcl, hat⟩ := World.cells?_some hc
      obtain ⟨ys, n', hn', hy, hlen', hyl, hf⟩ := DataW.trod_struct Try.underlying53 ht'
      have hyln : ys.length = 6 := by simpa using hyl
      obtain ⟨c0, c1, c2, c3, c4, c5, rfl⟩ := len6 hcl
      obtain ⟨y0, y1, y2, y3, y4, y5, rfl⟩ := len6 hyln
      have f0 := hf 0 _ rfl
      have f1 := hf 1 _ rfl
      have f2 := hf 2 _ rfl
      have f3 := hf 3 _ rfl
      have f4 := hf 4 _ rfl
      have f5 := hf 5 _ rfl
      simp [Try.cells3, Try.cells9] at f0 f1 f2 f3 f4 f5
      obtain ⟨s0, e0, _, hs0⟩ := DataW.trod_string Try.underlying9 f0
      obtain ⟨i1, e1, _⟩ := DataW.trod_int Try.underlying3 f1
      obtain ⟨i2, e2, _⟩ := DataW.trod_int Try.underlying3 f2
      obtain ⟨i3, e3, _⟩ := DataW.trod_int Try.underlying3 f3
      obtain ⟨i4, e4, _⟩ := DataW.trod_int Try.underlying3 f4
      obtain ⟨i5, e5, _⟩ := DataW.trod_int Try.underlying3 f5
      simp at e0 e1 e2 e3 e4 e5
      subst e0 e1 e2 e3 e4 e5
      exact ⟨(s0, [0, i1, i2, i3, i4, i5]), ⟨by unfold maxLen at hs0; exact hs0, hat 0 (by omega)⟩, fun r h0 hr => by
        match r, h0, hr with
        | 1, _, _ => exact hat 1 (by omega)
        | 2, _, _ => exact hat 2 (by omega)
        | 3, _, _ => exact hat 3 (by omega)
        | 4, _, _ => exact hat 4 (by omega)
        | 5, _, _ => exact hat 5 (by omega)⟩)
    refine ⟨some a, len, cap, C, rfl, ⟨hl, by omega, fun j hj => ?_⟩, fun j hj => (hC2 j hj).1.1⟩
    obtain ⟨⟨_, h0⟩, h1⟩ := hC2 j hj
    refine ⟨a, rfl, by have := cell_blk h0; rwa [add_block, add_block] at this, fun r hr => ?_⟩
    by_cases e : r = 0
    · subst e; exact h0
    · show _ = some (ite _ _ _)
      rw [if_neg e]; exact h1 r (by omega) hr
theorem open_s24 {fuel : Nat} {v : Value} {x : DataW H × List MemPlace} (h : DataW.trod enc Try.prog w base spare held fuel 24 [v] = some x) (hw : Wt 24 x.1) : ∃ (a : Option Addr) (n c : Nat) (L : List (List Int)), v = .slice a n c ∧ TbAt w 3 a n c (fun j r => .int .i64 ((L[j]?.getD [])[r]?.getD 0)) := by
  rcases open_slice Try.underlying24 h with ⟨hcs, _⟩ | ⟨a, len, cap, m, n, D, Pl, hcs, hb, hl, hm, hmm, hx, hi⟩
  · simp at hcs
    exact ⟨none, 0, 0, [], hcs, TbAt.nil0 _ _ _ _ _⟩
  · simp at hcs
    subst hcs
    have hlm : len ≤ m := by rw [hmm]; split <;> omega
    have hw1 := hw
    rw [hx] at hw1
    have hlen := hw1.len Try.underlying24
    rw [Try.bytes65] at hlen
    simp only [List.length_map, List.length_range, reachBytes] at hlen
    obtain ⟨C, hC1, hC2⟩ := list_of (P := fun j (c : List Int) => ∀ r, r < 3 → w.cell? ((a.add (j * 3)).add r) = some (.int .i64 (c[r]?.getD 0))) [] len (fun j hj => by
      obtain ⟨cs', hc, ht'⟩ := hi j (by omega)
      rw [Try.cells65] at hc
      obtain ⟨_, hcl, hat⟩ := World.cells?_some hc
      obtain ⟨ys, n', hn', hy, hlen', hyl, hf⟩ := DataW.trod_struct Try.underlying65 ht'
      have hyln : ys.length = 3 := by simpa using hyl
      obtain ⟨c0, c1, c2, rfl⟩ := len3 hcl
      obtain ⟨y0, y1, y2, rfl⟩ := len3 hyln
      have f0 := hf 0 _ rfl
      have f1 := hf 1 _ rfl
      have f2 := hf 2 _ rfl
      simp [Try.cells3, Try.cells9] at f0 f1 f2
      obtain ⟨i0, e0, _⟩ := DataW.trod_int Try.underlying3 f0
      obtain ⟨i1, e1, _⟩ := DataW.trod_int Try.underlying3 f1
      obtain ⟨i2, e2, _⟩ := DataW.trod_int Try.underlying3 f2
      simp at e0 e1 e2
      subst e0 e1 e2
      exact ⟨[i0, i1, i2], fun r hr => by
        match r, hr with
        | 0, _ => exact hat 0 (by omega)
        | 1, _ => exact hat 1 (by omega)
        | 2, _ => exact hat 2 (by omega)⟩)
    refine ⟨some a, len, cap, C, rfl, hl, by omega, fun j hj => ?_⟩
    have h1 := hC2 j hj
    exact ⟨a, rfl, by have := cell_blk (h1 0 (by decide)); rwa [add_block, add_block] at this, h1⟩
theorem open_s25 {fuel : Nat} {v : Value} {x : DataW H × List MemPlace} (h : DataW.trod enc Try.prog w base spare held fuel 25 [v] = some x) (hw : Wt 25 x.1) : ∃ (a : Option Addr) (n c : Nat) (L : List (List Int)), v = .slice a n c ∧ TbAt w 3 a n c (fun j r => .int .i64 ((L[j]?.getD [])[r]?.getD 0)) := by
  rcases open_slice Try.underlying25 h with ⟨hcs, _⟩ | ⟨a, len, cap, m, n, D, Pl, hcs, hb, hl, hm, hmm, hx, hi⟩
  · simp at hcs
    exact ⟨none, 0, 0, [], hcs, TbAt.nil0 _ _ _ _ _⟩
  · simp at hcs
    subst hcs
    have hlm : len ≤ m := by rw [hmm]; split <;> omega
    have hw1 := hw
    rw [hx] at hw1
    have hlen := hw1.len Try.underlying25
    rw [Try.bytes84] at hlen
    simp only [List.length_map, List.length_range, reachBytes] at hlen
    obtain ⟨C, hC1, hC2⟩ := list_of (P := fun j (c : List Int) => ∀ r, r < 3 → w.cell? ((a.add (j * 3)).add r) = some (.int .i64 (c[r]?.getD 0))) [] len (fun j hj => by
      obtain ⟨cs', hc, ht'⟩ := hi j (by omega)
      rw [Try.cells84] at hc
      obtain ⟨_, hcl, hat⟩ := World.cells?_some hc
      obtain ⟨ys, n', hn', hy, hlen', hyl, hf⟩ := DataW.trod_struct Try.underlying84 ht'
      have hyln : ys.length = 3 := by simpa using hyl
      obtain ⟨c0, c1, c2, rfl⟩ := len3 hcl
      obtain ⟨y0, y1, y2, rfl⟩ := len3 hyln
      have f0 := hf 0 _ rfl
      have f1 := hf 1 _ rfl
      have f2 := hf 2 _ rfl
      simp [Try.cells3, Try.cells9] at f0 f1 f2
      obtain ⟨i0, e0, _⟩ := DataW.trod_int Try.underlying3 f0
      obtain ⟨i1, e1, _⟩ := DataW.trod_int Try.underlying3 f1
      obtain ⟨i2, e2, _⟩ := DataW.trod_int Try.underlying3 f2
      simp at e0 e1 e2
      subst e0 e1 e2
      exact ⟨[i0, i1, i2], fun r hr => by
        match r, hr with
        | 0, _ => exact hat 0 (by omega)
        | 1, _ => exact hat 1 (by omega)
        | 2, _ => exact hat 2 (by omega)⟩)
    refine ⟨some a, len, cap, C, rfl, hl, by omega, fun j hj => ?_⟩
    have h1 := hC2 j hj
    exact ⟨a, rfl, by have := cell_blk (h1 0 (by decide)); rwa [add_block, add_block] at this, h1⟩
theorem open_s34 {fuel : Nat} {v : Value} {x : DataW H × List MemPlace} (h : DataW.trod enc Try.prog w base spare held fuel 34 [v] = some x) (hw : Wt 34 x.1) : ∃ a c xs, v = .slice a (List.length xs) c ∧ Ints w a (List.length xs) xs := by
  rcases open_slice Try.underlying34 h with ⟨hcs, _⟩ | ⟨a, len, cap, m, n, D, Pl, hcs, hb, hl, hm, hmm, hx, hi⟩
  · simp at hcs
    exact ⟨none, 0, [], hcs, rfl, by decide, fun j hj => by simp at hj⟩
  · simp at hcs
    subst hcs
    have hlm : len ≤ m := by rw [hmm]; split <;> omega
    have hw1 := hw
    rw [hx] at hw1
    have hlen := hw1.len Try.underlying34
    rw [Try.bytes3] at hlen
    simp only [List.length_map, List.length_range, reachBytes] at hlen
    obtain ⟨C, hC1, hC2⟩ := list_of (P := fun j (c : Int) => w.cell? (a.add j) = some (.int .i64 c)) 0 len (fun j hj => by
      obtain ⟨cs', hc, ht'⟩ := hi j (by omega)
      rw [Try.cells3] at hc
      obtain ⟨_, hcl, hat⟩ := World.cells?_some hc
      obtain ⟨i0, e0, _⟩ := DataW.trod_int Try.underlying3 ht'
      subst e0
      have := hat 0 (by omega)
      rw [Addr.add_add] at this
      simp at this
      exact ⟨i0, this⟩)
    subst hC1
    refine ⟨some a, cap, C, rfl, rfl, by omega, fun j hj => ⟨a, rfl, ?_, hC2 j hj⟩⟩
    have := cell_blk (hC2 j hj); rwa [add_block] at this
theorem okWide_sl {P : Program} {t e : TypeId} {r : Reach} {b0 : Nat} {v : Value} (ht : P.underlying t = some (.slice e)) (h : Value.okWide P w r b0 t v) : v.cells.toList = [v] := by
  simp only [Value.okWide, ht, Cell.okWide] at h
  cases v <;> simp_all [Cell.ok, Value.cells]
set_option maxRecDepth 100000 in
theorem open_xs {r : Reach} {b0 : Nat} {v : Value} {d : DataW H} {p : List MemPlace} (hv : Value.okWide Try.prog w r b0 34 v) (h : DataW.Trod enc Try.prog w base spare held 34 v d p) (hw : Wt 34 d) :
    ∃ a c xs, v = .slice a (List.length xs) c ∧ Ints w a (List.length xs) xs := by
  obtain ⟨fuel, hf⟩ := h
  have hvs := okWide_sl Try.underlying34 hv
  rw [hvs] at hf
  exact open_s34 (x := (d, p)) hf hw
set_option maxRecDepth 100000 in
theorem open_pb {r : Reach} {b0 : Nat} {v : Value} {d : DataW H} {p : List MemPlace} (hv : Value.okWide Try.prog w r b0 27 v) (h : DataW.Trod enc Try.prog w base spare held 27 v d p) (hw : Wt 27 d) :
    ∃ (p : Pb) (ta ha ba la : Option Addr) (tc hc bc lc : Nat), v = .agg #[.slice ta p.nt tc, .slice ha p.nh hc, .slice ba p.nb bc, .slice la p.nl lc] ∧ PbAt w p ta ha ba la tc hc bc lc := by
  obtain ⟨v0, v1, v2, v3, y0, y1, y2, y3, n, rfl, rfl, _, h0, h1, h2, h3⟩ := open_agg4 Try.underlying27 (by kernel_rfl) (by kernel_rfl) hv h
  obtain ⟨ta, nt, tc, T, rfl, hT, hs1⟩ := open_s22 h0 (hw.field Try.underlying27 (j := 0) (ft := 22) (by simp) (by simp))
  obtain ⟨ha, nh, hc, H, rfl, hH, hs2⟩ := open_s23 h1 (hw.field Try.underlying27 (j := 1) (ft := 23) (by simp) (by simp))
  obtain ⟨ba, nb, bc, B, rfl, hB⟩ := open_s24 h2 (hw.field Try.underlying27 (j := 2) (ft := 24) (by simp) (by simp))
  obtain ⟨la, nl, lc, L, rfl, hL⟩ := open_s25 h3 (hw.field Try.underlying27 (j := 3) (ft := 25) (by simp) (by simp))
  refine ⟨⟨nt, nh, nb, nl, fun j => (T[j]?.getD (ByteArray.empty, [])).1, fun j r => (T[j]?.getD (ByteArray.empty, [])).2[r]?.getD 0, fun j => (H[j]?.getD (ByteArray.empty, [])).1, fun j r => (H[j]?.getD (ByteArray.empty, [])).2[r]?.getD 0, fun j r => (B[j]?.getD [])[r]?.getD 0, fun j r => (L[j]?.getD [])[r]?.getD 0⟩, ta, ha, ba, la, tc, hc, bc, lc, rfl, ⟨hT.congr ?_, hH.congr ?_, hB, hL, hs1, hs2⟩⟩
  · intro j r; cases r <;> rfl
  · intro j r; cases r <;> rfl
end
end
section
set_option linter.unusedVariables false
open Go.RowKit
def strip (L : RkL) : List ((Int × Int) × List Int) := L.map fun x => (x.1, x.2.xs)
theorem strip_len (L : RkL) : (strip L).length = L.length := by simp [strip]
theorem strip_get (L : RkL) (i : Nat) : (strip L)[i]? = (L[i]?).map fun x => (x.1, x.2.xs) := by simp [strip]
theorem strip_full (L : RkL) (most : Nat) (k : Int × Int) : fullR most (strip L) k = fullR most L k := by
  unfold fullR
  rw [strip_len, strip_get]
  cases L[most - 1]? <;> rfl
theorem strip_pos (L : RkL) (k : Int × Int) : ∀ n, posR (strip L) k n = posR L k n := by
  intro n
  induction n with
  | zero => rfl
  | succ n ih =>
    unfold posR
    rw [strip_get]
    cases L[n]? with
    | none => rfl
    | some y => simp only [Option.map_some, ih]
theorem strip_ins (L : RkL) (i : Nat) (x : (Int × Int) × BegE) : strip (insAt L i x) = insAt (strip L) i (x.1, x.2.xs) := by
  unfold insAt strip
  simp [List.map_take, List.map_drop]
theorem strip_put (L : RkL) (most : Nat) (x : (Int × Int) × BegE) : strip (putR most L x) = putR most (strip L) (x.1, x.2.xs) := by
  unfold putR
  rw [strip_full]
  split
  · rfl
  · unfold insR
    rw [strip_len, strip_pos, ← strip_ins]
    unfold strip
    rw [List.map_take]
theorem full_no {L : RkL} {most : Nat} {k : Int × Int} (h : ¬ L.length = most) : fullR most L k = false := by unfold fullR; rw [decide_eq_false h]; rfl
theorem full_1 {L : RkL} {most : Nat} {k : Int × Int} {y : (Int × Int) × BegE} (h : L.length = most) (hy : L[most - 1]? = some y) : fullR most L k = !ltK k y.1 := by unfold fullR; rw [decide_eq_true h, hy]; rfl
theorem pos_lt {L : RkL} {k : Int × Int} {y : (Int × Int) × BegE} {i : Nat} (h0 : 0 < i) (hy : L[i - 1]? = some y) (h : ltK k y.1 = true) : posR L k i = posR L k (i - 1) := by
  obtain ⟨j, rfl⟩ : ∃ j, i = j + 1 := ⟨i - 1, by omega⟩
  simp only [Nat.add_sub_cancel] at hy ⊢
  rw [posR, hy]; simp [h]
theorem pos_ge {L : RkL} {k : Int × Int} {y : (Int × Int) × BegE} {i : Nat} (h0 : 0 < i) (hy : L[i - 1]? = some y) (h : ltK k y.1 = false) : posR L k i = i := by
  obtain ⟨j, rfl⟩ : ∃ j, i = j + 1 := ⟨i - 1, by omega⟩
  simp only [Nat.add_sub_cancel] at hy ⊢
  rw [posR, hy]; simp [h]
theorem put_full {L : RkL} {most : Nat} {x : (Int × Int) × BegE} (h : fullR most L x.1 = true) : putR most L x = L := by unfold putR; rw [if_pos h]
theorem put_in {L : RkL} {most i : Nat} {x : (Int × Int) × BegE} (h : fullR most L x.1 = false) (hi : posR L x.1 L.length = i) : putR most L x = (insAt L i x).take most := by
  unfold putR insR; rw [if_neg (by rw [h]; decide), hi]
theorem ins_len {L : RkL} {i : Nat} {x : (Int × Int) × BegE} (hi : i ≤ L.length) : (insAt L i x).length = L.length + 1 := by
  unfold insAt; simp; omega
theorem ins_mem {L : RkL} {i : Nat} {x y : (Int × Int) × BegE} (h : y ∈ insAt L i x) : y = x ∨ y ∈ L := by
  unfold insAt at h
  rw [List.mem_append, List.mem_cons] at h
  rcases h with h | h | h
  · exact .inr (List.mem_of_mem_take h)
  · exact .inl h
  · exact .inr (List.mem_of_mem_drop h)
theorem key_ints {W : World} {B g n c i : Nat} {L : RkL} {y : (Int × Int) × BegE} (h : OwnR W B 92 2 (.slice (some ⟨g, 0, none⟩) n c) n (keysV L)) (hn : L.length = n) (hy : L[i]? = some y) : Ints W (some ⟨g, i * 2, none⟩) 2 [y.1.1, y.1.2] := by
  have hi : i < L.length := (List.getElem?_eq_some_iff.1 hy).1
  have hO := h.ownP (val := fun j => (keysV L)[j]?.getD undef) (fun j u hu => by rw [hu]; rfl)
  obtain ⟨k1, k2⟩ := keys_get L i y hy
  have c1 := hO.cell (k := i * 2) (by omega)
  have c2 := hO.cell (k := i * 2 + 1) (by omega)
  simp only [k1, k2, Option.getD_some] at c1 c2
  refine ⟨rfl, by decide, fun j hj => ⟨_, rfl, hO.lt, ?_⟩⟩
  rw [add_lit]
  match j, hj with
  | 0, _ => exact c1
  | 1, _ => exact c2
theorem RkAt.ins {w W : World} {rb B most i : Nat} {kv lv kv2 lv2 : Value} {L : RkL} {x : (Int × Int) × BegE} (h : RkAt w rb B most kv lv L) (hi : i ≤ L.length) (hx : BegAt w B x.2.a x.2.c x.2.xs) (hxO : ∀ ad, x.2.a = some ad → ¬ RkO rb kv lv ad.block)
    (o : Only (RkO rb kv lv) w W) (hk : OwnR W B 92 2 kv2 (L.length + 1) (keysV (insAt L i x))) (hl : OwnR W B 34 1 lv2 (L.length + 1) (begsV (insAt L i x))) (hk2 : kv2.ownBlock = kv.ownBlock ∨ ∃ y, kv2.ownBlock = some y ∧ w.heap.size ≤ y) (hl2 : lv2.ownBlock = lv.ownBlock ∨ ∃ y, lv2.ownBlock = some y ∧ w.heap.size ≤ y)
    (hkl : ∀ y, kv2.ownBlock = some y → lv2.ownBlock ≠ some y) (ho : OwnP W rb 3 (VL [.int .i64 most, kv2, lv2])) :
    RkAt W rb B most kv2 lv2 (insAt L i x) ∧ (∀ b, RkO rb kv2 lv2 b → RkO rb kv lv b ∨ w.heap.size ≤ b) := by
  have hb : ∀ y ∈ insAt L i x, ∀ ad, y.2.a = some ad → ¬ RkO rb kv lv ad.block ∧ ad.block < w.heap.size := by
    intro y hy ad e
    rcases ins_mem hy with rfl | hy
    · exact ⟨hxO ad e, (hx.ge ad e).2⟩
    · obtain ⟨k1, k2⟩ := h.kb y hy ad e
      have := (h.b y hy).ge ad e
      have hr := h.rB
      exact ⟨by rintro (e | e | e) <;> first | omega | exact k1 e | exact k2 e, this.2⟩
  refine ⟨⟨ho, by rw [ins_len hi]; exact hk, by rw [ins_len hi]; exact hl, fun y hy => ?_, hkl, fun y hy ad e => ?_, h.rB, Nat.le_trans h.BW o.size⟩, ?_⟩
  · have hy0 : BegAt w B y.2.a y.2.c y.2.xs := by
      rcases ins_mem hy with rfl | hy
      · exact hx
      · exact h.b y hy
    exact hy0.only o (fun ad e => (hb y hy ad e).1)
  · obtain ⟨k1, k2⟩ := hb y hy ad e
    constructor
    · intro k
      rcases hk2 with e2 | ⟨z, e2, hz⟩
      · exact k1 (.inr (.inl (e2 ▸ k)))
      · rw [e2] at k; injection k with k; omega
    · intro k
      rcases hl2 with e2 | ⟨z, e2, hz⟩
      · exact k1 (.inr (.inr (e2 ▸ k)))
      · rw [e2] at k; injection k with k; omega
  · rintro b (e | e | e)
    · exact .inl (.inl e)
    · rcases hk2 with e2 | ⟨z, e2, hz⟩
      · exact .inl (.inr (.inl (e2 ▸ e)))
      · rw [e2] at e; injection e with e; exact .inr (by omega)
    · rcases hl2 with e2 | ⟨z, e2, hz⟩
      · exact .inl (.inr (.inr (e2 ▸ e)))
      · rw [e2] at e; injection e with e; exact .inr (by omega)
theorem RkAt.take {W W' : World} {rb B most m kc lc : Nat} {ka la : Option Addr} {L : RkL} (h : RkAt W rb B most (.slice ka L.length kc) (.slice la L.length lc) L) (hm : m ≤ L.length) (h0 : 0 < m) (o : Only (fun x => x = rb) W W') (ho : OwnP W' rb 3 (VL [.int .i64 most, .slice ka m kc, .slice la m lc])) : RkAt W' rb B most (.slice ka m kc) (.slice la m lc) (L.take m) := by
  have hl : (L.take m).length = m := by rw [List.length_take]; omega
  have hr := h.rB
  have e1 : ∀ n, (Value.slice ka n kc).ownBlock = (Value.slice ka L.length kc).ownBlock := fun n => by cases ka <;> rfl
  have e2 : ∀ n, (Value.slice la n lc).ownBlock = (Value.slice la L.length lc).ownBlock := fun n => by cases la <;> rfl
  refine ⟨ho, ?_, ?_, fun x hx => (h.b x (List.mem_of_mem_take hx)).only o (fun ad e => by have := ((h.b x (List.mem_of_mem_take hx)).ge ad e).1; omega), fun x hx => ?_, fun x hx ad e => ?_, h.rB, Nat.le_trans h.BW o.size⟩
  · rw [hl, ← keys_take L m hm]
    exact (h.k.take hm h0).only o (fun b e => by have := (h.k.ge (b := b) (by rw [← e1 m]; exact e)).1; omega)
  · rw [hl]
    have : begsV (L.take m) = (begsV L).take (m * 1) := by unfold begsV; rw [Nat.mul_one, List.map_take]
    rw [this]
    exact (h.l.take hm h0).only o (fun b e => by have := (h.l.ge (b := b) (by rw [← e2 m]; exact e)).1; omega)
  · rw [e2]; exact h.kl x (by rw [← e1 m]; exact hx)
  · rw [e1, e2]; exact h.kb x (List.mem_of_mem_take hx) ad e
end
end Go.Proofs.Ytodedneanlekdaa
