/- Several texts of this claim in one file. (1) A play in memory; what its steps keep. (2) The block of a play, and the nodes that are collected. Nothing of the program is walked here. (3) Play in plain words: rows and energies. Nothing of the program is proved here. (4) Arguments that came in: a cluster, nudges, read off their data. -/
import Derived.Test.YtoalamakhjbedaaBd2
import Derived.Test.YtoalamakhjbedaaChecked
import Derived.Deep.Slices
import Derived.Deep.Fields
import Derived.ChangeSame
import Derived.Lib.SmallJoins
import Derived.SizedLaws
import Derived.ProofKit
namespace Go.Proofs.Ytoalamakhjbedaa
section
set_option linter.unusedVariables false
open Go.RowKit
/-- the cells of the play's own block -/
def PlC (bp bn : Nat) (gr hold : Int) (na la pa : Option Addr) (n nc m lc cap : Nat) : List (Addr × Value) :=
  [(⟨bp, 0, none⟩, .int .i64 gr), (⟨bp, 1, none⟩, .int .i64 hold), (⟨bp, 2, none⟩, .slice na n nc), (⟨bp, 3, none⟩, .slice la m lc), (⟨bp, 4, none⟩, .slice pa n cap)]
/-- a play in memory, but its nodes -/
structure PlE (wB W : World) (bp bn : Nat) (gr hold : Int) (na la pa : Option Addr) (n nc m lc cap : Nat) (l : List (List Int)) : Prop where
  g : Gr wB W
  p : RCells W (PlC bp bn gr hold na la pa n nc m lc cap)
  l : StAt wB 4 la m l
  pb : wB.heap.size ≤ bp
  nb : wB.heap.size ≤ bn
  ne : ¬ bp = bn
  hpa : 0 < n → pa = some ⟨bn, 0, none⟩
section
variable {wB W W' : World} {bp bn : Nat} {gro hold : Int} {na la pa : Option Addr} {n nc m lc cap : Nat} {l : List (List Int)} {s : PS}
theorem PlE.lt (h : PlE wB W bp bn gro hold na la pa n nc m lc cap l) : bp < W.heap.size := lt_cell (h.p.at 0 rfl)
theorem PlE.gr (h : PlE wB W bp bn gro hold na la pa n nc m lc cap l) (g : Gr W W') : PlE wB W' bp bn gro hold na la pa n nc m lc cap l := ⟨h.g.trans g, h.p.gr g, h.l, h.pb, h.nb, h.ne, h.hpa⟩
theorem PlE.only {S : Nat → Prop} (h : PlE wB W bp bn gro hold na la pa n nc m lc cap l) (g : Only S W W') (hS : ∀ i, S i → wB.heap.size ≤ i ∧ ¬ i = bp) : PlE wB W' bp bn gro hold na la pa n nc m lc cap l :=
  ⟨((h.g.only (fun i => wB.heap.size ≤ i)).trans (g.mono' (fun i hi => (hS i hi).1))).gr (fun i hi e => by omega),
   h.p.only g (fun p hp e => by simp [PlC] at hp; rcases hp with rfl | rfl | rfl | rfl | rfl <;> exact (hS _ e).2 rfl), h.l, h.pb, h.nb, h.ne, h.hpa⟩
theorem PlE.on (h : PlE wB W bp bn gro hold na la pa n nc m lc cap l) (g : Only (fun b => b = bn) W W') : PlE wB W' bp bn gro hold na la pa n nc m lc cap l := h.only g (fun i e => ⟨by rw [e]; exact h.nb, fun e2 => h.ne (by rw [← e2, e])⟩)
/-- what the iterator reads stays -/
theorem PlE.ate {Yb : Nat → Prop} {bx bt bk kb kn kc : Nat} {t : Int} {ks : List Int} (h : PlE wB W bp bn gro hold na la pa n nc m lc cap l) (cx : W.cell? ⟨bx, 0, none⟩ = some (.pointer (some ⟨bp, 0, none⟩))) (ct : W.cell? ⟨bt, 0, none⟩ = some (.int .i64 t))
    (ck : W.cell? ⟨bk, 0, none⟩ = some (.slice (some ⟨kb, 0, none⟩) kn kc)) (hks : Ints W (some ⟨kb, 0, none⟩) kn ks) (hkb : kb < W.heap.size) (hY : ∀ b, Yb b → wB.heap.size ≤ b ∧ ¬ b = bp ∧ ¬ b = bx ∧ ¬ b = bt ∧ ¬ b = bk ∧ ¬ b = kb) :
    ∀ W', Only (fun b => Yb b ∨ W.heap.size ≤ b) W W' → AtE W' bx bt bk bp la m lc l t (some ⟨kb, 0, none⟩) kn kc ks := fun W' g => by
  have l1 := lt_cell cx
  have l2 := lt_cell ct
  have l3 := lt_cell ck
  have l4 := h.lt
  have hg := h.g.size
  simp only at l1 l2 l3
  have hP := h.only g (fun i hi => by
    rcases hi with hi | hi
    · exact ⟨(hY i hi).1, (hY i hi).2.1⟩
    · omega)
  exact ⟨g.cell cx (fun e => by rcases e with e | e; exact (hY _ e).2.2.1 rfl; simp only at e; omega), g.cell ct (fun e => by rcases e with e | e; exact (hY _ e).2.2.2.1 rfl; simp only at e; omega), g.cell ck (fun e => by rcases e with e | e; exact (hY _ e).2.2.2.2.1 rfl; simp only at e; omega),
    hP.p.at 3 rfl, hP.l.gr hP.g, hks.onlyAt g (fun ad e hb => by injection e with e; subst e; rcases hb with hb | hb; exact (hY _ hb).2.2.2.2.2 rfl; simp only at hb; omega)⟩
end
theorem ints_one {W : World} {b : Nat} {x : Int} (h : W.cell? ⟨b, 0, none⟩ = some (.int .i64 x)) : Ints W (some ⟨b, 0, none⟩) 1 [x] :=
  ⟨rfl, by decide, fun j hj => ⟨_, rfl, lt_cell h, by
    obtain rfl : j = 0 := by omega
    exact h⟩⟩
theorem ints_two {W : World} {b : Nat} {x y : Int} (h : W.cell? ⟨b, 0, none⟩ = some (.int .i64 x)) (k : W.cell? ⟨b, 1, none⟩ = some (.int .i64 y)) : Ints W (some ⟨b, 0, none⟩) 2 [x, y] :=
  ⟨rfl, by decide, fun j hj => ⟨_, rfl, lt_cell h, by
    have hj : j = 0 ∨ j = 1 := by omega
    rcases hj with rfl | rfl
    · exact h
    · exact k⟩⟩
theorem NV_tm (s : PS) (i g : Nat) (h : g < 10) : NV s (i * 17 + 6 + g) = .int .i64 (s i (6 + g)) := by rw [Nat.add_assoc]; exact NV_int s i (6 + g) (by omega)
theorem NV_upt (s : PS) (i g : Nat) (h : g < 10) (v : Int) : (fun k => if k = i * 17 + 6 + g then .int .i64 v else NV s k) = NV (up s i (6 + g) v) := by rw [Nat.add_assoc]; exact NV_up s i (6 + g) (by omega) v
/-- the cells of what is lost -/
def LV (f : Nat → Nat → Bool) : Nat → Value := fun k => .bool (f (k / 16) (k % 16))
theorem LV_at (f : Nat → Nat → Bool) (i j : Nat) (h : j < 16) : LV f (i * 16 + j) = .bool (f i j) := by
  have h1 : (i * 16 + j) % 16 = j := by omega
  have h2 : (i * 16 + j) / 16 = i := by omega
  unfold LV
  rw [h1, h2]
theorem LV_up (f : Nat → Nat → Bool) (i j : Nat) (h : j < 16) : (fun k => if k = i * 16 + j then .bool true else LV f k) = LV (fun a b => if a = i ∧ b = j then true else f a b) := by
  funext k
  by_cases e : k = i * 16 + j
  · subst e; rw [if_pos rfl, LV_at _ _ _ h, if_pos ⟨rfl, rfl⟩]
  · rw [if_neg e]
    have h2 : ¬ (k / 16 = i ∧ k % 16 = j) := by omega
    show Value.bool (f (k / 16) (k % 16)) = Value.bool (if k / 16 = i ∧ k % 16 = j then true else f (k / 16) (k % 16))
    rw [if_neg h2]
theorem lost_new (W : World) : OwnP (W.alloc (.cells (List.replicate 256 (.bool false)).toArray 136)) W.heap.size 256 (LV (fun _ _ => false)) :=
  ⟨_, _, World.alloc_heap_new _ _, by rw [List.size_toArray, List.length_replicate]; exact Nat.le_refl _, fun k hk => by rw [List.getElem?_toArray, List.getElem?_replicate, if_pos hk]; rfl⟩
theorem tm9 (f : Nat → Int) {k : Nat} (h : k < 9) : ([.int .i64 (f 6), .int .i64 (f 7), .int .i64 (f 8), .int .i64 (f 9), .int .i64 (f 10), .int .i64 (f 11), .int .i64 (f 12), .int .i64 (f 13), .int .i64 (f 14)] : List Value)[k]? = some (.int .i64 (f (6 + k))) := by
  match k, h with
  | 0, _ | 1, _ | 2, _ | 3, _ | 4, _ | 5, _ | 6, _ | 7, _ | 8, _ => rfl
/-- what the steps of a play need of its numbers -/
structure SOk (n : Nat) (s : PS) : Prop where
  b : ∀ i, i < n → 0 ≤ s i 3 ∧ s i 3 ≤ 1000
  r : ∀ i, i < n → 1 ≤ s i 4 ∧ s i 4 ≤ 1000
  t : ∀ i, i < n → ∀ j, 6 ≤ j → j ≤ 15 → 0 ≤ s i j ∧ s i j ≤ 1000
theorem SOk.up {n : Nat} {s : PS} (h : SOk n s) {i j : Nat} {v : Int} (hj : 5 ≤ j) (hv : 6 ≤ j → j ≤ 15 → 0 ≤ v ∧ v ≤ 1000) : SOk n (up s i j v) :=
  ⟨fun a ha => by rw [up_ne _ _ (by omega)]; exact h.b a ha, fun a ha => by rw [up_ne _ _ (by omega)]; exact h.r a ha, fun a ha k h1 h2 => by
    by_cases e : a = i ∧ k = j
    · obtain ⟨rfl, rfl⟩ := e; rw [up_same]; exact hv h1 h2
    · rw [up_ne _ _ (by omega)]; exact h.t a ha k h1 h2⟩
theorem SOk.askX {n : Nat} {s : PS} (h : SOk n s) (x : List Int) : SOk n (askX s x) := by
  unfold Go.Proofs.Ytoalamakhjbedaa.askX askA
  split
  · exact (h.up (by decide) (by omega)).up (by decide) (by omega)
  · exact h.up (by decide) (by omega)
theorem SOk.askS {n : Nat} {s : PS} (h : SOk n s) (l : List (List Int)) (t : Int) : SOk n (askS l t s) := by
  unfold Go.Proofs.Ytoalamakhjbedaa.askS
  generalize picks l t [1, 2] = L
  induction L generalizing s with
  | nil => exact h
  | cons x L ih => exact ih (h.askX x)
theorem SOk.refill {n : Nat} {s : PS} (h : SOk n s) (t : Int) : ∀ k, k ≤ n → SOk n (itN (refill1 t) k s)
  | 0, _ => h
  | k + 1, hk => by
    have ih := h.refill t k (by omega)
    rw [itN_succ]
    generalize itN (refill1 t) k s = z at *
    unfold refill1
    split
    · refine ih.up (by decide) (fun _ _ => ?_)
      have h1 := ih.t k (by omega) 15 (by decide) (by decide)
      have h2 := ih.b k (by omega)
      simp only [Int.min_def]
      split <;> omega
    · exact ih
theorem SOk.noise {n : Nat} {s : PS} (h : SOk n s) {hold : Int} (h1 : 1 ≤ hold) (h100 : hold ≤ 100) : ∀ L : List (List Int), (∀ x ∈ L, (nv x 2).toNat < n) → SOk n (L.foldl (noiseX hold) s)
  | [], _ => h
  | x :: L, hL => by
    refine SOk.noise (s := noiseX hold s x) ?_ h1 h100 L (fun y hy => hL y (by simp [hy]))
    unfold noiseX
    split
    · rename_i hc
      have := h.t (nv x 2).toNat (hL x (by simp)) 15 (by decide) (by decide)
      exact (h.up (by decide) (fun _ _ => by omega)).up (by decide) (fun _ _ => by omega)
    · exact h
theorem SOk.disturb {n : Nat} {s : PS} (h : SOk n s) {hold : Int} (h1 : 1 ≤ hold) (h100 : hold ≤ 100) {l : List (List Int)} (hl : ∀ x ∈ l, (nv x 2).toNat < n) (t : Int) : SOk n (disturbS hold l n t s) :=
  (h.refill t n (Nat.le_refl _)).noise h1 h100 _ (fun x hx => hl x (List.mem_filter.1 hx).1)
theorem itN_keep {σ : Type} {f : Nat → σ → σ} {P : σ → Prop} {s : σ} (hs : P s) : ∀ k, (∀ i s, i < k → P s → P (f i s)) → P (itN f k s)
  | 0, _ => hs
  | k + 1, h => h k _ (by omega) (itN_keep hs k (fun i s hi => h i s (by omega)))
theorem send1_lo {hold : Int} {lost : Nat → Nat → Bool} {src dst g : Nat} {s : PS} {i j : Nat} (h : j < 6 ∨ 15 ≤ j) (hg : g < 9) : send1 hold lost src dst g s i j = s i j := by
  unfold send1
  split
  · exact up_ne _ _ (by omega)
  · rfl
theorem send2_lo {hold : Int} {lost : Nat → Nat → Bool} {src dst gr : Nat} {s : PS} {i j : Nat} (h : j < 6 ∨ 15 ≤ j) (hg : gr ≤ 9) : send2 hold gr lost src dst s i j = s i j :=
  itN_keep (P := fun z : PS => z i j = s i j) rfl gr (fun k z hk hz => by rw [send1_lo h (by omega)]; exact hz)
theorem send3_lo {hold : Int} {lost : Nat → Nat → Bool} {src gr n : Nat} {s : PS} {i j : Nat} (h : j < 6 ∨ 15 ≤ j) (hg : gr ≤ 9) : send3 hold gr n lost src s i j = s i j :=
  itN_keep (P := fun z : PS => z i j = s i j) rfl n (fun k z hk hz => by rw [send2_lo h hg]; exact hz)
theorem SOk.send1 {n : Nat} {s : PS} (h : SOk n s) {hold : Int} (h1 : 1 ≤ hold) (h100 : hold ≤ 100) {lost : Nat → Nat → Bool} {src dst g : Nat} : SOk n (send1 hold lost src dst g s) := by
  unfold Go.Proofs.Ytoalamakhjbedaa.send1
  split
  · exact h.up (by omega) (fun _ _ => by omega)
  · exact h
theorem SOk.send {n : Nat} {s : PS} (h : SOk n s) {hold : Int} (h1 : 1 ≤ hold) (h100 : hold ≤ 100) {lost : Nat → Nat → Bool} {gr k : Nat} : SOk n (sendS hold gr k lost s) :=
  itN_keep h k (fun i s _ hs => itN_keep hs k (fun i s _ hs => itN_keep hs gr (fun i s _ hs => hs.send1 h1 h100)))
theorem pass1_hi {i k j : Nat} {s : PS} {a : Nat} (h : a ≠ i ∨ j ≠ 16 ∧ j ≠ 6 + k) : pass1 i k s a j = s a j := by
  unfold pass1
  split
  · rw [up_ne _ _ (by omega), up_ne _ _ (by omega)]
  · rfl
theorem pass_keep {i k : Nat} {s : PS} (hk : k ≤ 9) (j : Nat) (hj : k ≤ j) (hj2 : j < 9) : itN (pass1 i) k s i (6 + j) = s i (6 + j) :=
  itN_keep (P := fun z : PS => z i (6 + j) = s i (6 + j)) rfl k (fun a z ha hz => by rw [pass1_hi (.inr (by omega))]; exact hz)
theorem SOk.pass1 {n : Nat} {s : PS} (h : SOk n s) {i k : Nat} (hi : i < n) (hk : k < 9) : SOk n (pass1 i k s) := by
  unfold Go.Proofs.Ytoalamakhjbedaa.pass1
  split
  · refine (h.up (by decide) (by omega)).up (by omega) (fun _ _ => ?_)
    have := h.t i hi (6 + k) (by omega) (by omega)
    omega
  · exact h
theorem SOk.passN {n : Nat} {s : PS} (h : SOk n s) {i : Nat} (hi : i < n) : ∀ k, k ≤ 9 → SOk n (itN (Go.Proofs.Ytoalamakhjbedaa.pass1 i) k (Go.Proofs.Ytoalamakhjbedaa.up s i 16 0))
  | 0, _ => h.up (by decide) (by omega)
  | k + 1, hk => by rw [itN_succ]; exact (h.passN hi k (by omega)).pass1 hi (by omega)
theorem SOk.pass {n : Nat} {s : PS} (h : SOk n s) : ∀ k, k ≤ n → SOk n (itN pass2 k (s, 0)).1
  | 0, _ => h
  | k + 1, hk => by rw [itN_succ]; exact (h.pass k (by omega)).passN (by omega) 9 (Nat.le_refl _)
/-- a number that says yes or no -/
def bz (x : Int) : Bool := x != 0
theorem bz_true {x : Int} (h : bz x = true) : ¬ x = 0 := by simpa [bz] using h
theorem bz_false {x : Int} (h : bz x = false) : x = 0 := by simpa [bz] using h
theorem refill1_pos {t : Int} {i : Nat} {s : PS} (h : 0 < t) (k : t % s i 4 = 0) : refill1 t i s = up s i 15 (min (s i 15 + 1) (s i 3)) := if_pos ⟨h, k⟩
theorem refill1_neg {t : Int} {i : Nat} {s : PS} (h : ¬ (0 < t ∧ t % s i 4 = 0)) : refill1 t i s = s := if_neg h
theorem noiseX_pos {hold : Int} {s : PS} {x : List Int} (h1 : s (nv x 2).toNat 16 = 0) (h2 : 0 < s (nv x 2).toNat 15) (h3 : s (nv x 2).toNat 14 = 0) : noiseX hold s x = up (up s (nv x 2).toNat 15 (s (nv x 2).toNat 15 - 1)) (nv x 2).toNat 14 hold := if_pos ⟨h1, h2, h3⟩
theorem noiseX_neg {hold : Int} {s : PS} {x : List Int} (h : ¬ (s (nv x 2).toNat 16 = 0 ∧ 0 < s (nv x 2).toNat 15 ∧ s (nv x 2).toNat 14 = 0)) : noiseX hold s x = s := if_neg h
theorem send1_pos {hold : Int} {lost : Nat → Nat → Bool} {src dst g : Nat} {s : PS} (h : lost src dst = false) (k : bitB (andV (s src 5) (s dst 0)) g = true) : send1 hold lost src dst g s = up s dst (6 + g) hold := if_pos ⟨h, k⟩
theorem send1_neg {hold : Int} {lost : Nat → Nat → Bool} {src dst g : Nat} {s : PS} (h : ¬ (lost src dst = false ∧ bitB (andV (s src 5) (s dst 0)) g = true)) : send1 hold lost src dst g s = s := if_neg h
theorem send1_it {hold : Int} {lost : Nat → Nat → Bool} {src dst gr : Nat} {s : PS} {i j : Nat} (h : j < 6 ∨ 15 ≤ j) (hg : gr ≤ 9) : itN (send1 hold lost src dst) gr s i j = s i j := send2_lo h hg
theorem send2_it {hold : Int} {lost : Nat → Nat → Bool} {src gr n : Nat} {s : PS} {i j : Nat} (h : j < 6 ∨ 15 ≤ j) (hg : gr ≤ 9) : itN (send2 hold gr lost src) n s i j = s i j := send3_lo h hg
theorem pass1_pos {i k : Nat} {s : PS} (h : 0 < s i (6 + k)) : pass1 i k s = up (up s i 16 1) i (6 + k) (s i (6 + k) - 1) := if_pos h
theorem pass1_neg {i k : Nat} {s : PS} (h : ¬ 0 < s i (6 + k)) : pass1 i k s = s := if_neg h
theorem SOk.tick {n gr : Nat} {p : PR} (h : SOk n p.s) {hold : Int} (h1 : 1 ≤ hold) (h100 : hold ≤ 100) {l : List (List Int)} (hl : ∀ x ∈ l, (nv x 2).toNat < n) (t : Nat) : SOk n (tick hold gr n l t p).s :=
  (((h.askS l t).disturb h1 h100 hl t).send h1 h100).pass n (Nat.le_refl _)
theorem mem_pre {l pre : List (List Int)} {x : List Int} {t : Int} {ks : List Int} (h : ∃ rest, picks l t ks = pre ++ x :: rest) : x ∈ l := by
  obtain ⟨r, h⟩ := h
  have : x ∈ picks l t ks := by rw [h]; simp
  exact (List.mem_filter.1 this).1
theorem pre_mem {l pre : List (List Int)} {x y : List Int} {t : Int} {ks : List Int} (h : ∃ rest, picks l t ks = pre ++ x :: rest) (hy : y ∈ pre) : y ∈ l := by
  obtain ⟨r, h⟩ := h
  have : y ∈ picks l t ks := by rw [h]; simp [hy]
  exact (List.mem_filter.1 this).1
theorem pick_pre {l pre : List (List Int)} {x : List Int} {t : Int} {ks : List Int} (h : ∃ rest, picks l t ks = pre ++ x :: rest) : nv x 0 = t ∧ ks.contains (nv x 1) = true := by
  obtain ⟨r, h⟩ := h
  have : x ∈ picks l t ks := by rw [h]; simp
  have := (List.mem_filter.1 this).2
  unfold pickB at this
  simpa using this
/-- a mark's block -/
def Mk1 (W : World) (k : Nat) : Prop := W.heap[k]? = some (.deferred (some []))
theorem Mk1.lt {W : World} {k : Nat} (h : Mk1 W k) : k < W.heap.size := (Array.getElem?_eq_some_iff.1 h).1
theorem Mk1.only {S : Nat → Prop} {W W' : World} {k : Nat} (h : Mk1 W k) (g : Only S W W') (hs : ¬ S k) : Mk1 W' k := (g.block k h.lt hs).trans h
theorem Mk1.gr {W W' : World} {k : Nat} (h : Mk1 W k) (g : Gr W W') : Mk1 W' k := (g.below.block _ h.lt).trans h
/-- a play from some state on -/
def runFrom (hold : Int) (gr n : Nat) (l : List (List Int)) (s : PS) (t : Nat) : PR := itN (tick hold gr n l) t ⟨s, [], []⟩
theorem SOk.run {n gr : Nat} {s : PS} (h : SOk n s) {hold : Int} (h1 : 1 ≤ hold) (h100 : hold ≤ 100) {l : List (List Int)} (hl : ∀ x ∈ l, (nv x 2).toNat < n) : ∀ t, SOk n (runFrom hold gr n l s t).s
  | 0 => h
  | t + 1 => (SOk.run h h1 h100 hl t).tick h1 h100 hl t
theorem runFrom_len {n gr : Nat} {s : PS} {hold : Int} {l : List (List Int)} : ∀ t, (runFrom hold gr n l s t).asked.length = t ∧ (runFrom hold gr n l s t).rows.length = t
  | 0 => ⟨rfl, rfl⟩
  | t + 1 => by
    have h := runFrom_len (n := n) (gr := gr) (s := s) (hold := hold) (l := l) t
    show ((runFrom hold gr n l s t).asked ++ [_]).length = t + 1 ∧ ((runFrom hold gr n l s t).rows ++ [_]).length = t + 1
    simp [h.1, h.2]
/-- a return behind one range -/
theorem ret_mark {P : Program} {fn : Func} {R : Ending → World → Prop} {A : Act} {W : World} {v : Value} {N k : Nat} {L : List (Nat × Value)} (F : Fr A N L [{ target := .collected k, args := #[] }]) (hk : W.heap[k]? = some (.deferred (some [])))
    (hr : (results fn A.tmps).run P (W.putObj k (.deferred none)) = .ok v (W.putObj k (.deferred none))) (h : ∀ W2, Only (fun b => b = k) W W2 → R (.returned v) W2) : bodyPostM Fence.wide 0 P fn R .ret A W :=
  Y.ret1 F hk hr (h _ (putObj_only _ _ _))
end
section
set_option linter.unusedVariables false
open Go.RowKit
def PVal (gr hold : Int) (na : Option Addr) (n nc : Nat) (la : Option Addr) (m lc : Nat) (v : Value) : Nat → Value := fun k =>
  match k with
  | 0 => .int .i64 gr
  | 1 => .int .i64 hold
  | 2 => .slice na n nc
  | 3 => .slice la m lc
  | _ => v
theorem PVal_set (gr hold : Int) (na : Option Addr) (n nc : Nat) (la : Option Addr) (m lc : Nat) (v v2 : Value) : ∀ k, k < 5 → (fun j => if j = 4 then v2 else PVal gr hold na n nc la m lc v j) k = PVal gr hold na n nc la m lc v2 k := by
  intro k hk
  match k, hk with
  | 0, _ | 1, _ | 2, _ | 3, _ | 4, _ => rfl
theorem pval_new {W : World} {b : Nat} {t : TypeId} {gr hold : Int} {na : Option Addr} {n nc : Nat} {la : Option Addr} {m lc : Nat} {v : Value} (h : W.heap[b]? = some (.cells #[.int .i64 gr, .int .i64 hold, .slice na n nc, .slice la m lc, v] t)) : OwnP W b 5 (PVal gr hold na n nc la m lc v) :=
  ⟨_, _, h, by simp, fun k hk => by
    match k, hk with
    | 0, _ | 1, _ | 2, _ | 3, _ | 4, _ => rfl⟩
theorem ownP_zero {W : World} {b : Nat} {cs : Array Value} {t : TypeId} {val : Nat → Value} (h : W.heap[b]? = some (.cells cs t)) : OwnP W b 0 val := ⟨_, _, h, Nat.zero_le _, fun k hk => by omega⟩
/-- the cells of the nodes that are collected -/
def flatN (nd : List (List Int)) (i : Nat) : List Value := (List.range (i * 17)).map (NV (startS nd))
def row17 (nd : List (List Int)) (i : Nat) : List Value :=
  [.int .i64 (cv nd i 0), .int .i64 (cv nd i 1), .int .i64 (cv nd i 2), .int .i64 (cv nd i 3), .int .i64 (cv nd i 4), .int .i64 0, .int .i64 0, .int .i64 0, .int .i64 0, .int .i64 0, .int .i64 0, .int .i64 0, .int .i64 0, .int .i64 0, .int .i64 0, .int .i64 (cv nd i 3), .bool false]
theorem flatN_succ (nd : List (List Int)) (i : Nat) : flatN nd (i + 1) = flatN nd i ++ row17 nd i := by
  unfold flatN
  rw [Nat.add_mul, Nat.one_mul, List.range_add, List.map_append]
  congr 1
  rw [List.map_map]
  have e : (List.range 17).map (NV (startS nd) ∘ fun x => i * 17 + x) = [NV (startS nd) (i * 17 + 0), NV (startS nd) (i * 17 + 1), NV (startS nd) (i * 17 + 2), NV (startS nd) (i * 17 + 3), NV (startS nd) (i * 17 + 4), NV (startS nd) (i * 17 + 5), NV (startS nd) (i * 17 + 6), NV (startS nd) (i * 17 + 7), NV (startS nd) (i * 17 + 8), NV (startS nd) (i * 17 + 9), NV (startS nd) (i * 17 + 10), NV (startS nd) (i * 17 + 11), NV (startS nd) (i * 17 + 12), NV (startS nd) (i * 17 + 13), NV (startS nd) (i * 17 + 14), NV (startS nd) (i * 17 + 15), NV (startS nd) (i * 17 + 16)] := rfl
  rw [e, NV_int _ _ 0 (by decide), NV_int _ _ 1 (by decide), NV_int _ _ 2 (by decide), NV_int _ _ 3 (by decide), NV_int _ _ 4 (by decide), NV_int _ _ 5 (by decide), NV_int _ _ 6 (by decide), NV_int _ _ 7 (by decide), NV_int _ _ 8 (by decide), NV_int _ _ 9 (by decide), NV_int _ _ 10 (by decide), NV_int _ _ 11 (by decide), NV_int _ _ 12 (by decide), NV_int _ _ 13 (by decide), NV_int _ _ 14 (by decide), NV_int _ _ 15 (by decide), NV_bool]
  rfl
theorem flatN_at {nd : List (List Int)} {n j : Nat} {u : Value} (h : (flatN nd n)[j]? = some u) : u = NV (startS nd) j := by
  have hj := (List.getElem?_eq_some_iff.1 h).1
  unfold flatN at h hj
  rw [List.getElem?_map, List.getElem?_range (by simpa using hj)] at h
  simpa using h.symm
theorem Y.b03 {ρ : Operand → Value} {x y : Operand} {v z : Value} (h : ρ x = v) (k : ρ y = z) : [(0, x), (3, y)].map (fun p : Nat × Operand => (p.1, ρ p.2)) = [(0, v), (3, z)] := by simp [h, k]
theorem Try.bd104 (a b c d e f : Int) (W : World) : (Instr.build 104 #[(0, .agg #[.int .i64 a, .int .i64 b, .int .i64 c, .int .i64 d, .int .i64 e]), (3, .int .i64 f)]).run Try.prog W = .ok (.agg #[.int .i64 a, .int .i64 b, .int .i64 c, .int .i64 d, .int .i64 e, .int .i64 0, .int .i64 0, .int .i64 0, .int .i64 0, .int .i64 0, .int .i64 0, .int .i64 0, .int .i64 0, .int .i64 0, .int .i64 0, .int .i64 f, .bool false]) W := by kernel_rfl
theorem Try.bd101 (a b : Int) (na la : Option Addr) (n nc m lc : Nat) (W : World) : (Instr.build 101 #[(0, .agg #[.int .i64 a, .int .i64 b, .slice na n nc]), (1, .slice la m lc)]).run Try.prog W = .ok (.agg #[.int .i64 a, .int .i64 b, .slice na n nc, .slice la m lc, .slice none 0 0]) W := by kernel_rfl
theorem Try.bs99 (a b c d e f : Int) (W : World) : (Instr.buildSlice 99 1 #[(0, .agg #[.int .i64 a, .int .i64 b, .int .i64 c, .int .i64 d, .int .i64 e, .int .i64 0, .int .i64 0, .int .i64 0, .int .i64 0, .int .i64 0, .int .i64 0, .int .i64 0, .int .i64 0, .int .i64 0, .int .i64 0, .int .i64 f, .bool false])]).run Try.prog W = .ok (.slice (some ⟨W.heap.size, 0, none⟩) 1 1) (W.alloc (.cells #[.int .i64 a, .int .i64 b, .int .i64 c, .int .i64 d, .int .i64 e, .int .i64 0, .int .i64 0, .int .i64 0, .int .i64 0, .int .i64 0, .int .i64 0, .int .i64 0, .int .i64 0, .int .i64 0, .int .i64 0, .int .i64 f, .bool false] 104)) := by kernel_rfl
/-- what begin leaves -/
def Begun (wB W : World) (gr hold : Int) (na la : Option Addr) (n nc m lc : Nat) (l nd : List (List Int)) (bp : Nat) : Prop :=
  ∃ bn pa cap, PlE wB W bp bn gr hold na la pa n nc m lc cap l ∧ OwnP W bn (n * 17) (NV (startS nd))
end
section
set_option linter.unusedVariables false
open Go.RowKit
theorem OwnR.intsN {w : World} {B e n : Nat} {v : Value} {zs : List Int} (h : OwnR w B e 1 v n (zs.map (Value.int .i64))) (hn : zs.length = n) (hl : n < 1152921504606846976) : ∃ a c, v = .slice a n c ∧ Ints w a n zs ∧ ∀ ad, a = some ad → B ≤ ad.block ∧ ad.block < w.heap.size := by
  subst hn
  obtain ⟨a, c, rfl, hI⟩ := h.ints hl
  refine ⟨a, c, rfl, hI, fun ad e => ?_⟩
  subst e
  rcases h.shape with ⟨h1, _⟩ | ⟨g, c', h1, h2, h3⟩
  · cases h1
  · injection h1 with h1
    injection h1 with h1
    subst h1
    exact ⟨h2, h3⟩
theorem Ints.nil (w : World) : Ints w none 0 [] := ⟨rfl, by decide, fun j hj => by omega⟩
/-- a row of numbers in a block -/
def EV (f : Nat → Int) : Nat → Value := fun k => .int .i64 (f k)
theorem EV_up (f : Nat → Int) (i : Nat) (v : Int) : (fun k => if k = i then .int .i64 v else EV f k) = EV (fun k => if k = i then v else f k) := by
  funext k
  show (if k = i then Value.int .i64 v else Value.int .i64 (f k)) = Value.int .i64 (if k = i then v else f k)
  split <;> rfl
theorem ownP_ints {w : World} {b n : Nat} {f : Nat → Int} (h : OwnP w b n (EV f)) (hl : n < 1152921504606846976) : Ints w (some ⟨b, 0, none⟩) n ((List.range n).map f) :=
  ⟨by simp, hl, fun j hj => ⟨_, rfl, h.lt, by rw [addr_add0, h.cell hj]; simp [EV, hj]⟩⟩
theorem Try.mk34 (n : Nat) (w : World) (hn : n ≤ 16) : (Instr.makeSlice 34 (.int .i64 (n : Int)) (.int .i64 (n : Int))).run Try.prog w = .ok (.slice (some ⟨w.heap.size, 0, none⟩) n n) (w.alloc (.cells (List.replicate n (.int .i64 0)).toArray 3)) := by
  obtain rfl | rfl | rfl | rfl | rfl | rfl | rfl | rfl | rfl | rfl | rfl | rfl | rfl | rfl | rfl | rfl | rfl : n = 0 ∨ n = 1 ∨ n = 2 ∨ n = 3 ∨ n = 4 ∨ n = 5 ∨ n = 6 ∨ n = 7 ∨ n = 8 ∨ n = 9 ∨ n = 10 ∨ n = 11 ∨ n = 12 ∨ n = 13 ∨ n = 14 ∨ n = 15 ∨ n = 16 := by omega
  all_goals kernel_rfl
theorem zeros_own (w : World) (n : Nat) : OwnP (w.alloc (.cells (List.replicate n (.int .i64 0)).toArray 3)) w.heap.size n (EV (fun _ => 0)) :=
  ⟨_, _, World.alloc_heap_new _ _, by rw [List.size_toArray, List.length_replicate]; exact Nat.le_refl _, fun k hk => by rw [List.getElem?_toArray, List.getElem?_replicate, if_pos hk]; rfl⟩
/-- what a node takes in a tick with this row -/
def en1 (nd : List (List Int)) (row : Int) (j : Nat) : Int := if bitB row j then cv nd j 1 else cv nd j 2
def enS (nd : List (List Int)) (rows : List Int) (j : Nat) : Int := rows.foldl (fun a r => a + en1 nd r j) 0
def enP (nd : List (List Int)) (row : Int) (i : Nat) (f : Nat → Int) : Nat → Int := fun j => if j < i then f j + en1 nd row j else f j
theorem enS_take {nd : List (List Int)} {rows : List Int} {k : Nat} (h : k < rows.length) (j : Nat) : enS nd (rows.take (k + 1)) j = enS nd (rows.take k) j + en1 nd (rows[k]?.getD 0) j := by
  unfold enS
  rw [List.take_succ_eq_append_getElem h, List.foldl_append, List.getElem?_eq_getElem h]
  rfl
theorem enP_zero (nd : List (List Int)) (row : Int) (f : Nat → Int) : enP nd row 0 f = f := by
  funext j; unfold enP; rw [if_neg (by omega)]
theorem enP_succ (nd : List (List Int)) (row : Int) (i : Nat) (f : Nat → Int) {v : Int} (h : v = en1 nd row i) : (fun k => if k = i then enP nd row i f i + v else enP nd row i f k) = enP nd row (i + 1) f := by
  funext j
  unfold enP
  by_cases e : j = i
  · subst e; rw [if_pos rfl, if_neg (by omega), if_pos (by omega), h]
  · rw [if_neg e]
    by_cases e2 : j < i
    · rw [if_pos e2, if_pos (by omega)]
    · rw [if_neg e2, if_neg (by omega)]
theorem enP_at (nd : List (List Int)) (row : Int) (i : Nat) (f : Nat → Int) : enP nd row i f i = f i := by unfold enP; rw [if_neg (by omega)]
theorem en1_bd {gr hold : Int} {nd : List (List Int)} (h : CluOk gr hold nd) {j : Nat} (hj : j < nd.length) (r : Int) : 0 ≤ en1 nd r j ∧ en1 nd r j ≤ 10000 := by
  have h1 := h.awk j hj
  have h2 := h.asl j hj
  unfold en1
  split <;> omega
theorem enS_bd {gr hold : Int} {nd : List (List Int)} (h : CluOk gr hold nd) {j : Nat} (hj : j < nd.length) : ∀ (rows : List Int), 0 ≤ enS nd rows j ∧ enS nd rows j ≤ rows.length * 10000 := by
  intro rows
  have gen : ∀ (rows : List Int) (a : Int), a ≤ rows.foldl (fun a r => a + en1 nd r j) a ∧ rows.foldl (fun a r => a + en1 nd r j) a ≤ a + rows.length * 10000 := by
    intro rows
    induction rows with
    | nil => intro a; simp
    | cons r rows ih =>
      intro a
      have h1 := ih (a + en1 nd r j)
      have h2 := en1_bd h hj r
      simp only [List.foldl_cons, List.length_cons]
      omega
  have := gen rows 0
  unfold enS
  omega
theorem SOk.start {gr hold : Int} {nd : List (List Int)} (h : CluOk gr hold nd) : SOk nd.length (startS nd) := by
  refine ⟨fun i hi => ?_, fun i hi => ?_, fun i hi j h1 h2 => ?_⟩
  · have := h.bud i hi
    show 0 ≤ cv nd i 3 ∧ cv nd i 3 ≤ 1000
    omega
  · exact h.ref i hi
  · unfold startS
    have hb := h.bud i hi
    split
    · omega
    · split <;> omega
def playR (gr hold : Int) (nd : List (List Int)) (t : Int) (l : List (List Int)) : PR := runFrom hold gr.toNat nd.length l (startS nd) t.toNat
def playRows (gr hold : Int) (nd : List (List Int)) (t : Int) (l : List (List Int)) : List Int := if playE gr hold nd t l = 0 then (playR gr hold nd t l).rows else []
def playAsk (gr hold : Int) (nd : List (List Int)) (t : Int) (l : List (List Int)) : List Int := if playE gr hold nd t l = 0 then (playR gr hold nd t l).asked else []
def playEn (gr hold : Int) (nd : List (List Int)) (t : Int) (l : List (List Int)) : List Int := if playE gr hold nd t l = 0 then (List.range nd.length).map (enS nd (playR gr hold nd t l).rows) else []
end
section
open Go.ChangeShapes Go.WideShapes Go.RowKit Go.Deep Go.Joins

/-- nothing in the datum passes the reach -/
def Wt {H : Type} (t : TypeId) (d : DataW H) : Prop := ∀ x ∈ d.weights Try.prog t, x ≤ reachBytes

theorem Wt.each {H : Type} {ts : List TypeId} {ds : List (DataW H)} (h : (DataW.weightsEach Try.prog ts ds).all (· ≤ reachBytes) = true) {j : Nat} {t : TypeId} {d : DataW H} (ht : ts[j]? = some t) (hd : ds[j]? = some d) : Wt t d := fun x hx => by
  have := List.all_eq_true.1 h _ (DataW.weights_mem_each ht hd x hx)
  simpa using this
theorem Wt.field {H : Type} {t : TypeId} {fs : Array Field} {parts : List (DataW H)} (hs : Try.prog.underlying t = some (.struct fs)) (h : Wt t (.agg parts)) {j : Nat} {ft : TypeId} {d : DataW H} (ht : (fs.toList.map (·.type))[j]? = some ft) (hd : parts[j]? = some d) : Wt ft d := fun x hx =>
  h x (by simp only [DataW.weights, hs]; exact DataW.weights_mem_each ht hd x hx)
theorem Wt.len {H : Type} {t e : TypeId} {elems spare : List (DataW H)} (hs : Try.prog.underlying t = some (.slice e)) (h : Wt t (.slice elems spare)) : (elems.length + spare.length) * Try.prog.bytesOf e ≤ reachBytes :=
  h _ (by simp only [DataW.weights, hs, List.mem_cons, true_or])

section
variable {H : Type} {enc : TypeId × Value → H} {w : World} {base : Nat} {spare : Nat → Bool} {held : Bool}

theorem cell_blk {w : World} {p : Addr} {v : Value} (h : w.cell? p = some v) : p.block < w.heap.size := by
  unfold World.cell? at h
  cases hb : w.heap[p.block]? with
  | none => rw [hb] at h; simp at h
  | some o => exact (Array.getElem?_eq_some_iff.1 hb).1

theorem Try.cells3 : Try.prog.cellsOf 3 = 1 := by kernel_rfl
theorem Try.cells31 : Try.prog.cellsOf 31 = 5 := by kernel_rfl
theorem Try.cells33 : Try.prog.cellsOf 33 = 4 := by kernel_rfl
theorem Try.bytes31 : Try.prog.bytesOf 31 = 40 := by kernel_rfl
theorem Try.bytes33 : Try.prog.bytesOf 33 = 32 := by kernel_rfl
/-- choose a list -/
theorem list_of {α : Type} {P : Nat → α → Prop} (d : α) : ∀ n, (∀ j, j < n → ∃ x, P j x) → ∃ L : List α, L.length = n ∧ ∀ j, j < n → P j (L[j]?.getD d) := by
  intro n
  induction n with
  | zero => intro _; exact ⟨[], rfl, fun j hj => by omega⟩
  | succ n ih =>
    intro h
    obtain ⟨L, hl, hL⟩ := ih (fun j hj => h j (by omega))
    obtain ⟨x, hx⟩ := h n (by omega)
    refine ⟨L ++ [x], by simp [hl], fun j hj => ?_⟩
    by_cases e : j = n
    · subst e; rw [← hl]; simpa [hl] using hx
    · rw [List.getElem?_append_left (by omega)]; exact hL j (by omega)

theorem four {α : Type} {l : List α} (h : l.length = 4) : ∃ a b c d, l = [a, b, c, d] := by
  match l, h with
  | [a, b, c, d], _ => exact ⟨a, b, c, d, rfl⟩

theorem five {α : Type} {l : List α} (h : l.length = 5) : ∃ a b c d e, l = [a, b, c, d, e] := by
  match l, h with
  | [a, b, c, d, e], _ => exact ⟨a, b, c, d, e, rfl⟩
/-- a slice of structures of 5 numbers -/
theorem open_s22 {fuel : Nat} {v : Value} {x : DataW H × List MemPlace} (h : DataW.trod enc Try.prog w base spare held fuel 22 [v] = some x) (hw : Wt 22 x.1) : ∃ a n c L, v = .slice a n c ∧ StAt w 5 a n L := by
  rcases open_slice Try.underlying22 h with ⟨hcs, _⟩ | ⟨a, len, cap, m, n, D, Pl, hcs, hb, hl, hm, hmm, hx, hi⟩
  · simp at hcs
    exact ⟨none, 0, 0, [], hcs, rfl, by omega, fun j hj => by omega⟩
  · simp at hcs
    subst hcs
    have hlm : len ≤ m := by rw [hmm]; split <;> omega
    have hw1 := hw
    rw [hx] at hw1
    have hlen := hw1.len Try.underlying22
    rw [Try.bytes31] at hlen
    simp only [List.length_map, List.length_range, reachBytes] at hlen
    obtain ⟨C, hC1, hC2⟩ := list_of (P := fun j (c : List Int) => c.length = 5 ∧ ∀ r, r < 5 → w.cell? ((a.add (j * 5)).add r) = some (.int .i64 (c[r]?.getD 0))) [] len (fun j hj => by
      obtain ⟨cs', hc, ht'⟩ := hi j (by omega)
      rw [Try.cells31] at hc
      obtain ⟨_, hcl, hat⟩ := World.cells?_some hc
      obtain ⟨ys, n', hn', hy, hlen', hyl, hf⟩ := DataW.trod_struct Try.underlying31 ht'
      have hyl4 : ys.length = 5 := by simpa using hyl
      obtain ⟨c0, c1, c2, c3, c4, rfl⟩ := five hcl
      obtain ⟨y0, y1, y2, y3, y4, rfl⟩ := five hyl4
      have f0 := hf 0 _ rfl
      have f1 := hf 1 _ rfl
      have f2 := hf 2 _ rfl
      have f3 := hf 3 _ rfl
      have f4 := hf 4 _ rfl
      simp [Try.cells3] at f0 f1 f2 f3 f4
      obtain ⟨i0, e0, _⟩ := DataW.trod_int Try.underlying3 f0
      obtain ⟨i1, e1, _⟩ := DataW.trod_int Try.underlying3 f1
      obtain ⟨i2, e2, _⟩ := DataW.trod_int Try.underlying3 f2
      obtain ⟨i3, e3, _⟩ := DataW.trod_int Try.underlying3 f3
      obtain ⟨i4, e4, _⟩ := DataW.trod_int Try.underlying3 f4
      simp at e0 e1 e2 e3 e4
      subst e0 e1 e2 e3 e4
      exact ⟨[i0, i1, i2, i3, i4], rfl, fun r hr => by
        match r, hr with
        | 0, _ => exact hat 0 (by omega)
        | 1, _ => exact hat 1 (by omega)
        | 2, _ => exact hat 2 (by omega)
        | 3, _ => exact hat 3 (by omega)
        | 4, _ => exact hat 4 (by omega)⟩)
    refine ⟨some a, len, cap, C, rfl, hC1, by omega, fun j hj => ?_⟩
    obtain ⟨h0, h1⟩ := hC2 j hj
    exact ⟨a, rfl, by have := cell_blk (h1 0 (by decide)); rwa [add_block, add_block] at this, h0, h1⟩

/-- a slice of structures of 4 numbers -/
theorem open_s25 {fuel : Nat} {v : Value} {x : DataW H × List MemPlace} (h : DataW.trod enc Try.prog w base spare held fuel 25 [v] = some x) (hw : Wt 25 x.1) : ∃ a n c L, v = .slice a n c ∧ StAt w 4 a n L := by
  rcases open_slice Try.underlying25 h with ⟨hcs, _⟩ | ⟨a, len, cap, m, n, D, Pl, hcs, hb, hl, hm, hmm, hx, hi⟩
  · simp at hcs
    exact ⟨none, 0, 0, [], hcs, rfl, by omega, fun j hj => by omega⟩
  · simp at hcs
    subst hcs
    have hlm : len ≤ m := by rw [hmm]; split <;> omega
    have hw1 := hw
    rw [hx] at hw1
    have hlen := hw1.len Try.underlying25
    rw [Try.bytes33] at hlen
    simp only [List.length_map, List.length_range, reachBytes] at hlen
    obtain ⟨C, hC1, hC2⟩ := list_of (P := fun j (c : List Int) => c.length = 4 ∧ ∀ r, r < 4 → w.cell? ((a.add (j * 4)).add r) = some (.int .i64 (c[r]?.getD 0))) [] len (fun j hj => by
      obtain ⟨cs', hc, ht'⟩ := hi j (by omega)
      rw [Try.cells33] at hc
      obtain ⟨_, hcl, hat⟩ := World.cells?_some hc
      obtain ⟨ys, n', hn', hy, hlen', hyl, hf⟩ := DataW.trod_struct Try.underlying33 ht'
      have hyl4 : ys.length = 4 := by simpa using hyl
      obtain ⟨c0, c1, c2, c3, rfl⟩ := four hcl
      obtain ⟨y0, y1, y2, y3, rfl⟩ := four hyl4
      have f0 := hf 0 _ rfl
      have f1 := hf 1 _ rfl
      have f2 := hf 2 _ rfl
      have f3 := hf 3 _ rfl
      simp [Try.cells3] at f0 f1 f2 f3
      obtain ⟨i0, e0, _⟩ := DataW.trod_int Try.underlying3 f0
      obtain ⟨i1, e1, _⟩ := DataW.trod_int Try.underlying3 f1
      obtain ⟨i2, e2, _⟩ := DataW.trod_int Try.underlying3 f2
      obtain ⟨i3, e3, _⟩ := DataW.trod_int Try.underlying3 f3
      simp at e0 e1 e2 e3
      subst e0 e1 e2 e3
      exact ⟨[i0, i1, i2, i3], rfl, fun r hr => by
        match r, hr with
        | 0, _ => exact hat 0 (by omega)
        | 1, _ => exact hat 1 (by omega)
        | 2, _ => exact hat 2 (by omega)
        | 3, _ => exact hat 3 (by omega)⟩)
    refine ⟨some a, len, cap, C, rfl, hC1, by omega, fun j hj => ?_⟩
    obtain ⟨h0, h1⟩ := hC2 j hj
    exact ⟨a, rfl, by have := cell_blk (h1 0 (by decide)); rwa [add_block, add_block] at this, h0, h1⟩

set_option maxRecDepth 100000 in
/-- a cluster -/
theorem open_clu {r : Reach} {b0 : Nat} {v : Value} {d : DataW H} {p : List MemPlace} (hv : Value.okWide Try.prog w r b0 24 v) (h : DataW.Trod enc Try.prog w base spare held 24 v d p) (hw : Wt 24 d) :
    ∃ gr hold na n nc nd, v = .agg #[.int .i64 gr, .int .i64 hold, .slice na n nc] ∧ StAt w 5 na n nd := by
  obtain ⟨v0, v1, v2, y0, y1, y2, n, rfl, rfl, _, h0, h1, h2⟩ := open_agg3 Try.underlying24 (by kernel_rfl) (by kernel_rfl) hv h
  obtain ⟨i0, e0, _⟩ := DataW.trod_int Try.underlying3 h0
  obtain ⟨i1, e1, _⟩ := DataW.trod_int Try.underlying3 h1
  simp at e0 e1
  subst e0 e1
  obtain ⟨na, n, nc, nd, rfl, hnd⟩ := open_s22 h2 (hw.field Try.underlying24 (j := 2) (ft := 22) (by simp) (by simp))
  exact ⟨i0, i1, na, n, nc, nd, rfl, hnd⟩
theorem okWide_sl {P : Program} {t e : TypeId} {r : Reach} {b0 : Nat} {v : Value} (ht : P.underlying t = some (.slice e)) (h : Value.okWide P w r b0 t v) : v.cells.toList = [v] := by
  simp only [Value.okWide, ht, Cell.okWide] at h
  cases v <;> simp_all [Cell.ok, Value.cells]
set_option maxRecDepth 100000 in
/-- nudges -/
theorem open_nus {r : Reach} {b0 : Nat} {v : Value} {d : DataW H} {p : List MemPlace} (hv : Value.okWide Try.prog w r b0 25 v) (h : DataW.Trod enc Try.prog w base spare held 25 v d p) (hw : Wt 25 d) :
    ∃ la m lc l, v = .slice la m lc ∧ StAt w 4 la m l := by
  obtain ⟨fuel, hf⟩ := h
  have hvs := okWide_sl Try.underlying25 hv
  rw [hvs] at hf
  exact open_s25 (x := (d, p)) hf hw
end
end
end Go.Proofs.Ytoalamakhjbedaa
