/- Several texts of this claim in one file. (1) Copies of rows into new memory. Nothing of the program is proved here. (2) Arguments that came in: a problem, numbers, read off their data. (3) Contracts: hosted and begun. (4) How much longer all tasks may take. Nothing of the program is proved here. (5) Putting in and what is full, without addresses; what lies where behind it. Nothing of the program is proved here. -/
import Derived.Test.YtodedneanlekdaaBd10
import Derived.Deep.Upon
import Derived.Laws.StructEq
import Derived.DataElems
import Derived.Test.YtodedneanlekdaaChecked
import Derived.Deep.Slices
import Derived.Deep.Fields
import Derived.ChangeSame
import Derived.Lib.SmallJoins
import Derived.SizedLaws
import Derived.ProofKit
import Derived.Test.YtodedneanlekdaaBd8
namespace Go.Proofs.Ytodedneanlekdaa
set_option linter.unusedSimpArgs false
set_option linter.unusedVariables false
section
set_option linter.unusedVariables false
open Go.RowKit
/-- 'append' to an empty row of the call's own without room, of any row -/
theorem run_copyN {P : Program} {W : World} {ts ty e : TypeId} {k bytes B m c : Nat} {z : Value} {a0 sa : Option Addr} {news : List Value}
    (hu : P.underlying ts = some (.slice e)) (hinfo : (P.info? e).map (fun i => (i.zero, i.size, i.bytes)) = some (some z, k, bytes)) (hz : z.cells.size = k) (hk : 0 < k)
    (hO : OwnR W B e k (.slice a0 0 0) 0 []) (hsn : sa = none → m = 0) (hl : news.length = m * k) (hsrc : ∀ ad, sa = some ad → ∀ j u, news[j]? = some u → W.cell? (ad.add j) = some u) (h1 : (news.all fun u => u.oneCell') = true)
    (hmax : m ≤ 1000000) (hbt : bytes ≤ 1000) (hB : B ≤ W.heap.size) :
    ∃ a' c' W', (Builtin.append_ #[ts, ts] ty #[.slice a0 0 0, .slice sa m c]).run P W = .ok (.slice a' m c') W' ∧ OwnR W' B e k (.slice a' m c') m news ∧ Gr W W' := by
  obtain ⟨i0, hi, hz0, hsz, hby⟩ := info_parts hinfo
  by_cases h0 : m = 0
  · subst h0
    have hn0 : news = [] := List.eq_nil_of_length_eq_zero (by omega)
    subst hn0
    have hs : Src P i0.size ts (.slice sa 0 c) 0 [] W := by
      refine ⟨.inl ⟨e, hu⟩, fun w' => ?_, ?_, ?_, by simp, fun u hu => by simp at hu⟩
      · simp [Builtin.lenOf]
      · cases sa <;> simp [Builtin.firstCells, loadCells, loadCellsFrom]
      · cases sa <;> simp [Builtin.firstCells, loadCells, loadCellsFrom]
    exact ⟨a0, 0, W, run_append_nothing W ts ts ty e i0 hu hi a0 0 0 (Nat.le_refl _) _ hs, hO, Gr.refl _⟩
  · cases sa with
    | none => exact absurd (hsn rfl) h0
    | some ad =>
      have hb : m * bytes ≤ 140737488355328 := by
        have := Nat.mul_le_mul hmax hbt
        omega
      have hs := Src.ofSlice W (size := i0.size) hu ad m c news (by rw [hsz]; exact hl) (hsrc ad rfl) (fun u hu => List.all_eq_true.1 h1 u hu)
      have hold : (Builtin.firstCells i0.size 0 (.slice a0 0 0)).run P W.drew = .ok ([] : List Value).toArray W.drew := by
        cases a0 <;> simp [Builtin.firstCells, loadCells, loadCellsFrom]
      have hr := run_append_grow_src W ts ts ty e i0 z hu hi hz0 a0 0 0 [] hold (.slice (some ad) m c) m news hs (by omega) (by omega) (by rw [hby]; exact growslice_fits (by omega) (by simpa using hb))
      have hge := grownCap_ge W (0 + m) 0 e
      have hle := grownCap_le_maxLen W (0 + m) 0 e (by unfold maxLen; omega)
      rw [Nat.zero_add] at hr hge hle
      refine ⟨_, _, _, hr, ⟨hl, .inr ⟨W.heap.size, _, _, rfl, hB, heap_alloc_new W.drew _, hge, hle, ?_, ?_⟩⟩, (Gr.drew W).trans (Gr.alloc _ _)⟩
      · simp [size_zeroCells, hz, hl]
        rw [← Nat.add_mul]
        congr 1
        omega
      · simp [hl]
/-- the cells of a row of structures, one behind the other -/
def tbL (V : Nat → Nat → Value) (n k : Nat) : List Value := (List.range (n * k)).map fun j => V (j / k) (j % k)
theorem tbL_len {V : Nat → Nat → Value} {n k : Nat} : (tbL V n k).length = n * k := by simp [tbL]
theorem tbL_get {V : Nat → Nat → Value} {n k j : Nat} {u : Value} (h : (tbL V n k)[j]? = some u) : j < n * k ∧ u = V (j / k) (j % k) := by
  have hj : j < n * k := by have := (List.getElem?_eq_some_iff.1 h).1; rwa [tbL_len] at this
  simp [tbL, hj] at h
  exact ⟨hj, h.symm⟩
theorem tbL_at {V : Nat → Nat → Value} {n k q r : Nat} (hq : q < n) (hr : r < k) : (tbL V n k)[q * k + r]? = some (V q r) := by
  have hlt : q * k + r < n * k := by
    have := Nat.mul_le_mul_right k (show q + 1 ≤ n from hq)
    rw [Nat.add_mul] at this; omega
  have hk : 0 < k := by omega
  simp [tbL, hlt]
  have e1 : (k * q + r) / k = q := by rw [Nat.mul_add_div hk, Nat.div_eq_of_lt hr]; rfl
  have e2 : (k * q + r) % k = r := by rw [Nat.mul_add_mod, Nat.mod_eq_of_lt hr]
  rw [Nat.mul_comm q k, e1]
  first | rw [e2] | rw [Nat.mod_eq_of_lt hr]
theorem TbAt.src {W : World} {k : Nat} {sa : Option Addr} {n c : Nat} {V : Nat → Nat → Value} (h : TbAt W k sa n c V) (hk : 0 < k) : ∀ ad, sa = some ad → ∀ j u, (tbL V n k)[j]? = some u → W.cell? (ad.add j) = some u := by
  intro ad e j u hu
  obtain ⟨hj, rfl⟩ := tbL_get hu
  have hq : j / k < n := (Nat.div_lt_iff_lt_mul hk).2 hj
  obtain ⟨ad', e', _, hc⟩ := h.at hq
  rw [e] at e'
  injection e' with e'
  subst e'
  have := hc (j % k) (Nat.mod_lt _ hk)
  rw [Addr.add_add, show j / k * k + j % k = j by rw [Nat.mul_comm]; exact Nat.div_add_mod j k] at this
  exact this
theorem TbAt.none0 {W : World} {k : Nat} {sa : Option Addr} {n c : Nat} {V : Nat → Nat → Value} (h : TbAt W k sa n c V) : sa = none → n = 0 := fun e => by
  refine Classical.byContradiction fun h0 => ?_
  obtain ⟨ad, e2, _⟩ := h.at (j := 0) (by omega)
  rw [e] at e2; cases e2
/-- a row of the call's own, as a table -/
theorem OwnR.tb {W : World} {B e k n c : Nat} {a : Option Addr} {V : Nat → Nat → Value} (h : OwnR W B e k (.slice a n c) n (tbL V n k)) (hn : n * k * 8 ≤ 140737488351232) : TbAt W k a n c V := by
  rcases h.2 with ⟨h2, h3⟩ | ⟨g, cap, cur, h1, h2, h3, h4, h5, h6, h7⟩
  · injection h2 with h2 _ hc
    subst h3
    exact ⟨Nat.zero_le _, by simp, fun j hj => by omega⟩
  · injection h1 with h1 _ hc
    subst h1 hc
    refine ⟨h4, hn, fun j hj => ⟨_, rfl, (Array.getElem?_eq_some_iff.1 h3).1, fun r hr => ?_⟩⟩
    rw [addr_add0, show (⟨g, j * k, none⟩ : Addr).add r = ⟨g, j * k + r, none⟩ from Y.addr_add _ _ _]
    have hlt : j * k + r < n * k := by
      have := Nat.mul_le_mul_right k (show j + 1 ≤ n from hj)
      rw [Nat.add_mul] at this; omega
    have e8 : (cur.toList.take (n * k))[j * k + r]? = some (V j r) := by rw [h7]; exact tbL_at hj hr
    rw [List.getElem?_take_of_lt hlt] at e8
    exact cell_at h3 (by simpa using e8)
theorem tv_one (p : Pb) (n : Nat) : ((tbL (tvV p) n 4).all fun u => u.oneCell') = true := by
  rw [List.all_eq_true]; intro u hu; obtain ⟨j, _, rfl⟩ := List.mem_map.1 hu
  cases j % 4 <;> rfl
theorem hv_one (p : Pb) (n : Nat) : ((tbL (hvV p) n 6).all fun u => u.oneCell') = true := by
  rw [List.all_eq_true]; intro u hu; obtain ⟨j, _, rfl⟩ := List.mem_map.1 hu
  cases j % 6 <;> rfl
theorem bv_one (p : Pb) (n : Nat) : ((tbL (bvV p) n 3).all fun u => u.oneCell') = true := by
  rw [List.all_eq_true]; intro u hu; obtain ⟨j, _, rfl⟩ := List.mem_map.1 hu
  rfl
theorem lv_one (p : Pb) (n : Nat) : ((tbL (lvV p) n 3).all fun u => u.oneCell') = true := by
  rw [List.all_eq_true]; intro u hu; obtain ⟨j, _, rfl⟩ := List.mem_map.1 hu
  rfl
/-- a row of the call's own, as a property of a value -/
def Y.MP.row (B e k n : Nat) (xs : List Value) : Y.MP := ⟨fun v W => ∃ a c, v = .slice a n c ∧ OwnR W B e k (.slice a n c) n xs, fun _ _ _ ⟨a, c, h1, h2⟩ g => ⟨a, c, h1, h2.gr g⟩⟩
def Y.MP.row0 (B e k : Nat) : Y.MP := ⟨fun v W => ∃ a, v = .slice a 0 0 ∧ OwnR W B e k (.slice a 0 0) 0 [], fun _ _ _ ⟨a, h1, h2⟩ g => ⟨a, h1, h2.gr g⟩⟩
def Y.MP.pbv (B : Nat) (p : Pb) : Y.MP := ⟨fun v W => ∃ t0 c0 t1 c1 t2 c2 t3 c3, v = .agg #[.slice t0 p.nt c0, .slice t1 p.nh c1, .slice t2 p.nb c2, .slice t3 p.nl c3] ∧ OwnR W B 74 4 (.slice t0 p.nt c0) p.nt (tbL (tvV p) p.nt 4) ∧ OwnR W B 53 6 (.slice t1 p.nh c1) p.nh (tbL (hvV p) p.nh 6) ∧ OwnR W B 65 3 (.slice t2 p.nb c2) p.nb (tbL (bvV p) p.nb 3) ∧ OwnR W B 84 3 (.slice t3 p.nl c3) p.nl (tbL (lvV p) p.nl 3),
  fun _ _ _ ⟨t0, c0, t1, c1, t2, c2, t3, c3, h1, h2, h3, h4, h5⟩ g => ⟨t0, c0, t1, c1, t2, c2, t3, c3, h1, h2.gr g, h3.gr g, h4.gr g, h5.gr g⟩⟩
theorem ownR_new {W : World} {B b k e : Nat} (h : W.heap[b]? = some (.cells #[] e)) (hB : B ≤ b) : OwnR W B e k (.slice (some ⟨b, 0, none⟩) 0 0) 0 [] :=
  ⟨by simp, .inr ⟨b, 0, #[], rfl, hB, h, Nat.le_refl _, by unfold maxLen; omega, by simp, by simp⟩⟩
theorem ints_tb {W : World} {a : Option Addr} {n : Nat} {xs : List Int} (h : Ints W a n xs) : (∀ ad, a = some ad → ∀ j u, (xs.map (Value.int .i64))[j]? = some u → W.cell? (ad.add j) = some u) ∧ (a = none → n = 0) :=
  ⟨fun ad e => by subst e; exact h.cells, fun e => by
    subst e
    refine Classical.byContradiction fun h0 => ?_
    obtain ⟨ad, e2, _⟩ := h.at (j := 0) (by omega)
    cases e2⟩
theorem Try.bs22_0 (w : World) : (Instr.buildSlice 22 0 #[]).run Try.prog w = .ok (.slice (some ⟨w.heap.size, 0, none⟩) 0 0) (w.alloc (.cells #[] 74)) := by kernel_rfl
theorem Try.bs23_0 (w : World) : (Instr.buildSlice 23 0 #[]).run Try.prog w = .ok (.slice (some ⟨w.heap.size, 0, none⟩) 0 0) (w.alloc (.cells #[] 53)) := by kernel_rfl
theorem Try.bs24_0 (w : World) : (Instr.buildSlice 24 0 #[]).run Try.prog w = .ok (.slice (some ⟨w.heap.size, 0, none⟩) 0 0) (w.alloc (.cells #[] 65)) := by kernel_rfl
theorem Try.bs25_0 (w : World) : (Instr.buildSlice 25 0 #[]).run Try.prog w = .ok (.slice (some ⟨w.heap.size, 0, none⟩) 0 0) (w.alloc (.cells #[] 84)) := by kernel_rfl
theorem Try.bd27f (a b c d : Option Addr) (n1 c1 n2 c2 n3 c3 n4 c4 : Nat) (w : World) : (Instr.build 27 #[(0, .slice a n1 c1), (1, .slice b n2 c2), (2, .slice c n3 c3), (3, .slice d n4 c4)]).run Try.prog w = .ok (.agg #[.slice a n1 c1, .slice b n2 c2, .slice c n3 c3, .slice d n4 c4]) w := by kernel_rfl
theorem X.bs0 {ρ : Operand → Value} : (([] : List (Nat × Operand)).map fun p => (p.1, ρ p.2)) = [] := rfl
/-- far from what a statement looks at -/
def farB (p : Pb) : Bool := !(decide (p.nt ≤ 20) && decide (p.nh ≤ 20) && decide (p.nb ≤ 40) && decide (p.nl ≤ 40) && allN (fun i => decide ((p.tn i).size ≤ 100)) p.nt && allN (fun i => decide ((p.hn i).size ≤ 100)) p.nh)
section
variable {p : Pb}
theorem far_n (h : ¬ (p.nt ≤ 20 ∧ p.nh ≤ 20 ∧ p.nb ≤ 40 ∧ p.nl ≤ 40)) : farB p = true := by
  cases e : farB p with
  | true => rfl
  | false => simp [farB] at e; exact absurd ⟨e.1.1.1.1.1, e.1.1.1.1.2, e.1.1.1.2, e.1.1.2⟩ h
theorem far_t {i : Nat} (hi : i < p.nt) (h : 100 < (p.tn i).size) : farB p = true := by
  unfold farB; rw [allN_false (f := fun i => decide ((p.tn i).size ≤ 100)) hi (decide_eq_false (by omega))]; simp
theorem far_h {i : Nat} (hi : i < p.nh) (h : 100 < (p.hn i).size) : farB p = true := by
  unfold farB; rw [allN_false (f := fun i => decide ((p.hn i).size ≤ 100)) hi (decide_eq_false (by omega))]; simp
theorem far_no (h : p.nt ≤ 20 ∧ p.nh ≤ 20 ∧ p.nb ≤ 40 ∧ p.nl ≤ 40) (h1 : allN (fun i => decide ((p.tn i).size ≤ 100)) p.nt = true) (h2 : allN (fun i => decide ((p.hn i).size ≤ 100)) p.nh = true) : farB p = false := by
  unfold farB; rw [h1, h2]; simp [h]
theorem far_sz (h : farB p = false) : p.nt ≤ 20 ∧ p.nh ≤ 20 ∧ p.nb ≤ 40 ∧ p.nl ≤ 40 := by
  simp [farB] at h; exact ⟨h.1.1.1.1.1, h.1.1.1.1.2, h.1.1.1.2, h.1.1.2⟩
end
end
section
open Go.ChangeShapes Go.WideShapes Go.RowKit Go.Deep Go.Joins

/-- nothing in the datum passes the reach -/
def Wt {H : Type} (t : TypeId) (d : DataW H) : Prop := ∀ x ∈ d.weights Try.prog t, x ≤ reachBytes

theorem Wt.each {H : Type} {ts : List TypeId} {ds : List (DataW H)} (h : (DataW.weightsEach Try.prog ts ds).all (· ≤ reachBytes) = true) {j : Nat} {t : TypeId} {d : DataW H} (ht : ts[j]? = some t) (hd : ds[j]? = some d) : Wt t d := fun x hx => by
  have := List.all_eq_true.1 h _ (DataW.weights_mem_each ht hd x hx)
  simpa using this
theorem Wt.field {H : Type} {t : TypeId} {fs : Array Field} {parts : List (DataW H)} (hs : Try.prog.underlying t = some (.struct fs)) (h : Wt t (.agg parts)) {j : Nat} {ft : TypeId} {d : DataW H} (ht : (fs.toList.map (·.type))[j]? = some ft) (hd : parts[j]? = some d) : Wt ft d := fun x hx =>
  h x (by simp only [DataW.weights, hs]; exact DataW.weights_mem_each ht hd x hx)
theorem Wt.len {H : Type} {t e : TypeId} {elems spare : List (DataW H)} (hs : Try.prog.underlying t = some (.slice e)) (h : Wt t (.slice elems spare)) : (elems.length + spare.length) * Try.prog.bytesOf e ≤ reachBytes :=
  h _ (by simp only [DataW.weights, hs, List.mem_cons, true_or])

section
variable {H : Type} {enc : TypeId × Value → H} {w : World} {base : Nat} {spare : Nat → Bool} {held : Bool}

theorem cell_blk {w : World} {p : Addr} {v : Value} (h : w.cell? p = some v) : p.block < w.heap.size := by
  unfold World.cell? at h
  cases hb : w.heap[p.block]? with
  | none => rw [hb] at h; simp at h
  | some o => exact (Array.getElem?_eq_some_iff.1 hb).1

theorem Try.cells3 : Try.prog.cellsOf 3 = 1 := by kernel_rfl
theorem Try.cells9 : Try.prog.cellsOf 9 = 1 := by kernel_rfl
theorem Try.cells74 : Try.prog.cellsOf 74 = 4 := by kernel_rfl
theorem Try.cells53 : Try.prog.cellsOf 53 = 6 := by kernel_rfl
theorem Try.cells65 : Try.prog.cellsOf 65 = 3 := by kernel_rfl
theorem Try.cells84 : Try.prog.cellsOf 84 = 3 := by kernel_rfl
theorem Try.bytes74 : Try.prog.bytesOf 74 = 40 := by kernel_rfl
theorem Try.bytes53 : Try.prog.bytesOf 53 = 56 := by kernel_rfl
theorem Try.bytes65 : Try.prog.bytesOf 65 = 24 := by kernel_rfl
theorem Try.bytes84 : Try.prog.bytesOf 84 = 24 := by kernel_rfl
theorem Try.bytes3 : Try.prog.bytesOf 3 = 8 := by kernel_rfl
theorem TbAt.nil0 (w : World) (k c : Nat) (a : Option Addr) (V : Nat → Nat → Value) : TbAt w k a 0 c V := ⟨Nat.zero_le _, by simp, fun j hj => by omega⟩
theorem TbAt.congr {w : World} {k n c : Nat} {a : Option Addr} {V V' : Nat → Nat → Value} (h : TbAt w k a n c V) (e : ∀ j r, V j r = V' j r) : TbAt w k a n c V' := by
  have : V = V' := funext fun j => funext fun r => e j r
  rw [← this]; exact h
/-- choose a list -/
theorem list_of {α : Type} {P : Nat → α → Prop} (d : α) : ∀ n, (∀ j, j < n → ∃ x, P j x) → ∃ L : List α, L.length = n ∧ ∀ j, j < n → P j (L[j]?.getD d) := by
  intro n
  induction n with
  | zero => intro _; exact ⟨[], rfl, fun j hj => by omega⟩
  | succ n ih =>
    intro h
    obtain ⟨L, hl, hL⟩ := ih (fun j hj => h j (by omega))
    obtain ⟨x, hx⟩ := h n (by omega)
    refine ⟨L ++ [x], by simp [hl], fun j hj => ?_⟩
    by_cases e : j = n
    · subst e; rw [← hl]; simpa [hl] using hx
    · rw [List.getElem?_append_left (by omega)]; exact hL j (by omega)

theorem len3 {α : Type} {l : List α} (h : l.length = 3) : ∃ a b c, l = [a, b, c] := by
  match l, h with
  | [a, b, c], _ => exact ⟨a, b, c, rfl⟩
theorem len4 {α : Type} {l : List α} (h : l.length = 4) : ∃ a b c d, l = [a, b, c, d] := by
  match l, h with
  | [a, b, c, d], _ => exact ⟨a, b, c, d, rfl⟩
theorem len6 {α : Type} {l : List α} (h : l.length = 6) : ∃ a b c d e f, l = [a, b, c, d, e, f] := by
  match l, h with
  | [a, b, c, d, e, f], _ => exact ⟨a, b, c, d, e, f, rfl⟩
theorem open_s22 {fuel : Nat} {v : Value} {x : DataW H × List MemPlace} (h : DataW.trod enc Try.prog w base spare held fuel 22 [v] = some x) (hw : Wt 22 x.1) : ∃ (a : Option Addr) (n c : Nat) (L : List (ByteArray × List Int)), v = .slice a n c ∧ TbAt w 4 a n c (fun j r => if r = 0 then .string (L[j]?.getD (ByteArray.empty, [])).1 else .int .i64 ((L[j]?.getD (ByteArray.empty, [])).2[r]?.getD 0)) ∧ ∀ j, j < n → (L[j]?.getD (ByteArray.empty, [])).1.size ≤ 9223372036854775807 := by
  rcases open_slice Try.underlying22 h with ⟨hcs, _⟩ | ⟨a, len, cap, m, n, D, Pl, hcs, hb, hl, hm, hmm, hx, hi⟩
  · simp at hcs
    exact ⟨none, 0, 0, [], hcs, TbAt.nil0 _ _ _ _ _, fun j hj => by omega⟩
  · simp at hcs
    subst hcs
    have hlm : len ≤ m := by rw [hmm]; split <;> omega
    have hw1 := hw
    rw [hx] at hw1
    have hlen := hw1.len Try.underlying22
    rw [Try.bytes74] at hlen
    simp only [List.length_map, List.length_range, reachBytes] at hlen
    obtain ⟨C, hC1, hC2⟩ := list_of (P := fun j (c : ByteArray × List Int) => (c.1.size ≤ 9223372036854775807 ∧ w.cell? ((a.add (j * 4)).add 0) = some (.string c.1)) ∧ ∀ r, 0 < r → r < 4 → w.cell? ((a.add (j * 4)).add r) = some (.int .i64 (c.2[r]?.getD 0))) (ByteArray.empty, []) len (fun j hj => by
      obtain ⟨cs', hc, ht'⟩ := hi j (by omega)
      rw [Try.cells74] at hc
      obtain ⟨_, hcl, hat⟩ := World.cells?_some hc
      obtain ⟨ys, n', hn', hy, hlen', hyl, hf⟩ := DataW.trod_struct Try.underlying74 ht'
      have hyln : ys.length = 4 := by simpa using hyl
      obtain ⟨c0, c1, c2, c3, rfl⟩ := len4 hcl
      obtain ⟨y0, y1, y2, y3, rfl⟩ := len4 hyln
      have f0 := hf 0 _ rfl
      have f1 := hf 1 _ rfl
      have f2 := hf 2 _ rfl
      have f3 := hf 3 _ rfl
      simp [Try.cells3, Try.cells9] at f0 f1 f2 f3
      obtain ⟨s0, e0, _, hs0⟩ := DataW.trod_string Try.underlying9 f0
      obtain ⟨i1, e1, _⟩ := DataW.trod_int Try.underlying3 f1
      obtain ⟨i2, e2, _⟩ := DataW.trod_int Try.underlying3 f2
      obtain ⟨i3, e3, _⟩ := DataW.trod_int Try.underlying3 f3
      simp at e0 e1 e2 e3
      subst e0 e1 e2 e3
      exact ⟨(s0, [0, i1, i2, i3]), ⟨by unfold maxLen at hs0; exact hs0, hat 0 (by omega)⟩, fun r h0 hr => by
        match r, h0, hr with
        | 1, _, _ => exact hat 1 (by omega)
        | 2, _, _ => exact hat 2 (by omega)
        | 3, _, _ => exact hat 3 (by omega)⟩)
    refine ⟨some a, len, cap, C, rfl, ⟨hl, by omega, fun j hj => ?_⟩, fun j hj => (hC2 j hj).1.1⟩
    obtain ⟨⟨_, h0⟩, h1⟩ := hC2 j hj
    refine ⟨a, rfl, by have := cell_blk h0; rwa [add_block, add_block] at this, fun r hr => ?_⟩
    by_cases e : r = 0
    · subst e; exact h0
    · show _ = some (ite _ _ _)
      rw [if_neg e]; exact h1 r (by omega) hr
theorem open_s23 {fuel : Nat} {v : Value} {x : DataW H × List MemPlace} (h : DataW.trod enc Try.prog w base spare held fuel 23 [v] = some x) (hw : Wt 23 x.1) : ∃ (a : Option Addr) (n c : Nat) (L : List (ByteArray × List Int)), v = .slice a n c ∧ TbAt w 6 a n c (fun j r => if r = 0 then .string (L[j]?.getD (ByteArray.empty, [])).1 else .int .i64 ((L[j]?.getD (ByteArray.empty, [])).2[r]?.getD 0)) ∧ ∀ j, j < n → (L[j]?.getD (ByteArray.empty, [])).1.size ≤ 9223372036854775807 := by
  rcases open_slice Try.underlying23 h with ⟨hcs, _⟩ | ⟨a, len, cap, m, n, D, Pl, hcs, hb, hl, hm, hmm, hx, hi⟩
  · simp at hcs
    exact ⟨none, 0, 0, [], hcs, TbAt.nil0 _ _ _ _ _, fun j hj => by omega⟩
  · simp at hcs
    subst hcs
    have hlm : len ≤ m := by rw [hmm]; split <;> omega
    have hw1 := hw
    rw [hx] at hw1
    have hlen := hw1.len Try.underlying23
    rw [Try.bytes53] at hlen
    simp only [List.length_map, List.length_range, reachBytes] at hlen
    obtain ⟨C, hC1, hC2⟩ := list_of (P := fun j (c : ByteArray × List Int) => (c.1.size ≤ 9223372036854775807 ∧ w.cell? ((a.add (j * 6)).add 0) = some (.string c.1)) ∧ ∀ r, 0 < r → r < 6 → w.cell? ((a.add (j * 6)).add r) = some (.int .i64 (c.2[r]?.getD 0))) (ByteArray.empty, []) len (fun j hj => by
      obtain ⟨cs', hc, ht'⟩ := hi j (by omega)
      rw [Try.cells53] at hc
      obtain ⟨_, hcl, hat⟩ := World.cells?_some hc
      obtain ⟨ys, n', hn', hy, hlen', hyl, hf⟩ := DataW.trod_struct Try.underlying53 ht'
      have hyln : ys.length = 6 := by simpa using hyl
      obtain ⟨c0, c1, c2, c3, c4, c5, rfl⟩ := len6 hcl
      obtain ⟨y0, y1, y2, y3, y4, y5, rfl⟩ := len6 hyln
      have f0 := hf 0 _ rfl
      have f1 := hf 1 _ rfl
      have f2 := hf 2 _ rfl
      have f3 := hf 3 _ rfl
      have f4 := hf 4 _ rfl
      have f5 := hf 5 _ rfl
      simp [Try.cells3, Try.cells9] at f0 f1 f2 f3 f4 f5
      obtain ⟨s0, e0, _, hs0⟩ := DataW.trod_string Try.underlying9 f0
      obtain ⟨i1, e1, _⟩ := DataW.trod_int Try.underlying3 f1
      obtain ⟨i2, e2, _⟩ := DataW.trod_int Try.underlying3 f2
      obtain ⟨i3, e3, _⟩ := DataW.trod_int Try.underlying3 f3
      obtain ⟨i4, e4, _⟩ := DataW.trod_int Try.underlying3 f4
      obtain ⟨i5, e5, _⟩ := DataW.trod_int Try.underlying3 f5
      simp at e0 e1 e2 e3 e4 e5
      subst e0 e1 e2 e3 e4 e5
      exact ⟨(s0, [0, i1, i2, i3, i4, i5]), ⟨by unfold maxLen at hs0; exact hs0, hat 0 (by omega)⟩, fun r h0 hr => by
        match r, h0, hr with
        | 1, _, _ => exact hat 1 (by omega)
        | 2, _, _ => exact hat 2 (by omega)
        | 3, _, _ => exact hat 3 (by omega)
        | 4, _, _ => exact hat 4 (by omega)
        | 5, _, _ => exact hat 5 (by omega)⟩)
    refine ⟨some a, len, cap, C, rfl, ⟨hl, by omega, fun j hj => ?_⟩, fun j hj => (hC2 j hj).1.1⟩
    obtain ⟨⟨_, h0⟩, h1⟩ := hC2 j hj
    refine ⟨a, rfl, by have := cell_blk h0; rwa [add_block, add_block] at this, fun r hr => ?_⟩
    by_cases e : r = 0
    · subst e; exact h0
    · show _ = some (ite _ _ _)
      rw [if_neg e]; exact h1 r (by omega) hr
theorem open_s24 {fuel : Nat} {v : Value} {x : DataW H × List MemPlace} (h : DataW.trod enc Try.prog w base spare held fuel 24 [v] = some x) (hw : Wt 24 x.1) : ∃ (a : Option Addr) (n c : Nat) (L : List (List Int)), v = .slice a n c ∧ TbAt w 3 a n c (fun j r => .int .i64 ((L[j]?.getD [])[r]?.getD 0)) := by
  rcases open_slice Try.underlying24 h with ⟨hcs, _⟩ | ⟨a, len, cap, m, n, D, Pl, hcs, hb, hl, hm, hmm, hx, hi⟩
  · simp at hcs
    exact ⟨none, 0, 0, [], hcs, TbAt.nil0 _ _ _ _ _⟩
  · simp at hcs
    subst hcs
    have hlm : len ≤ m := by rw [hmm]; split <;> omega
    have hw1 := hw
    rw [hx] at hw1
    have hlen := hw1.len Try.underlying24
    rw [Try.bytes65] at hlen
    simp only [List.length_map, List.length_range, reachBytes] at hlen
    obtain ⟨C, hC1, hC2⟩ := list_of (P := fun j (c : List Int) => ∀ r, r < 3 → w.cell? ((a.add (j * 3)).add r) = some (.int .i64 (c[r]?.getD 0))) [] len (fun j hj => by
      obtain ⟨cs', hc, ht'⟩ := hi j (by omega)
      rw [Try.cells65] at hc
      obtain ⟨_, hcl, hat⟩ := World.cells?_some hc
      obtain ⟨ys, n', hn', hy, hlen', hyl, hf⟩ := DataW.trod_struct Try.underlying65 ht'
      have hyln : ys.length = 3 := by simpa using hyl
      obtain ⟨c0, c1, c2, rfl⟩ := len3 hcl
      obtain ⟨y0, y1, y2, rfl⟩ := len3 hyln
      have f0 := hf 0 _ rfl
      have f1 := hf 1 _ rfl
      have f2 := hf 2 _ rfl
      simp [Try.cells3, Try.cells9] at f0 f1 f2
      obtain ⟨i0, e0, _⟩ := DataW.trod_int Try.underlying3 f0
      obtain ⟨i1, e1, _⟩ := DataW.trod_int Try.underlying3 f1
      obtain ⟨i2, e2, _⟩ := DataW.trod_int Try.underlying3 f2
      simp at e0 e1 e2
      subst e0 e1 e2
      exact ⟨[i0, i1, i2], fun r hr => by
        match r, hr with
        | 0, _ => exact hat 0 (by omega)
        | 1, _ => exact hat 1 (by omega)
        | 2, _ => exact hat 2 (by omega)⟩)
    refine ⟨some a, len, cap, C, rfl, hl, by omega, fun j hj => ?_⟩
    have h1 := hC2 j hj
    exact ⟨a, rfl, by have := cell_blk (h1 0 (by decide)); rwa [add_block, add_block] at this, h1⟩
theorem open_s25 {fuel : Nat} {v : Value} {x : DataW H × List MemPlace} (h : DataW.trod enc Try.prog w base spare held fuel 25 [v] = some x) (hw : Wt 25 x.1) : ∃ (a : Option Addr) (n c : Nat) (L : List (List Int)), v = .slice a n c ∧ TbAt w 3 a n c (fun j r => .int .i64 ((L[j]?.getD [])[r]?.getD 0)) := by
  rcases open_slice Try.underlying25 h with ⟨hcs, _⟩ | ⟨a, len, cap, m, n, D, Pl, hcs, hb, hl, hm, hmm, hx, hi⟩
  · simp at hcs
    exact ⟨none, 0, 0, [], hcs, TbAt.nil0 _ _ _ _ _⟩
  · simp at hcs
    subst hcs
    have hlm : len ≤ m := by rw [hmm]; split <;> omega
    have hw1 := hw
    rw [hx] at hw1
    have hlen := hw1.len Try.underlying25
    rw [Try.bytes84] at hlen
    simp only [List.length_map, List.length_range, reachBytes] at hlen
    obtain ⟨C, hC1, hC2⟩ := list_of (P := fun j (c : List Int) => ∀ r, r < 3 → w.cell? ((a.add (j * 3)).add r) = some (.int .i64 (c[r]?.getD 0))) [] len (fun j hj => by
      obtain ⟨cs', hc, ht'⟩ := hi j (by omega)
      rw [Try.cells84] at hc
      obtain ⟨_, hcl, hat⟩ := World.cells?_some hc
      obtain ⟨ys, n', hn', hy, hlen', hyl, hf⟩ := DataW.trod_struct Try.underlying84 ht'
      have hyln : ys.length = 3 := by simpa using hyl
      obtain ⟨c0, c1, c2, rfl⟩ := len3 hcl
      obtain ⟨y0, y1, y2, rfl⟩ := len3 hyln
      have f0 := hf 0 _ rfl
      have f1 := hf 1 _ rfl
      have f2 := hf 2 _ rfl
      simp [Try.cells3, Try.cells9] at f0 f1 f2
      obtain ⟨i0, e0, _⟩ := DataW.trod_int Try.underlying3 f0
      obtain ⟨i1, e1, _⟩ := DataW.trod_int Try.underlying3 f1
      obtain ⟨i2, e2, _⟩ := DataW.trod_int Try.underlying3 f2
      simp at e0 e1 e2
      subst e0 e1 e2
      exact ⟨[i0, i1, i2], fun r hr => by
        match r, hr with
        | 0, _ => exact hat 0 (by omega)
        | 1, _ => exact hat 1 (by omega)
        | 2, _ => exact hat 2 (by omega)⟩)
    refine ⟨some a, len, cap, C, rfl, hl, by omega, fun j hj => ?_⟩
    have h1 := hC2 j hj
    exact ⟨a, rfl, by have := cell_blk (h1 0 (by decide)); rwa [add_block, add_block] at this, h1⟩
/-- numbers -/
theorem open_s34 {fuel : Nat} {v : Value} {x : DataW H × List MemPlace} (h : DataW.trod enc Try.prog w base spare held fuel 34 [v] = some x) (hw : Wt 34 x.1) : ∃ a c xs, v = .slice a (List.length xs) c ∧ Ints w a (List.length xs) xs := by
  rcases open_slice Try.underlying34 h with ⟨hcs, _⟩ | ⟨a, len, cap, m, n, D, Pl, hcs, hb, hl, hm, hmm, hx, hi⟩
  · simp at hcs
    exact ⟨none, 0, [], hcs, rfl, by decide, fun j hj => by simp at hj⟩
  · simp at hcs
    subst hcs
    have hlm : len ≤ m := by rw [hmm]; split <;> omega
    have hw1 := hw
    rw [hx] at hw1
    have hlen := hw1.len Try.underlying34
    rw [Try.bytes3] at hlen
    simp only [List.length_map, List.length_range, reachBytes] at hlen
    obtain ⟨C, hC1, hC2⟩ := list_of (P := fun j (c : Int) => w.cell? (a.add j) = some (.int .i64 c)) 0 len (fun j hj => by
      obtain ⟨cs', hc, ht'⟩ := hi j (by omega)
      rw [Try.cells3] at hc
      obtain ⟨_, hcl, hat⟩ := World.cells?_some hc
      obtain ⟨i0, e0, _⟩ := DataW.trod_int Try.underlying3 ht'
      subst e0
      have := hat 0 (by omega)
      rw [Addr.add_add] at this
      simp at this
      exact ⟨i0, this⟩)
    subst hC1
    refine ⟨some a, cap, C, rfl, rfl, by omega, fun j hj => ⟨a, rfl, ?_, hC2 j hj⟩⟩
    have := cell_blk (hC2 j hj); rwa [add_block] at this
theorem okWide_sl {P : Program} {t e : TypeId} {r : Reach} {b0 : Nat} {v : Value} (ht : P.underlying t = some (.slice e)) (h : Value.okWide P w r b0 t v) : v.cells.toList = [v] := by
  simp only [Value.okWide, ht, Cell.okWide] at h
  cases v <;> simp_all [Cell.ok, Value.cells]
set_option maxRecDepth 100000 in
/-- numbers -/
theorem open_xs {r : Reach} {b0 : Nat} {v : Value} {d : DataW H} {p : List MemPlace} (hv : Value.okWide Try.prog w r b0 34 v) (h : DataW.Trod enc Try.prog w base spare held 34 v d p) (hw : Wt 34 d) :
    ∃ a c xs, v = .slice a (List.length xs) c ∧ Ints w a (List.length xs) xs := by
  obtain ⟨fuel, hf⟩ := h
  have hvs := okWide_sl Try.underlying34 hv
  rw [hvs] at hf
  exact open_s34 (x := (d, p)) hf hw
set_option maxRecDepth 100000 in
/-- a problem -/
theorem open_pb {r : Reach} {b0 : Nat} {v : Value} {d : DataW H} {p : List MemPlace} (hv : Value.okWide Try.prog w r b0 27 v) (h : DataW.Trod enc Try.prog w base spare held 27 v d p) (hw : Wt 27 d) :
    ∃ (p : Pb) (ta ha ba la : Option Addr) (tc hc bc lc : Nat), v = .agg #[.slice ta p.nt tc, .slice ha p.nh hc, .slice ba p.nb bc, .slice la p.nl lc] ∧ PbAt w p ta ha ba la tc hc bc lc := by
  obtain ⟨v0, v1, v2, v3, y0, y1, y2, y3, n, rfl, rfl, _, h0, h1, h2, h3⟩ := open_agg4 Try.underlying27 (by kernel_rfl) (by kernel_rfl) hv h
  obtain ⟨ta, nt, tc, T, rfl, hT, hs1⟩ := open_s22 h0 (hw.field Try.underlying27 (j := 0) (ft := 22) (by simp) (by simp))
  obtain ⟨ha, nh, hc, H, rfl, hH, hs2⟩ := open_s23 h1 (hw.field Try.underlying27 (j := 1) (ft := 23) (by simp) (by simp))
  obtain ⟨ba, nb, bc, B, rfl, hB⟩ := open_s24 h2 (hw.field Try.underlying27 (j := 2) (ft := 24) (by simp) (by simp))
  obtain ⟨la, nl, lc, L, rfl, hL⟩ := open_s25 h3 (hw.field Try.underlying27 (j := 3) (ft := 25) (by simp) (by simp))
  refine ⟨⟨nt, nh, nb, nl, fun j => (T[j]?.getD (ByteArray.empty, [])).1, fun j r => (T[j]?.getD (ByteArray.empty, [])).2[r]?.getD 0, fun j => (H[j]?.getD (ByteArray.empty, [])).1, fun j r => (H[j]?.getD (ByteArray.empty, [])).2[r]?.getD 0, fun j r => (B[j]?.getD [])[r]?.getD 0, fun j r => (L[j]?.getD [])[r]?.getD 0⟩, ta, ha, ba, la, tc, hc, bc, lc, rfl, ⟨hT.congr ?_, hH.congr ?_, hB, hL, hs1, hs2⟩⟩
  · intro j r; cases r <;> rfl
  · intro j r; cases r <;> rfl
end
end
section
open Go.RowKit

theorem within_isH (p : Pb) (x : Int) : withinB x 0 ((p.nh : Int) - 1) = isH p x := by
  unfold withinB isH
  congr 1
  rw [decide_eq_decide]; omega
/-- the error of a beginning, or of a plan -/
def wbE (wh : Bool) (p : Pb) (xs : List Int) : Int := if wh then whoE p xs else begE p xs
section
variable {p : Pb} {xs : List Int} {wh : Bool}
theorem wb_1 (h : ¬ chkE p = 0) : wbE wh p xs = chkE p := by
  have h1 : begE p xs = chkE p := by unfold begE; rw [if_pos h]
  unfold wbE whoE
  rw [h1, if_pos h]
  split <;> rfl
theorem beg_2 (h : chkE p = 0) (k : p.nt < xs.length ∨ hosB p xs = false) : begE p xs = 33 := by
  unfold begE; rw [if_neg (by rw [h]; decide), if_pos k]
theorem beg_3 (h : chkE p = 0) (k1 : ¬ p.nt < xs.length) (k2 : hosB p xs = true) : begE p xs = 0 := by
  unfold begE; rw [if_neg (by rw [h]; decide), if_neg (by rintro (e | e); exact k1 e; rw [k2] at e; cases e)]
theorem wb_2 (h : chkE p = 0) (k : p.nt < xs.length ∨ hosB p xs = false ∨ (wh = true ∧ xs.length < p.nt)) : wbE wh p xs = 33 := by
  by_cases e : p.nt < xs.length ∨ hosB p xs = false
  · have := beg_2 h e
    unfold wbE whoE
    rw [this]; cases wh <;> rfl
  · have k1 : ¬ p.nt < xs.length := fun x => e (.inl x)
    have k2 : hosB p xs = true := by cases x : hosB p xs with
      | true => rfl
      | false => exact absurd (.inr x) e
    rcases k with k | k | ⟨rfl, k⟩
    · exact absurd k k1
    · rw [k2] at k; cases k
    · unfold wbE whoE
      rw [beg_3 h k1 k2]
      simp [k]
theorem wb_3 (h : chkE p = 0) (k1 : ¬ p.nt < xs.length) (k2 : hosB p xs = true) (k3 : wh = false ∨ ¬ xs.length < p.nt) : wbE wh p xs = 0 := by
  unfold wbE whoE
  rw [beg_3 h k1 k2]
  rcases k3 with rfl | k3
  · rfl
  · simp [k3]
theorem who_1 (h : ¬ begE p xs = 0) : whoE p xs = begE p xs := by unfold whoE; rw [if_pos h]
theorem who_2 (h : begE p xs = 0) (k : xs.length < p.nt) : whoE p xs = 33 := by unfold whoE; rw [if_neg (by rw [h]; decide), if_pos k]
theorem who_3 (h : begE p xs = 0) (k : ¬ xs.length < p.nt) : whoE p xs = 0 := by unfold whoE; rw [if_neg (by rw [h]; decide), if_neg k]
end
section
variable {p : Pb} {xs : List Int}
end
set_option maxRecDepth 100000 in
set_option maxHeartbeats 400000 in
theorem hos1_any (p : Pb) (ta ha ba la : Option Addr) (tc hc bc lc : Nat) (bp : Nat) (x : Int) (w : World) (hP : PbAt w p ta ha ba la tc hc bc lc) (hq : RCells w [(⟨bp, 0, none⟩, .slice ta p.nt tc), (⟨bp, 1, none⟩, .slice ha p.nh hc), (⟨bp, 2, none⟩, .slice ba p.nb bc), (⟨bp, 3, none⟩, .slice la p.nl lc)]) :
  Calls Try.prog 110 #[Vi x, Vp bp] w fun e w' => e = .returned (.bool (!isH p x)) ∧ Gr w w' := by
 have G := Gr.refl w
 have hpt := hP.t
 have hph := hP.h
 have hpb := hP.b
 have hpl := hP.l
 have hplen := hP.len
 obtain ⟨hn1, hn2, hn3, hn4⟩ := hplen
 have hcp1 := hpt.cap
 have hcp2 := hph.cap
 have hcp3 := hpb.cap
 have hcp4 := hpl.cap
 have hC := hq
 refine Y.calls 11 Try.func110 rfl rfl ?_
 intro ac F0
 have F : Fr ac 11 [(0, Vi x), (1, Vp bp)] := F0.sub _
 clear F0
 refine Y.sg F [(0, Vi x), (1, Vp bp)] (Y.pv F (X.assign rfl (X.kc (.bool false) rfl)) fun ac F=>Y.fin F) ?_;clear F ac;intro ac F
 refine Y.sl ?_
 refine Y.pv F (X.move rfl (F.ev 0 (Vi x))) ?_;clear F ac;intro ac F
 refine Y.pv F (X.field rfl (F.ev 1 (Vp bp)) (X.fld Try.underlying27 rfl (Try.siz23 _) rfl rfl)) ?_;clear F ac;intro ac F
 refine Y.pv F (X.load rfl (F.ev 5 (.pointer (some ⟨bp, 1, none⟩))) (X.ld1 (Try.agg23 _) (hC.at 1 rfl))) ?_;clear F ac;intro ac F
 refine Y.pv F (X.len1 Try.underlying23 rfl (F.ev 6 (.slice ha p.nh hc))) ?_;clear F ac;intro ac F
 refine Y.pv F (X.binop rfl (F.ev 7 (Vi p.nh)) (X.kc (Vi 1) rfl) (X.subI Try.underlying3 rfl (by omega) (by omega))) ?_;clear F ac;intro ac F
 refine Y.pc F 56 (X.a3 (F.ev 4 (Vi x)) (X.kc (Vi 0) rfl) (F.ev 8 (Vi ((p.nh : Int) - 1)))) Try.func56 (within_any x 0 ((p.nh : Int) - 1) w) ?_
 clear F ac
 rintro e w' ⟨rfl, hw_⟩
 obtain rfl : w = w' := hw_.symm
 clear hw_
 refine ⟨_, rfl, ?_⟩
 intro ac F
 refine Y.pv F (X.notB rfl (F.ev 9 (.bool (withinB x 0 ((p.nh : Int) - 1)))) rfl) ?_;clear F ac;intro ac F
 refine Y.pv F (X.assign rfl (F.ev 10 (.bool (!(withinB x 0 ((p.nh : Int) - 1)))))) ?_;clear F ac;intro ac F
 refine Y.nt F [(3, .bool (!(withinB x 0 ((p.nh : Int) - 1))))] ?_;clear F ac;intro ac F
 refine Y.ret ?_
 exact Y.ret0 (v := .bool (!(withinB x 0 ((p.nh : Int) - 1)))) F (Y.r1 F) ⟨by rw [within_isH], G⟩
set_option maxRecDepth 100000 in
set_option maxHeartbeats 400000 in
theorem idx115_any (p : Pb) (ta ha ba la : Option Addr) (tc hc bc lc : Nat) (a : Option Addr) (c : Nat) (xs : List Int) (bp : Nat) (w : World) (hP : PbAt w p ta ha ba la tc hc bc lc) (hX : Ints w a xs.length xs) (hq : RCells w [(⟨bp, 0, none⟩, .slice ta p.nt tc), (⟨bp, 1, none⟩, .slice ha p.nh hc), (⟨bp, 2, none⟩, .slice ba p.nb bc), (⟨bp, 3, none⟩, .slice la p.nl lc)]) :
  Calls Try.prog 115 #[.slice a xs.length c, .func (.func 110) #[] #[Vp bp]] w fun e w' => e = .returned (Vi (firI (fun i => !isH p (xs[i]?.getD 0)) xs.length)) ∧ Gr w w' := by
 have G := Gr.refl w
 have hpt := hP.t
 have hph := hP.h
 have hpb := hP.b
 have hpl := hP.l
 have hplen := hP.len
 obtain ⟨hn1, hn2, hn3, hn4⟩ := hplen
 have hcp1 := hpt.cap
 have hcp2 := hph.cap
 have hcp3 := hpb.cap
 have hcp4 := hpl.cap
 have hxs := hX
 have hlt := hxs.lt
 have hC := hq
 refine Y.calls 19 Try.func115 rfl rfl ?_
 intro ac F0
 have F : Fr ac 19 [(0, .slice a xs.length c), (1, .func (.func 110) #[] #[Vp bp])] := F0.sub _
 clear F0
 refine Y.sg F [(0, .slice a xs.length c), (1, .func (.func 110) #[] #[Vp bp])] (Y.pv F (X.assign rfl (X.kc (Vi 0) rfl)) fun ac F=>Y.fin F) ?_;clear F ac;intro ac F
 refine Y.seq ?_
 refine Y.sg F [(0, .slice a xs.length c), (1, .func (.func 110) #[] #[Vp bp]), (7, Vi xs.length), (8, Vi 0)] (Y.pv F (X.move rfl (F.ev 0 (.slice a xs.length c))) fun ac F=>Y.pv F (X.len1 Try.underlying34 rfl (F.ev 6 (.slice a xs.length c))) fun ac F=>Y.pv F (X.move rfl (X.kc (Vi 0) rfl)) fun ac F=>Y.fin F) ?_;clear F ac;intro ac F
 refine Y.block ?_
 have hptB := hpt
 have hphB := hph
 have hpbB := hpb
 have hplB := hpl
 have hxsB := hxs
 have hCB := hC
 have GB := G
 refine Y.loop (fun me_ ac wr => ∃ (i : Nat), me_ = xs.length - i ∧ Gr w wr ∧ i ≤ xs.length ∧ allN (fun i => !(!isH p (xs[i]?.getD 0))) i = true ∧ Fr ac 19 [(0, .slice a xs.length c), (1, .func (.func 110) #[] #[Vp bp]), (7, Vi xs.length), (8, Vi i)]) _ ⟨0, rfl, Gr.refl _, Nat.zero_le _, rfl, F.sub _⟩ ?_
 clear F
 intro me_ ac w3 hI
 obtain ⟨i, rfl, gr, hi0, hok, F⟩ := hI
 replace G := GB.trans gr
 replace hC := hCB.gr gr
 replace hpt := hptB.gr gr
 replace hph := hphB.gr gr
 replace hpb := hpbB.gr gr
 replace hpl := hplB.gr gr
 replace hxs := hxsB.gr gr
 have GB_ := gr
 clear gr
 refine Y.sg F [(0, .slice a xs.length c), (1, .func (.func 110) #[] #[Vp bp]), (7, Vi xs.length), (8, Vi i), (9, .bool (decide ((i : Int) < xs.length)))] (Y.pv F (X.binop rfl (F.ev 8 (Vi i)) (F.ev 7 (Vi xs.length)) (X.lssI Try.underlying3 rfl)) fun ac F=>Y.fin F) ?_;clear F ac;intro ac F
 refine Y.seq ?_
 cases h4 : decide ((i : Int) < xs.length) with
 | false =>
  try rw [h4] at F
  have h4p : ¬ ((i : Int) < xs.length) := of_decide_eq_false h4
  obtain rfl : i = xs.length := by omega
  refine Y.condF (F.ev 9 (.bool false)) ?_
  refine Y.exit ?_
  refine X.thenX (X.thenX (X.blockX (X.thenN ?_)))
  refine Y.sg F [(4, Vi (-1))] (Y.pv F (X.assign rfl (X.kc (Vi (-1)) rfl)) fun ac F=>Y.fin F) ?_;clear F ac;intro ac F
  refine Y.ret ?_
  exact Y.ret0 (v := Vi (-1)) F (Y.r1 F) ⟨ret_int ((firI_none hok).symm), G⟩
 | true =>
  try rw [h4] at F
  have h4p : ((i : Int) < xs.length) := of_decide_eq_true h4
  have hi : i < xs.length := by omega
  refine Y.condT (F.ev 9 (.bool true)) ?_
  refine Y.skip ?_
  refine X.thenN ?_
  refine Y.seq ?_
  refine Y.block ?_
  refine Y.sg F [(0, .slice a xs.length c), (1, .func (.func 110) #[] #[Vp bp]), (5, Vi i), (7, Vi xs.length), (8, Vi i)] (Y.pv F (X.move rfl (F.ev 8 (Vi i))) fun ac F=>Y.pv F (X.assign rfl (F.ev 10 (Vi i))) fun ac F=>Y.fin F) ?_;clear F ac;intro ac F
  refine Y.sl ?_
  refine Y.pv F (X.move rfl (F.ev 1 (.func (.func 110) #[] #[Vp bp]))) ?_;clear F ac;intro ac F
  refine Y.pv F (X.move rfl (F.ev 0 (.slice a xs.length c))) ?_;clear F ac;intro ac F
  refine Y.pv F (X.move rfl (F.ev 5 (Vi i))) ?_;clear F ac;intro ac F
  obtain ⟨pd5, pe5, -, pc5⟩ := hxs.at (j := i) (by omega)
  subst pe5
  replace hC : RCells w3 [(Ad bp 0, .slice ta p.nt tc), (Ad bp 1, .slice ha p.nh hc), (Ad bp 2, .slice ba p.nb bc), (Ad bp 3, .slice la p.nl lc), (pd5.add i, Vi (xs[i]?.getD 0))] := hC.append ((RCells.cons pc5 (RCells.nil _)))
  clear pc5
  refine Y.pval F (X.w0 rfl) rfl (X.index rfl (F.ev 12 (.slice (some pd5) xs.length c)) (F.ev 13 (Vi i)) (X.idx (k := i) Try.underlying34 (Try.siz3 _) (by omega) (by omega) (by rw [Nat.mul_one]))) ?_;clear F ac;intro ac F
  refine Y.pv F (X.load rfl (F.ev 14 (.pointer (some (pd5.add i)))) (X.ld1 (Try.agg3 _) (hC.at 4 rfl))) ?_;clear F ac;intro ac F
  refine Y.pcall F (X.w0 rfl) rfl (X.enter (F := 110) rfl (F.ev 11 (.func (.func 110) #[] #[Vp bp])) (X.a1 (F.ev 15 (Vi (xs[i]?.getD 0)))) (enters_of Try.func110 (by kernel_rfl) rfl _)) (hos1_any p ta ha ba la tc hc bc lc bp (xs[i]?.getD 0) w3 (hP.gr G) (hq.gr G)) ?_
  clear F ac
  rintro e w6 ⟨rfl, g⟩
  refine ⟨_, rfl, ?_⟩
  intro ac F
  replace G := G.trans g
  replace hC := hC.gr g
  replace GB_ := GB_.trans g
  replace hpt := hpt.gr g
  replace hph := hph.gr g
  replace hpb := hpb.gr g
  replace hpl := hpl.gr g
  replace hxs := hxs.gr g
  clear g
  refine Y.nt F [(0, .slice (some pd5) xs.length c), (1, .func (.func 110) #[] #[Vp bp]), (5, Vi i), (7, Vi xs.length), (8, Vi i), (16, .bool (!isH p (xs[i]?.getD 0)))] ?_;clear F ac;intro ac F
  cases h7 : isH p (xs[i]?.getD 0) with
  | false =>
   try rw [h7] at F
   refine Y.condT (F.ev 16 (.bool true)) ?_
   refine Y.sg F [(4, Vi i)] (Y.pv F (X.move rfl (F.ev 5 (Vi i))) fun ac F=>Y.pv F (X.assign rfl (F.ev 17 (Vi i))) fun ac F=>Y.fin F) ?_;clear F ac;intro ac F
   refine Y.ret ?_
   refine X.blockR (X.thenR (X.thenR (X.blockR (X.thenR ?_))))
   exact Y.ret0 (v := Vi i) F (Y.r1 F) ⟨ret_int ((firI_some (f := fun i => !isH p (xs[i]?.getD 0)) hi hok (by simp [h7])).symm), G⟩
  | true =>
   try rw [h7] at F
   refine Y.condF (F.ev 16 (.bool false)) ?_
   refine Y.skip ?_
   refine X.blockN (X.thenN ?_)
   refine Y.lg F [(0, .slice (some pd5) xs.length c), (1, .func (.func 110) #[] #[Vp bp]), (7, Vi xs.length), (8, Vi ((i : Int) + 1))] (by
    refine Y.pv F (X.binop rfl (F.ev 8 (Vi i)) (X.kc (Vi 1) rfl) (X.addI Try.underlying3 rfl (by omega) (by omega))) fun ac F=>?_
    refine Y.pv F (X.move rfl (F.ev 18 (Vi ((i : Int) + 1)))) fun ac F=>?_
    exact Y.fin F) ?_;clear F ac;intro ac F
   refine ⟨_, ?_, i + 1, rfl, GB_, by omega, allN_succ hok (by simp [h7]), F.sub _⟩
   omega
set_option maxRecDepth 100000 in
set_option maxHeartbeats 400000 in
theorem con94_any (p : Pb) (ta ha ba la : Option Addr) (tc hc bc lc : Nat) (a : Option Addr) (c : Nat) (xs : List Int) (bp : Nat) (w : World) (hP : PbAt w p ta ha ba la tc hc bc lc) (hX : Ints w a xs.length xs) (hq : RCells w [(⟨bp, 0, none⟩, .slice ta p.nt tc), (⟨bp, 1, none⟩, .slice ha p.nh hc), (⟨bp, 2, none⟩, .slice ba p.nb bc), (⟨bp, 3, none⟩, .slice la p.nl lc)]) :
  Calls Try.prog 94 #[.slice a xs.length c, .func (.func 110) #[] #[Vp bp]] w fun e w' => e = .returned (.bool (!hosB p xs)) ∧ Gr w w' := by
 have G := Gr.refl w
 have hpt := hP.t
 have hph := hP.h
 have hpb := hP.b
 have hpl := hP.l
 have hplen := hP.len
 obtain ⟨hn1, hn2, hn3, hn4⟩ := hplen
 have hcp1 := hpt.cap
 have hcp2 := hph.cap
 have hcp3 := hpb.cap
 have hcp4 := hpl.cap
 have hxs := hX
 have hlt := hxs.lt
 have hC := hq
 refine Y.calls 9 Try.func94 rfl rfl ?_
 intro ac F0
 have F : Fr ac 9 [(0, .slice a xs.length c), (1, .func (.func 110) #[] #[Vp bp])] := F0.sub _
 clear F0
 refine Y.sg F [(0, .slice a xs.length c), (1, .func (.func 110) #[] #[Vp bp])] (Y.pv F (X.assign rfl (X.kc (.bool false) rfl)) fun ac F=>Y.fin F) ?_;clear F ac;intro ac F
 refine Y.sl ?_
 refine Y.pv F (X.move rfl (F.ev 0 (.slice a xs.length c))) ?_;clear F ac;intro ac F
 refine Y.pv F (X.move rfl (F.ev 1 (.func (.func 110) #[] #[Vp bp]))) ?_;clear F ac;intro ac F
 refine Y.pc F 115 (X.a2 (F.ev 5 (.slice a xs.length c)) (F.ev 6 (.func (.func 110) #[] #[Vp bp]))) Try.func115 (idx115_any p ta ha ba la tc hc bc lc a c xs bp w (hP.gr G) (hX.gr G) (hq.gr G)) ?_
 clear F ac
 rintro e w3 ⟨rfl, g⟩
 refine ⟨_, rfl, ?_⟩
 intro ac F
 replace G := G.trans g
 replace hC := hC.gr g
 replace hpt := hpt.gr g
 replace hph := hph.gr g
 replace hpb := hpb.gr g
 replace hpl := hpl.gr g
 replace hxs := hxs.gr g
 clear g
 refine Y.pv F (X.binop rfl (F.ev 7 (Vi (firI (fun i => !isH p (xs[i]?.getD 0)) xs.length))) (X.kc (Vi 0) rfl) (X.geqI Try.underlying3 rfl)) ?_;clear F ac;intro ac F
 refine Y.pv F (X.assign rfl (F.ev 8 (.bool (decide ((0 : Int) ≤ (firI (fun i => !isH p (xs[i]?.getD 0)) xs.length)))))) ?_;clear F ac;intro ac F
 refine Y.nt F [(4, .bool (decide ((0 : Int) ≤ (firI (fun i => !isH p (xs[i]?.getD 0)) xs.length))))] ?_;clear F ac;intro ac F
 refine Y.ret ?_
 exact Y.ret0 (v := .bool (decide ((0 : Int) ≤ (firI (fun i => !isH p (xs[i]?.getD 0)) xs.length)))) F (Y.r1 F) ⟨by rw [firI_any (f := fun i => !isH p (xs[i]?.getD 0)), not_notB]; rfl, G⟩
set_option maxRecDepth 100000 in
set_option maxHeartbeats 400000 in
theorem hosted_any (p : Pb) (ta ha ba la : Option Addr) (tc hc bc lc : Nat) (a : Option Addr) (c : Nat) (xs : List Int) (w : World) (hP : PbAt w p ta ha ba la tc hc bc lc) (hX : Ints w a xs.length xs) :
  Calls Try.prog 88 #[.agg #[.slice ta p.nt tc, .slice ha p.nh hc, .slice ba p.nb bc, .slice la p.nl lc], .slice a xs.length c] w fun e w' => e = .returned (.bool (hosB p xs)) ∧ Gr w w' := by
 have G := Gr.refl w
 have hpt := hP.t
 have hph := hP.h
 have hpb := hP.b
 have hpl := hP.l
 have hplen := hP.len
 obtain ⟨hn1, hn2, hn3, hn4⟩ := hplen
 have hcp1 := hpt.cap
 have hcp2 := hph.cap
 have hcp3 := hpb.cap
 have hcp4 := hpl.cap
 have hxs := hX
 have hlt := hxs.lt
 refine Y.calls 9 Try.func88 rfl rfl ?_
 intro ac F0
 have F : Fr ac 9 [(0, .agg #[.slice ta p.nt tc, .slice ha p.nh hc, .slice ba p.nb bc, .slice la p.nl lc]), (1, .slice a xs.length c)] := F0.sub _
 clear F0
 refine Y.sl ?_
 have hgs3 : w.heap.size ≤ w.heap.size := G.size
 refine Y.pv F (X.box rfl (F.ev 0 (.agg #[.slice ta p.nt tc, .slice ha p.nh hc, .slice ba p.nb bc, .slice la p.nl lc])) X.bx) ?_;clear F ac;intro ac F
 have hgs5 : w.heap.size ≤ w.heap.size := G.size
 have g := Gr.alloc w (.cells #[.slice ta p.nt tc, .slice ha p.nh hc, .slice ba p.nb bc, .slice la p.nl lc] 27)
 have hb := heap_alloc_new w (.cells #[.slice ta p.nt tc, .slice ha p.nh hc, .slice ba p.nb bc, .slice la p.nl lc] 27)
 have hbl : w.heap.size < (w.alloc (.cells #[.slice ta p.nt tc, .slice ha p.nh hc, .slice ba p.nb bc, .slice la p.nl lc] 27)).heap.size := by simp
 have hC2 : RCells (w.alloc (.cells #[.slice ta p.nt tc, .slice ha p.nh hc, .slice ba p.nb bc, .slice la p.nl lc] 27)) [(Ad w.heap.size 0, .slice ta p.nt tc), (Ad w.heap.size 1, .slice ha p.nh hc), (Ad w.heap.size 2, .slice ba p.nb bc), (Ad w.heap.size 3, .slice la p.nl lc)] := (RCells.nil w).box (b := w.heap.size) #[.slice ta p.nt tc, .slice ha p.nh hc, .slice ba p.nb bc, .slice la p.nl lc] 27 rfl
 generalize w.alloc (.cells #[.slice ta p.nt tc, .slice ha p.nh hc, .slice ba p.nb bc, .slice la p.nl lc] 27) = w6 at *
 replace G := G.trans g
 have hC := hC2
 clear hC2
 replace hpt := hpt.gr g
 replace hph := hph.gr g
 replace hpb := hpb.gr g
 replace hpl := hpl.gr g
 replace hxs := hxs.gr g
 have hsz4 := hbl
 clear g hb hbl
 refine Y.pv F (X.assign rfl (X.kc (.bool false) rfl)) ?_;clear F ac;intro ac F
 refine Y.nt F [(1, .slice a xs.length c), (2, Vp w.heap.size)] ?_;clear F ac;intro ac F
 refine Y.sl ?_
 refine Y.pv F (X.move rfl (F.ev 1 (.slice a xs.length c))) ?_;clear F ac;intro ac F
 refine Y.pv F (Y.fnc rfl (Y.m1 (F.ev 2 (Vp w.heap.size)))) ?_;clear F ac;intro ac F
 refine Y.pc F 94 (X.a2 (F.ev 5 (.slice a xs.length c)) (F.ev 6 (.func (.func 110) #[] #[Vp w.heap.size]))) Try.func94 (con94_any p ta ha ba la tc hc bc lc a c xs w.heap.size w6 (hP.gr G) (hX.gr G) ((RCells.cons (hC.at 0 rfl) (RCells.cons (hC.at 1 rfl) (RCells.cons (hC.at 2 rfl) (RCells.cons (hC.at 3 rfl) (RCells.nil _))))))) ?_
 clear F ac
 rintro e w7 ⟨rfl, g⟩
 refine ⟨_, rfl, ?_⟩
 intro ac F
 replace G := G.trans g
 replace hC := hC.gr g
 replace hpt := hpt.gr g
 replace hph := hph.gr g
 replace hpb := hpb.gr g
 replace hpl := hpl.gr g
 replace hxs := hxs.gr g
 clear g
 refine Y.pv F (X.notB rfl (F.ev 7 (.bool (!hosB p xs))) rfl) ?_;clear F ac;intro ac F
 refine Y.pv F (X.assign rfl (F.ev 8 (.bool (!(!hosB p xs))))) ?_;clear F ac;intro ac F
 refine Y.nt F [(4, .bool (!(!hosB p xs)))] ?_;clear F ac;intro ac F
 refine Y.ret ?_
 exact Y.ret0 (v := .bool (!(!hosB p xs))) F (Y.r1 F) ⟨by rw [Bool.not_not], G⟩
set_option maxRecDepth 100000 in
set_option maxHeartbeats 1000000 in
theorem begun_any (p : Pb) (ta ha ba la : Option Addr) (tc hc bc lc : Nat) (a : Option Addr) (c : Nat) (xs : List Int) (wh : Bool) (w : World) (hP : PbAt w p ta ha ba la tc hc bc lc) (hX : Ints w a xs.length xs) :
  Calls Try.prog 71 #[.agg #[.slice ta p.nt tc, .slice ha p.nh hc, .slice ba p.nb bc, .slice la p.nl lc], .slice a xs.length c, .bool wh] w fun e w' => e = .returned (Vi (wbE wh p xs)) ∧ Gr w w' := by
 have G := Gr.refl w
 have hpt := hP.t
 have hph := hP.h
 have hpb := hP.b
 have hpl := hP.l
 have hplen := hP.len
 obtain ⟨hn1, hn2, hn3, hn4⟩ := hplen
 have hcp1 := hpt.cap
 have hcp2 := hph.cap
 have hcp3 := hpb.cap
 have hcp4 := hpl.cap
 have hxs := hX
 have hlt := hxs.lt
 refine Y.calls 36 Try.func71 rfl rfl ?_
 intro ac F0
 have F : Fr ac 36 [(0, .agg #[.slice ta p.nt tc, .slice ha p.nh hc, .slice ba p.nb bc, .slice la p.nl lc]), (1, .slice a xs.length c), (2, .bool wh)] := F0.sub _
 clear F0
 refine Y.sl ?_
 have hgs3 : w.heap.size ≤ w.heap.size := G.size
 refine Y.pv F (X.box rfl (F.ev 0 (.agg #[.slice ta p.nt tc, .slice ha p.nh hc, .slice ba p.nb bc, .slice la p.nl lc])) X.bx) ?_;clear F ac;intro ac F
 have hgs5 : w.heap.size ≤ w.heap.size := G.size
 have g := Gr.alloc w (.cells #[.slice ta p.nt tc, .slice ha p.nh hc, .slice ba p.nb bc, .slice la p.nl lc] 27)
 have hb := heap_alloc_new w (.cells #[.slice ta p.nt tc, .slice ha p.nh hc, .slice ba p.nb bc, .slice la p.nl lc] 27)
 have hbl : w.heap.size < (w.alloc (.cells #[.slice ta p.nt tc, .slice ha p.nh hc, .slice ba p.nb bc, .slice la p.nl lc] 27)).heap.size := by simp
 have hC2 : RCells (w.alloc (.cells #[.slice ta p.nt tc, .slice ha p.nh hc, .slice ba p.nb bc, .slice la p.nl lc] 27)) [(Ad w.heap.size 0, .slice ta p.nt tc), (Ad w.heap.size 1, .slice ha p.nh hc), (Ad w.heap.size 2, .slice ba p.nb bc), (Ad w.heap.size 3, .slice la p.nl lc)] := (RCells.nil w).box (b := w.heap.size) #[.slice ta p.nt tc, .slice ha p.nh hc, .slice ba p.nb bc, .slice la p.nl lc] 27 rfl
 generalize w.alloc (.cells #[.slice ta p.nt tc, .slice ha p.nh hc, .slice ba p.nb bc, .slice la p.nl lc] 27) = w6 at *
 replace G := G.trans g
 have hC := hC2
 clear hC2
 replace hpt := hpt.gr g
 replace hph := hph.gr g
 replace hpb := hpb.gr g
 replace hpl := hpl.gr g
 replace hxs := hxs.gr g
 have hsz4 := hbl
 clear g hb hbl
 refine Y.pv F (X.assign rfl (X.kc (Vi 0) rfl)) ?_;clear F ac;intro ac F
 refine Y.nt F [(1, .slice a xs.length c), (2, .bool wh), (3, Vp w.heap.size)] ?_;clear F ac;intro ac F
 refine Y.seq ?_
 refine Y.sl ?_
 refine Y.pv F (X.load rfl (F.ev 3 (Vp w.heap.size)) (X.ldN (Try.agg27 _) (Try.siz27 _) (Y.atz (⟨w.heap.size, 0, none⟩) (Y.AtFrom.cons (hC.at 0 rfl) (Y.AtFrom.cons (hC.at 1 rfl) (Y.AtFrom.cons (hC.at 2 rfl) (Y.AtFrom.cons (hC.at 3 rfl) (Y.AtFrom.nil _ _ _)))))))) ?_;clear F ac;intro ac F
 refine Y.pc F 18 (X.a1 (F.ev 8 (.agg #[.slice ta p.nt tc, .slice ha p.nh hc, .slice ba p.nb bc, .slice la p.nl lc]))) Try.func18 (check_any p ta ha ba la tc hc bc lc w6 (hP.gr G)) ?_
 clear F ac
 rintro e w7 ⟨rfl, g⟩
 refine ⟨_, rfl, ?_⟩
 intro ac F
 replace G := G.trans g
 replace hC := hC.gr g
 replace hpt := hpt.gr g
 replace hph := hph.gr g
 replace hpb := hpb.gr g
 replace hpl := hpl.gr g
 replace hxs := hxs.gr g
 clear g
 refine Y.pv F (X.assign rfl (F.ev 9 (Vi (chkE p)))) ?_;clear F ac;intro ac F
 refine Y.nt F [(1, .slice a xs.length c), (2, .bool wh), (3, Vp w.heap.size), (7, Vi (chkE p))] ?_;clear F ac;intro ac F
 refine Y.sg F [(1, .slice a xs.length c), (2, .bool wh), (3, Vp w.heap.size), (7, Vi (chkE p)), (11, .bool ((chkE p : Int) != 0))] (Y.pv F (X.move rfl (F.ev 7 (Vi (chkE p)))) fun ac F=>Y.pv F (X.binop rfl (F.ev 10 (Vi (chkE p))) (X.kc (Vi 0) rfl) (X.neqI Try.underlying31 rfl)) fun ac F=>Y.fin F) ?_;clear F ac;intro ac F
 cases h8 : ((chkE p : Int) != 0) with
 | false =>
  try rw [h8] at F
  have h8p : (chkE p : Int) = 0 := by simpa using h8
  refine Y.condF (F.ev 11 (.bool false)) ?_
  refine Y.skip ?_
  refine X.thenN ?_
  refine Y.seq ?_
  refine Y.sl ?_
  refine Y.pv F (X.move rfl (F.ev 1 (.slice a xs.length c))) ?_;clear F ac;intro ac F
  refine Y.pv F (X.len1 Try.underlying34 rfl (F.ev 13 (.slice a xs.length c))) ?_;clear F ac;intro ac F
  refine Y.pv F (X.field rfl (F.ev 3 (Vp w.heap.size)) (X.fld Try.underlying27 rfl (Try.siz22 _) rfl rfl)) ?_;clear F ac;intro ac F
  refine Y.pv F (X.load rfl (F.ev 15 (Vp w.heap.size)) (X.ld1 (Try.agg22 _) (hC.at 0 rfl))) ?_;clear F ac;intro ac F
  refine Y.pv F (X.len1 Try.underlying22 rfl (F.ev 16 (.slice ta p.nt tc))) ?_;clear F ac;intro ac F
  refine Y.pv F (X.binop rfl (F.ev 14 (Vi xs.length)) (F.ev 17 (Vi p.nt)) (X.gtrI Try.underlying3 rfl)) ?_;clear F ac;intro ac F
  refine Y.pv F (X.move rfl (F.ev 18 (.bool (decide ((p.nt : Int) < xs.length))))) ?_;clear F ac;intro ac F
  cases h9 : decide ((p.nt : Int) < xs.length) with
  | false =>
   try rw [h9] at F
   have h9p : ¬ ((p.nt : Int) < xs.length) := of_decide_eq_false h9
   refine Y.pg F 6 19 false (X.move rfl (F.ev 2 (.bool wh))) ?_;clear F ac;intro ac F
   refine Y.pg F 6 19 false (X.move rfl (F.ev 20 (.bool wh))) ?_;clear F ac;intro ac F
   cases h10 : wh with
   | false =>
    try rw [h10] at F
    refine Y.ps F 8 21 false ?_;clear F ac;intro ac F
    refine Y.ps F 8 21 false ?_;clear F ac;intro ac F
    refine Y.ps F 8 21 false ?_;clear F ac;intro ac F
    refine Y.ps F 8 21 false ?_;clear F ac;intro ac F
    refine Y.ps F 8 21 false ?_;clear F ac;intro ac F
    refine Y.ps F 8 21 false ?_;clear F ac;intro ac F
    refine Y.pg F 6 19 false (X.pickF rfl (F.ev 21 (.bool false)) (X.kc (.bool false) rfl)) ?_;clear F ac;intro ac F
    refine Y.pv F (X.pickF rfl (F.ev 19 (.bool false)) (F.ev 28 (.bool false))) ?_;clear F ac;intro ac F
    refine Y.pv F (X.move rfl (F.ev 29 (.bool false))) ?_;clear F ac;intro ac F
    refine Y.pg F 17 30 false (X.load rfl (F.ev 3 (Vp w.heap.size)) (X.ldN (Try.agg27 _) (Try.siz27 _) (Y.atz (⟨w.heap.size, 0, none⟩) (Y.AtFrom.cons (hC.at 0 rfl) (Y.AtFrom.cons (hC.at 1 rfl) (Y.AtFrom.cons (hC.at 2 rfl) (Y.AtFrom.cons (hC.at 3 rfl) (Y.AtFrom.nil _ _ _)))))))) ?_;clear F ac;intro ac F
    refine Y.pg F 17 30 false (X.move rfl (F.ev 1 (.slice a xs.length c))) ?_;clear F ac;intro ac F
    refine Y.pcall F (X.w1 rfl (F.yl (j := 17) (d := 30) (b := false) rfl (by kernel_rfl))) rfl (X.enter (F := 88) rfl (X.kc (.func (.func 88) #[] #[]) rfl) (X.a2 (F.ev 31 (.agg #[.slice ta p.nt tc, .slice ha p.nh hc, .slice ba p.nb bc, .slice la p.nl lc])) (F.ev 32 (.slice a xs.length c))) (enters_of Try.func88 (by kernel_rfl) rfl _)) (hosted_any p ta ha ba la tc hc bc lc a c xs w7 (hP.gr G) (hX.gr G)) ?_
    clear F ac
    rintro e w11 ⟨rfl, g⟩
    refine ⟨_, rfl, ?_⟩
    intro ac F
    replace G := G.trans g
    replace hC := hC.gr g
    replace hpt := hpt.gr g
    replace hph := hph.gr g
    replace hpb := hpb.gr g
    replace hpl := hpl.gr g
    replace hxs := hxs.gr g
    clear g
    refine Y.pg F 17 30 false (X.notB rfl (F.ev 33 (.bool (hosB p xs))) rfl) ?_;clear F ac;intro ac F
    refine Y.pv F (X.pickF rfl (F.ev 30 (.bool false)) (F.ev 34 (.bool (!(hosB p xs))))) ?_;clear F ac;intro ac F
    refine Y.nt F [(35, .bool (!(hosB p xs)))] ?_;clear F ac;intro ac F
    cases h12 : hosB p xs with
    | false =>
     try rw [h12] at F
     refine Y.condT (F.ev 35 (.bool true)) ?_
     refine Y.sg F [(6, Vi 33)] (Y.pv F (X.assign rfl (X.kc (Vi 33) rfl)) fun ac F=>Y.fin F) ?_;clear F ac;intro ac F
     refine Y.ret ?_
     refine X.thenR ?_
     exact Y.ret0 (v := Vi 33) F (Y.r1 F) ⟨by rw [wb_2 (by omega) (.inr (.inl h12))], G⟩
    | true =>
     try rw [h12] at F
     refine Y.condF (F.ev 35 (.bool false)) ?_
     refine Y.skip ?_
     refine X.thenN ?_
     refine Y.sg F [(6, Vi 0)] (Y.pv F (X.assign rfl (X.kc (Vi 0) rfl)) fun ac F=>Y.fin F) ?_;clear F ac;intro ac F
     refine Y.ret ?_
     exact Y.ret0 (v := Vi 0) F (Y.r1 F) ⟨by rw [wb_3 (by omega) (by omega) h12 (.inl rfl)], G⟩
   | true =>
    try rw [h10] at F
    refine Y.pg F 8 21 true (X.move rfl (F.ev 1 (.slice a xs.length c))) ?_;clear F ac;intro ac F
    refine Y.pg F 8 21 true (X.len1 Try.underlying34 rfl (F.ev 22 (.slice a xs.length c))) ?_;clear F ac;intro ac F
    refine Y.pg F 8 21 true (X.field rfl (F.ev 3 (Vp w.heap.size)) (X.fld Try.underlying27 rfl (Try.siz22 _) rfl rfl)) ?_;clear F ac;intro ac F
    refine Y.pg F 8 21 true (X.load rfl (F.ev 24 (Vp w.heap.size)) (X.ld1 (Try.agg22 _) (hC.at 0 rfl))) ?_;clear F ac;intro ac F
    refine Y.pg F 8 21 true (X.len1 Try.underlying22 rfl (F.ev 25 (.slice ta p.nt tc))) ?_;clear F ac;intro ac F
    refine Y.pg F 8 21 true (X.binop rfl (F.ev 23 (Vi xs.length)) (F.ev 26 (Vi p.nt)) (X.lssI Try.underlying3 rfl)) ?_;clear F ac;intro ac F
    refine Y.pg F 6 19 false (X.pickT rfl (F.ev 21 (.bool true)) (F.ev 27 (.bool (decide ((xs.length : Int) < p.nt))))) ?_;clear F ac;intro ac F
    refine Y.pv F (X.pickF rfl (F.ev 19 (.bool false)) (F.ev 28 (.bool (decide ((xs.length : Int) < p.nt))))) ?_;clear F ac;intro ac F
    refine Y.pv F (X.move rfl (F.ev 29 (.bool (decide ((xs.length : Int) < p.nt))))) ?_;clear F ac;intro ac F
    cases h13 : decide ((xs.length : Int) < p.nt) with
    | false =>
     try rw [h13] at F
     have h13p : ¬ ((xs.length : Int) < p.nt) := of_decide_eq_false h13
     refine Y.pg F 17 30 false (X.load rfl (F.ev 3 (Vp w.heap.size)) (X.ldN (Try.agg27 _) (Try.siz27 _) (Y.atz (⟨w.heap.size, 0, none⟩) (Y.AtFrom.cons (hC.at 0 rfl) (Y.AtFrom.cons (hC.at 1 rfl) (Y.AtFrom.cons (hC.at 2 rfl) (Y.AtFrom.cons (hC.at 3 rfl) (Y.AtFrom.nil _ _ _)))))))) ?_;clear F ac;intro ac F
     refine Y.pg F 17 30 false (X.move rfl (F.ev 1 (.slice a xs.length c))) ?_;clear F ac;intro ac F
     refine Y.pcall F (X.w1 rfl (F.yl (j := 17) (d := 30) (b := false) rfl (by kernel_rfl))) rfl (X.enter (F := 88) rfl (X.kc (.func (.func 88) #[] #[]) rfl) (X.a2 (F.ev 31 (.agg #[.slice ta p.nt tc, .slice ha p.nh hc, .slice ba p.nb bc, .slice la p.nl lc])) (F.ev 32 (.slice a xs.length c))) (enters_of Try.func88 (by kernel_rfl) rfl _)) (hosted_any p ta ha ba la tc hc bc lc a c xs w7 (hP.gr G) (hX.gr G)) ?_
     clear F ac
     rintro e w14 ⟨rfl, g⟩
     refine ⟨_, rfl, ?_⟩
     intro ac F
     replace G := G.trans g
     replace hC := hC.gr g
     replace hpt := hpt.gr g
     replace hph := hph.gr g
     replace hpb := hpb.gr g
     replace hpl := hpl.gr g
     replace hxs := hxs.gr g
     clear g
     refine Y.pg F 17 30 false (X.notB rfl (F.ev 33 (.bool (hosB p xs))) rfl) ?_;clear F ac;intro ac F
     refine Y.pv F (X.pickF rfl (F.ev 30 (.bool false)) (F.ev 34 (.bool (!(hosB p xs))))) ?_;clear F ac;intro ac F
     refine Y.nt F [(35, .bool (!(hosB p xs)))] ?_;clear F ac;intro ac F
     cases h15 : hosB p xs with
     | false =>
      try rw [h15] at F
      refine Y.condT (F.ev 35 (.bool true)) ?_
      refine Y.sg F [(6, Vi 33)] (Y.pv F (X.assign rfl (X.kc (Vi 33) rfl)) fun ac F=>Y.fin F) ?_;clear F ac;intro ac F
      refine Y.ret ?_
      refine X.thenR ?_
      exact Y.ret0 (v := Vi 33) F (Y.r1 F) ⟨by rw [wb_2 (by omega) (.inr (.inl h15))], G⟩
     | true =>
      try rw [h15] at F
      refine Y.condF (F.ev 35 (.bool false)) ?_
      refine Y.skip ?_
      refine X.thenN ?_
      refine Y.sg F [(6, Vi 0)] (Y.pv F (X.assign rfl (X.kc (Vi 0) rfl)) fun ac F=>Y.fin F) ?_;clear F ac;intro ac F
      refine Y.ret ?_
      exact Y.ret0 (v := Vi 0) F (Y.r1 F) ⟨by rw [wb_3 (by omega) (by omega) h15 (.inr (by omega))], G⟩
    | true =>
     try rw [h13] at F
     have h13p : ((xs.length : Int) < p.nt) := of_decide_eq_true h13
     refine Y.ps F 17 30 true ?_;clear F ac;intro ac F
     refine Y.ps F 17 30 true ?_;clear F ac;intro ac F
     refine Y.ps F 17 30 true ?_;clear F ac;intro ac F
     refine Y.ps F 17 30 true ?_;clear F ac;intro ac F
     refine Y.pv F (X.pickT rfl (F.ev 30 (.bool true)) (X.kc (.bool true) rfl)) ?_;clear F ac;intro ac F
     refine Y.nt F [(35, .bool true)] ?_;clear F ac;intro ac F
     refine Y.condT (F.ev 35 (.bool true)) ?_
     refine Y.sg F [(6, Vi 33)] (Y.pv F (X.assign rfl (X.kc (Vi 33) rfl)) fun ac F=>Y.fin F) ?_;clear F ac;intro ac F
     refine Y.ret ?_
     refine X.thenR ?_
     exact Y.ret0 (v := Vi 33) F (Y.r1 F) ⟨by rw [wb_2 (by omega) (.inr (.inr ⟨rfl, by omega⟩))], G⟩
  | true =>
   try rw [h9] at F
   have h9p : ((p.nt : Int) < xs.length) := of_decide_eq_true h9
   refine Y.ps F 6 19 true ?_;clear F ac;intro ac F
   refine Y.ps F 6 19 true ?_;clear F ac;intro ac F
   refine Y.pn F 8 21 ?_;clear F ac;intro ac F
   refine Y.pn F 8 21 ?_;clear F ac;intro ac F
   refine Y.pn F 8 21 ?_;clear F ac;intro ac F
   refine Y.pn F 8 21 ?_;clear F ac;intro ac F
   refine Y.pn F 8 21 ?_;clear F ac;intro ac F
   refine Y.pn F 8 21 ?_;clear F ac;intro ac F
   refine Y.ps F 6 19 true ?_;clear F ac;intro ac F
   refine Y.pv F (X.pickT rfl (F.ev 19 (.bool true)) (X.kc (.bool true) rfl)) ?_;clear F ac;intro ac F
   refine Y.pv F (X.move rfl (F.ev 29 (.bool true))) ?_;clear F ac;intro ac F
   refine Y.ps F 17 30 true ?_;clear F ac;intro ac F
   refine Y.ps F 17 30 true ?_;clear F ac;intro ac F
   refine Y.ps F 17 30 true ?_;clear F ac;intro ac F
   refine Y.ps F 17 30 true ?_;clear F ac;intro ac F
   refine Y.pv F (X.pickT rfl (F.ev 30 (.bool true)) (X.kc (.bool true) rfl)) ?_;clear F ac;intro ac F
   refine Y.nt F [(35, .bool true)] ?_;clear F ac;intro ac F
   refine Y.condT (F.ev 35 (.bool true)) ?_
   refine Y.sg F [(6, Vi 33)] (Y.pv F (X.assign rfl (X.kc (Vi 33) rfl)) fun ac F=>Y.fin F) ?_;clear F ac;intro ac F
   refine Y.ret ?_
   refine X.thenR ?_
   exact Y.ret0 (v := Vi 33) F (Y.r1 F) ⟨by rw [wb_2 (by omega) (.inl (by omega))], G⟩
 | true =>
  try rw [h8] at F
  have h8p : ¬ (chkE p : Int) = 0 := by simpa using h8
  refine Y.condT (F.ev 11 (.bool true)) ?_
  refine Y.sg F [(6, Vi (chkE p))] (Y.pv F (X.move rfl (F.ev 7 (Vi (chkE p)))) fun ac F=>Y.pv F (X.assign rfl (F.ev 12 (Vi (chkE p)))) fun ac F=>Y.fin F) ?_;clear F ac;intro ac F
  refine Y.ret ?_
  refine X.thenR ?_
  exact Y.ret0 (v := Vi (chkE p)) F (Y.r1 F) ⟨by rw [wb_1 (by omega)], G⟩
end
section
set_option linter.unusedVariables false
open Go.RowKit
/-- the problem whose tasks take n hundredths of their time -/
def qT (p : Pb) (n : Int) : Pb := { p with tv := fun i r => if r = 2 then hund p n i else p.tv i r }
theorem chk_tt {p : Pb} (h : chkE p = 0) {i : Nat} (hi : i < p.nt) : 0 ≤ p.tv i 2 ∧ p.tv i 2 ≤ 100000 := by
  unfold chkE at h
  split at h
  · cases h
  split at h
  · cases h
  rename_i h1
  have := allN_iff.1 (by simpa using h1 : allN (taskB p) p.nt = true) i hi
  simp only [taskB, Bool.and_eq_true, amtB_iff] at this
  exact this.1.2
theorem hund_sm {p : Pb} (h : chkE p = 0) {n : Int} (hn : 0 ≤ n ∧ n ≤ 100001) {i : Nat} (hi : i < p.nt) : 0 ≤ hund p n i ∧ hund p n i ≤ 200000000 ∧ 0 ≤ p.tv i 2 * n ∧ p.tv i 2 * n ≤ 10000100000 := by
  have h0 := chk_tt h hi
  have h1 := Int.mul_nonneg h0.1 hn.1
  have h2 := Int.mul_le_mul h0.2 hn.2 hn.1 (by decide)
  have h3 : (100000 : Int) * 100001 = 10000100000 := by decide
  unfold hund
  omega
theorem qT_ok {p : Pb} (h : chkE p = 0) {n : Int} (hn : 0 ≤ n ∧ n ≤ 100001) : PbOk (qT p n) := by
  have hp := chk_ok h
  exact ⟨hp.t10, hp.h6, hp.b30, hp.l30, hp.tm, fun i hi => by have := hund_sm h hn (i := i) hi; exact ⟨this.1, this.2.1⟩, hp.tl, hp.hm, hp.ht, hp.hl, hp.hz, hp.hp, hp.ba, hp.bk, hp.bt, hp.bh, hp.la, hp.lb, hp.lw⟩
theorem qT_hope {p : Pb} {n : Int} {xs : List Int} : hopeB (qT p n) (tim (qT p n)) xs = hopeB p (hund p n) xs := rfl
/-- the cells of the tasks, when the first i have been turned -/
def tkV (p : Pb) (n : Int) (i : Nat) (j : Nat) : Value := if j % 4 = 2 ∧ j / 4 < i then .int .i64 (hund p n (j / 4)) else tvV p (j / 4) (j % 4)
theorem tk_get {p : Pb} {n : Int} {i : Nat} : tkV p n i (i * 4 + 2) = .int .i64 (p.tv i 2) := by
  unfold tkV
  rw [if_neg (by omega), show (i * 4 + 2) / 4 = i by omega, show (i * 4 + 2) % 4 = 2 by omega]; rfl
theorem tk_set {p : Pb} {n : Int} {i : Nat} (j : Nat) : (if j = i * 4 + 2 then Value.int .i64 ((p.tv i 2 * n + 99) / 100) else tkV p n i j) = tkV p n (i + 1) j := by
  unfold tkV
  by_cases e : j = i * 4 + 2
  · subst e
    rw [if_pos rfl, if_pos (by omega), show (i * 4 + 2) / 4 = i by omega]; rfl
  · rw [if_neg e]
    by_cases e2 : j % 4 = 2 ∧ j / 4 < i
    · rw [if_pos e2, if_pos (by omega)]
    · rw [if_neg e2, if_neg (by omega)]
theorem tk_end {p : Pb} {n : Int} {j r : Nat} (hj : j < p.nt) (hr : r < 4) : tkV p n p.nt (j * 4 + r) = tvV (qT p n) j r := by
  unfold tkV
  rw [show (j * 4 + r) / 4 = j by omega, show (j * 4 + r) % 4 = r by omega]
  have : r = 0 ∨ r = 1 ∨ r = 2 ∨ r = 3 := by omega
  rcases this with rfl | rfl | rfl | rfl
  · rw [if_neg (by omega)]; rfl
  · rw [if_neg (by omega)]; rfl
  · rw [if_pos ⟨rfl, hj⟩]; rfl
  · rw [if_neg (by omega)]; rfl
/-- the copy of the tasks, when the first i have been turned -/
def TkR (W : World) (B : Nat) (p : Pb) (n : Int) (ca : Option Addr) (i : Nat) : Prop := p.nt = 0 ∨ ∃ g, ca = some ⟨g, 0, none⟩ ∧ B ≤ g ∧ OwnP W g (p.nt * 4) (tkV p n i)
theorem tk_start {W : World} {B c : Nat} {p : Pb} {n : Int} {ca : Option Addr} (h : OwnR W B 74 4 (.slice ca p.nt c) p.nt (tbL (tvV p) p.nt 4)) : TkR W B p n ca 0 := by
  rcases h.shape with ⟨_, h1⟩ | ⟨g, c', e, h1, h2⟩
  · exact .inl h1
  · injection e with e
    subst e
    refine .inr ⟨g, rfl, h1, h.ownP fun j u hu => ?_⟩
    obtain ⟨_, rfl⟩ := tbL_get hu
    unfold tkV; rw [if_neg (by omega)]
theorem tk_tb {W : World} {B c : Nat} {p : Pb} {n : Int} {ca : Option Addr} (h : TkR W B p n ca p.nt) (hc : p.nt ≤ c) (hl : p.nt ≤ 20) : TbAt W 4 ca p.nt c (tvV (qT p n)) := by
  rcases h with h | ⟨g, rfl, _, hO⟩
  · exact ⟨hc, by omega, fun j hj => by omega⟩
  · refine ⟨hc, by omega, fun j hj => ⟨_, rfl, hO.lt, fun r hr => ?_⟩⟩
    rw [addr_add0, show (⟨g, j * 4, none⟩ : Addr).add r = ⟨g, j * 4 + r, none⟩ from Y.addr_add _ _ _, hO.cell (by omega), tk_end hj hr]
/-- halving -/
def bsS (f : Int → Bool) : Nat → Int → Int → Int
  | 0, l, _ => l
  | k + 1, l, h => if 1 < h - l then (if f ((l + h) / 2) then bsS f k ((l + h) / 2) h else bsS f k l ((l + h) / 2)) else l
theorem bs_end {f : Int → Bool} {k : Nat} {l h : Int} (hd : ¬ 1 < h - l) : bsS f k l h = l := by
  cases k with
  | zero => rfl
  | succ k => unfold bsS; rw [if_neg hd]
theorem bs_yes {f : Int → Bool} {k : Nat} {l h : Int} (hd : 1 < h - l) (hf : f ((l + h) / 2) = true) : bsS f (k + 1) l h = bsS f k ((l + h) / 2) h := by
  rw [bsS, if_pos hd, if_pos hf]
theorem bs_no {f : Int → Bool} {k : Nat} {l h : Int} (hd : 1 < h - l) (hf : f ((l + h) / 2) = false) : bsS f (k + 1) l h = bsS f k l ((l + h) / 2) := by
  rw [bsS, if_pos hd, if_neg (by rw [hf]; decide)]
def fitF (p : Pb) (xs : List Int) (n : Int) : Bool := !hopeB p (hund p n) xs
def saveE (p : Pb) (xs : List Int) : Int := if ¬ whoE p xs = 0 then whoE p xs else if hopeB p (hund p 0) xs then 33 else 0
def saveV (p : Pb) (xs : List Int) : Int := if saveE p xs = 0 then bsS (fitF p xs) 100001 0 100001 else 0
section
variable {p : Pb} {xs : List Int}
theorem save_0 (h : ¬ whoE p xs = 0) : saveE p xs = whoE p xs ∧ saveV p xs = 0 := by
  have e : saveE p xs = whoE p xs := if_pos h
  exact ⟨e, by unfold saveV; rw [e, if_neg h]⟩
theorem save_1 (h : whoE p xs = 0) (k : hopeB p (hund p 0) xs = true) : saveE p xs = 33 ∧ saveV p xs = 0 := by
  have e : saveE p xs = 33 := by unfold saveE; rw [if_neg (by rw [h]; decide), if_pos k]
  exact ⟨e, by unfold saveV; rw [e]; rfl⟩
theorem save_2 (h : whoE p xs = 0) (k : hopeB p (hund p 0) xs = false) : saveE p xs = 0 ∧ saveV p xs = bsS (fitF p xs) 100001 0 100001 := by
  have e : saveE p xs = 0 := by unfold saveE; rw [if_neg (by rw [h]; decide), if_neg (by rw [k]; decide)]
  exact ⟨e, by unfold saveV; rw [e]; rfl⟩
end
end
section
set_option linter.unusedVariables false
open Go.RowKit
def strip (L : RkL) : List ((Int × Int) × List Int) := L.map fun x => (x.1, x.2.xs)
theorem strip_len (L : RkL) : (strip L).length = L.length := by simp [strip]
theorem strip_get (L : RkL) (i : Nat) : (strip L)[i]? = (L[i]?).map fun x => (x.1, x.2.xs) := by simp [strip]
theorem strip_full (L : RkL) (most : Nat) (k : Int × Int) : fullR most (strip L) k = fullR most L k := by
  unfold fullR
  rw [strip_len, strip_get]
  cases L[most - 1]? <;> rfl
theorem strip_pos (L : RkL) (k : Int × Int) : ∀ n, posR (strip L) k n = posR L k n := by
  intro n
  induction n with
  | zero => rfl
  | succ n ih =>
    unfold posR
    rw [strip_get]
    cases L[n]? with
    | none => rfl
    | some y => simp only [Option.map_some, ih]
theorem strip_ins (L : RkL) (i : Nat) (x : (Int × Int) × BegE) : strip (insAt L i x) = insAt (strip L) i (x.1, x.2.xs) := by
  unfold insAt strip
  simp [List.map_take, List.map_drop]
theorem strip_put (L : RkL) (most : Nat) (x : (Int × Int) × BegE) : strip (putR most L x) = putR most (strip L) (x.1, x.2.xs) := by
  unfold putR
  rw [strip_full]
  split
  · rfl
  · unfold insR
    rw [strip_len, strip_pos, ← strip_ins]
    unfold strip
    rw [List.map_take]
theorem full_no {L : RkL} {most : Nat} {k : Int × Int} (h : ¬ L.length = most) : fullR most L k = false := by unfold fullR; rw [decide_eq_false h]; rfl
theorem full_1 {L : RkL} {most : Nat} {k : Int × Int} {y : (Int × Int) × BegE} (h : L.length = most) (hy : L[most - 1]? = some y) : fullR most L k = !ltK k y.1 := by unfold fullR; rw [decide_eq_true h, hy]; rfl
theorem pos_lt {L : RkL} {k : Int × Int} {y : (Int × Int) × BegE} {i : Nat} (h0 : 0 < i) (hy : L[i - 1]? = some y) (h : ltK k y.1 = true) : posR L k i = posR L k (i - 1) := by
  obtain ⟨j, rfl⟩ : ∃ j, i = j + 1 := ⟨i - 1, by omega⟩
  simp only [Nat.add_sub_cancel] at hy ⊢
  rw [posR, hy]; simp [h]
theorem pos_ge {L : RkL} {k : Int × Int} {y : (Int × Int) × BegE} {i : Nat} (h0 : 0 < i) (hy : L[i - 1]? = some y) (h : ltK k y.1 = false) : posR L k i = i := by
  obtain ⟨j, rfl⟩ : ∃ j, i = j + 1 := ⟨i - 1, by omega⟩
  simp only [Nat.add_sub_cancel] at hy ⊢
  rw [posR, hy]; simp [h]
theorem put_full {L : RkL} {most : Nat} {x : (Int × Int) × BegE} (h : fullR most L x.1 = true) : putR most L x = L := by unfold putR; rw [if_pos h]
theorem put_in {L : RkL} {most i : Nat} {x : (Int × Int) × BegE} (h : fullR most L x.1 = false) (hi : posR L x.1 L.length = i) : putR most L x = (insAt L i x).take most := by
  unfold putR insR; rw [if_neg (by rw [h]; decide), hi]
theorem ins_len {L : RkL} {i : Nat} {x : (Int × Int) × BegE} (hi : i ≤ L.length) : (insAt L i x).length = L.length + 1 := by
  unfold insAt; simp; omega
theorem ins_mem {L : RkL} {i : Nat} {x y : (Int × Int) × BegE} (h : y ∈ insAt L i x) : y = x ∨ y ∈ L := by
  unfold insAt at h
  rw [List.mem_append, List.mem_cons] at h
  rcases h with h | h | h
  · exact .inr (List.mem_of_mem_take h)
  · exact .inl h
  · exact .inr (List.mem_of_mem_drop h)
/-- the key of an entry, in memory -/
theorem key_ints {W : World} {B g n c i : Nat} {L : RkL} {y : (Int × Int) × BegE} (h : OwnR W B 92 2 (.slice (some ⟨g, 0, none⟩) n c) n (keysV L)) (hn : L.length = n) (hy : L[i]? = some y) : Ints W (some ⟨g, i * 2, none⟩) 2 [y.1.1, y.1.2] := by
  have hi : i < L.length := (List.getElem?_eq_some_iff.1 hy).1
  have hO := h.ownP (val := fun j => (keysV L)[j]?.getD undef) (fun j u hu => by rw [hu]; rfl)
  obtain ⟨k1, k2⟩ := keys_get L i y hy
  have c1 := hO.cell (k := i * 2) (by omega)
  have c2 := hO.cell (k := i * 2 + 1) (by omega)
  simp only [k1, k2, Option.getD_some] at c1 c2
  refine ⟨rfl, by decide, fun j hj => ⟨_, rfl, hO.lt, ?_⟩⟩
  rw [add_lit]
  match j, hj with
  | 0, _ => exact c1
  | 1, _ => exact c2
/-- behind the putting in -/
theorem RkAt.ins {w W : World} {rb B most i : Nat} {kv lv kv2 lv2 : Value} {L : RkL} {x : (Int × Int) × BegE} (h : RkAt w rb B most kv lv L) (hi : i ≤ L.length) (hx : BegAt w B x.2.a x.2.c x.2.xs) (hxO : ∀ ad, x.2.a = some ad → ¬ RkO rb kv lv ad.block)
    (o : Only (RkO rb kv lv) w W) (hk : OwnR W B 92 2 kv2 (L.length + 1) (keysV (insAt L i x))) (hl : OwnR W B 34 1 lv2 (L.length + 1) (begsV (insAt L i x))) (hk2 : kv2.ownBlock = kv.ownBlock ∨ ∃ y, kv2.ownBlock = some y ∧ w.heap.size ≤ y) (hl2 : lv2.ownBlock = lv.ownBlock ∨ ∃ y, lv2.ownBlock = some y ∧ w.heap.size ≤ y)
    (hkl : ∀ y, kv2.ownBlock = some y → lv2.ownBlock ≠ some y) (ho : OwnP W rb 3 (VL [.int .i64 most, kv2, lv2])) :
    RkAt W rb B most kv2 lv2 (insAt L i x) ∧ (∀ b, RkO rb kv2 lv2 b → RkO rb kv lv b ∨ w.heap.size ≤ b) := by
  have hb : ∀ y ∈ insAt L i x, ∀ ad, y.2.a = some ad → ¬ RkO rb kv lv ad.block ∧ ad.block < w.heap.size := by
    intro y hy ad e
    rcases ins_mem hy with rfl | hy
    · exact ⟨hxO ad e, (hx.ge ad e).2⟩
    · obtain ⟨k1, k2⟩ := h.kb y hy ad e
      have := (h.b y hy).ge ad e
      have hr := h.rB
      exact ⟨by rintro (e | e | e) <;> first | omega | exact k1 e | exact k2 e, this.2⟩
  refine ⟨⟨ho, by rw [ins_len hi]; exact hk, by rw [ins_len hi]; exact hl, fun y hy => ?_, hkl, fun y hy ad e => ?_, h.rB, Nat.le_trans h.BW o.size⟩, ?_⟩
  · have hy0 : BegAt w B y.2.a y.2.c y.2.xs := by
      rcases ins_mem hy with rfl | hy
      · exact hx
      · exact h.b y hy
    exact hy0.only o (fun ad e => (hb y hy ad e).1)
  · obtain ⟨k1, k2⟩ := hb y hy ad e
    constructor
    · intro k
      rcases hk2 with e2 | ⟨z, e2, hz⟩
      · exact k1 (.inr (.inl (e2 ▸ k)))
      · rw [e2] at k; injection k with k; omega
    · intro k
      rcases hl2 with e2 | ⟨z, e2, hz⟩
      · exact k1 (.inr (.inr (e2 ▸ k)))
      · rw [e2] at k; injection k with k; omega
  · rintro b (e | e | e)
    · exact .inl (.inl e)
    · rcases hk2 with e2 | ⟨z, e2, hz⟩
      · exact .inl (.inr (.inl (e2 ▸ e)))
      · rw [e2] at e; injection e with e; exact .inr (by omega)
    · rcases hl2 with e2 | ⟨z, e2, hz⟩
      · exact .inl (.inr (.inr (e2 ▸ e)))
      · rw [e2] at e; injection e with e; exact .inr (by omega)
/-- the first ones of them -/
theorem RkAt.take {W W' : World} {rb B most m kc lc : Nat} {ka la : Option Addr} {L : RkL} (h : RkAt W rb B most (.slice ka L.length kc) (.slice la L.length lc) L) (hm : m ≤ L.length) (h0 : 0 < m) (o : Only (fun x => x = rb) W W') (ho : OwnP W' rb 3 (VL [.int .i64 most, .slice ka m kc, .slice la m lc])) : RkAt W' rb B most (.slice ka m kc) (.slice la m lc) (L.take m) := by
  have hl : (L.take m).length = m := by rw [List.length_take]; omega
  have hr := h.rB
  have e1 : ∀ n, (Value.slice ka n kc).ownBlock = (Value.slice ka L.length kc).ownBlock := fun n => by cases ka <;> rfl
  have e2 : ∀ n, (Value.slice la n lc).ownBlock = (Value.slice la L.length lc).ownBlock := fun n => by cases la <;> rfl
  refine ⟨ho, ?_, ?_, fun x hx => (h.b x (List.mem_of_mem_take hx)).only o (fun ad e => by have := ((h.b x (List.mem_of_mem_take hx)).ge ad e).1; omega), fun x hx => ?_, fun x hx ad e => ?_, h.rB, Nat.le_trans h.BW o.size⟩
  · rw [hl, ← keys_take L m hm]
    exact (h.k.take hm h0).only o (fun b e => by have := (h.k.ge (b := b) (by rw [← e1 m]; exact e)).1; omega)
  · rw [hl]
    have : begsV (L.take m) = (begsV L).take (m * 1) := by unfold begsV; rw [Nat.mul_one, List.map_take]
    rw [this]
    exact (h.l.take hm h0).only o (fun b e => by have := (h.l.ge (b := b) (by rw [← e2 m]; exact e)).1; omega)
  · rw [e2]; exact h.kl x (by rw [← e1 m]; exact hx)
  · rw [e1, e2]; exact h.kb x (List.mem_of_mem_take hx) ad e
end
end Go.Proofs.Ytodedneanlekdaa
