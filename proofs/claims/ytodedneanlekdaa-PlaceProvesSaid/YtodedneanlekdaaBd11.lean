/- Several texts of this claim in one file. (1) Copies of rows into new memory. Nothing of the program is proved here. (2) Arguments that came in: a problem, numbers, read off their data. (3) Putting in and what is full, without addresses; what lies where behind it. Nothing of the program is proved here. (4) Contracts: full and put. (5) The first allowed plans: what a round does to them. Nothing of the program is proved here. -/
import Derived.Test.YtodedneanlekdaaBd10
import Derived.Deep.Upon
import Derived.Laws.StructEq
import Derived.DataElems
import Derived.Test.YtodedneanlekdaaChecked
import Derived.Deep.Slices
import Derived.Deep.Fields
import Derived.ChangeSame
import Derived.Lib.SmallJoins
import Derived.SizedLaws
import Derived.ProofKit
import Derived.Test.YtodedneanlekdaaBd9
namespace Go.Proofs.Ytodedneanlekdaa
set_option linter.unusedSimpArgs false
set_option linter.unusedVariables false
section
set_option linter.unusedVariables false
open Go.RowKit
/-- 'append' to an empty row of the call's own without room, of any row -/
theorem run_copyN {P : Program} {W : World} {ts ty e : TypeId} {k bytes B m c : Nat} {z : Value} {a0 sa : Option Addr} {news : List Value}
    (hu : P.underlying ts = some (.slice e)) (hinfo : (P.info? e).map (fun i => (i.zero, i.size, i.bytes)) = some (some z, k, bytes)) (hz : z.cells.size = k) (hk : 0 < k)
    (hO : OwnR W B e k (.slice a0 0 0) 0 []) (hsn : sa = none → m = 0) (hl : news.length = m * k) (hsrc : ∀ ad, sa = some ad → ∀ j u, news[j]? = some u → W.cell? (ad.add j) = some u) (h1 : (news.all fun u => u.oneCell') = true)
    (hmax : m ≤ 1000000) (hbt : bytes ≤ 1000) (hB : B ≤ W.heap.size) :
    ∃ a' c' W', (Builtin.append_ #[ts, ts] ty #[.slice a0 0 0, .slice sa m c]).run P W = .ok (.slice a' m c') W' ∧ OwnR W' B e k (.slice a' m c') m news ∧ Gr W W' := by
  obtain ⟨i0, hi, hz0, hsz, hby⟩ := info_parts hinfo
  by_cases h0 : m = 0
  · subst h0
    have hn0 : news = [] := List.eq_nil_of_length_eq_zero (by omega)
    subst hn0
    have hs : Src P i0.size ts (.slice sa 0 c) 0 [] W := by
      refine ⟨.inl ⟨e, hu⟩, fun w' => ?_, ?_, ?_, by simp, fun u hu => by simp at hu⟩
      · simp [Builtin.lenOf]
      · cases sa <;> simp [Builtin.firstCells, loadCells, loadCellsFrom]
      · cases sa <;> simp [Builtin.firstCells, loadCells, loadCellsFrom]
    exact ⟨a0, 0, W, run_append_nothing W ts ts ty e i0 hu hi a0 0 0 (Nat.le_refl _) _ hs, hO, Gr.refl _⟩
  · cases sa with
    | none => exact absurd (hsn rfl) h0
    | some ad =>
      have hb : m * bytes ≤ 140737488355328 := by
        have := Nat.mul_le_mul hmax hbt
        omega
      have hs := Src.ofSlice W (size := i0.size) hu ad m c news (by rw [hsz]; exact hl) (hsrc ad rfl) (fun u hu => List.all_eq_true.1 h1 u hu)
      have hold : (Builtin.firstCells i0.size 0 (.slice a0 0 0)).run P W.drew = .ok ([] : List Value).toArray W.drew := by
        cases a0 <;> simp [Builtin.firstCells, loadCells, loadCellsFrom]
      have hr := run_append_grow_src W ts ts ty e i0 z hu hi hz0 a0 0 0 [] hold (.slice (some ad) m c) m news hs (by omega) (by omega) (by rw [hby]; exact growslice_fits (by omega) (by simpa using hb))
      have hge := grownCap_ge W (0 + m) 0 e
      have hle := grownCap_le_maxLen W (0 + m) 0 e (by unfold maxLen; omega)
      rw [Nat.zero_add] at hr hge hle
      refine ⟨_, _, _, hr, ⟨hl, .inr ⟨W.heap.size, _, _, rfl, hB, heap_alloc_new W.drew _, hge, hle, ?_, ?_⟩⟩, (Gr.drew W).trans (Gr.alloc _ _)⟩
      · simp [size_zeroCells, hz, hl]
        rw [← Nat.add_mul]
        congr 1
        omega
      · simp [hl]
/-- the cells of a row of structures, one behind the other -/
def tbL (V : Nat → Nat → Value) (n k : Nat) : List Value := (List.range (n * k)).map fun j => V (j / k) (j % k)
theorem tbL_len {V : Nat → Nat → Value} {n k : Nat} : (tbL V n k).length = n * k := by simp [tbL]
theorem tbL_get {V : Nat → Nat → Value} {n k j : Nat} {u : Value} (h : (tbL V n k)[j]? = some u) : j < n * k ∧ u = V (j / k) (j % k) := by
  have hj : j < n * k := by have := (List.getElem?_eq_some_iff.1 h).1; rwa [tbL_len] at this
  simp [tbL, hj] at h
  exact ⟨hj, h.symm⟩
theorem tbL_at {V : Nat → Nat → Value} {n k q r : Nat} (hq : q < n) (hr : r < k) : (tbL V n k)[q * k + r]? = some (V q r) := by
  have hlt : q * k + r < n * k := by
    have := Nat.mul_le_mul_right k (show q + 1 ≤ n from hq)
    rw [Nat.add_mul] at this; omega
  have hk : 0 < k := by omega
  simp [tbL, hlt]
  have e1 : (k * q + r) / k = q := by rw [Nat.mul_add_div hk, Nat.div_eq_of_lt hr]; rfl
  have e2 : (k * q + r) % k = r := by rw [Nat.mul_add_mod, Nat.mod_eq_of_lt hr]
  rw [Nat.mul_comm q k, e1]
  first | rw [e2] | rw [Nat.mod_eq_of_lt hr]
theorem TbAt.src {W : World} {k : Nat} {sa : Option Addr} {n c : Nat} {V : Nat → Nat → Value} (h : TbAt W k sa n c V) (hk : 0 < k) : ∀ ad, sa = some ad → ∀ j u, (tbL V n k)[j]? = some u → W.cell? (ad.add j) = some u := by
  intro ad e j u hu
  obtain ⟨hj, rfl⟩ := tbL_get hu
  have hq : j / k < n := (Nat.div_lt_iff_lt_mul hk).2 hj
  obtain ⟨ad', e', _, hc⟩ := h.at hq
  rw [e] at e'
  injection e' with e'
  subst e'
  have := hc (j % k) (Nat.mod_lt _ hk)
  rw [Addr.add_add, show j / k * k + j % k = j by rw [Nat.mul_comm]; exact Nat.div_add_mod j k] at this
  exact this
theorem TbAt.none0 {W : World} {k : Nat} {sa : Option Addr} {n c : Nat} {V : Nat → Nat → Value} (h : TbAt W k sa n c V) : sa = none → n = 0 := fun e => by
  refine Classical.byContradiction fun h0 => ?_
  obtain ⟨ad, e2, _⟩ := h.at (j := 0) (by omega)
  rw [e] at e2; cases e2
/-- a row of the call's own, as a table -/
theorem OwnR.tb {W : World} {B e k n c : Nat} {a : Option Addr} {V : Nat → Nat → Value} (h : OwnR W B e k (.slice a n c) n (tbL V n k)) (hn : n * k * 8 ≤ 140737488351232) : TbAt W k a n c V := by
  rcases h.2 with ⟨h2, h3⟩ | ⟨g, cap, cur, h1, h2, h3, h4, h5, h6, h7⟩
  · injection h2 with h2 _ hc
    subst h3
    exact ⟨Nat.zero_le _, by simp, fun j hj => by omega⟩
  · injection h1 with h1 _ hc
    subst h1 hc
    refine ⟨h4, hn, fun j hj => ⟨_, rfl, (Array.getElem?_eq_some_iff.1 h3).1, fun r hr => ?_⟩⟩
    rw [addr_add0, show (⟨g, j * k, none⟩ : Addr).add r = ⟨g, j * k + r, none⟩ from Y.addr_add _ _ _]
    have hlt : j * k + r < n * k := by
      have := Nat.mul_le_mul_right k (show j + 1 ≤ n from hj)
      rw [Nat.add_mul] at this; omega
    have e8 : (cur.toList.take (n * k))[j * k + r]? = some (V j r) := by rw [h7]; exact tbL_at hj hr
    rw [List.getElem?_take_of_lt hlt] at e8
    exact cell_at h3 (by simpa using e8)
theorem tv_one (p : Pb) (n : Nat) : ((tbL (tvV p) n 4).all fun u => u.oneCell') = true := by
  rw [List.all_eq_true]; intro u hu; obtain ⟨j, _, rfl⟩ := List.mem_map.1 hu
  cases j % 4 <;> rfl
theorem hv_one (p : Pb) (n : Nat) : ((tbL (hvV p) n 6).all fun u => u.oneCell') = true := by
  rw [List.all_eq_true]; intro u hu; obtain ⟨j, _, rfl⟩ := List.mem_map.1 hu
  cases j % 6 <;> rfl
theorem bv_one (p : Pb) (n : Nat) : ((tbL (bvV p) n 3).all fun u => u.oneCell') = true := by
  rw [List.all_eq_true]; intro u hu; obtain ⟨j, _, rfl⟩ := List.mem_map.1 hu
  rfl
theorem lv_one (p : Pb) (n : Nat) : ((tbL (lvV p) n 3).all fun u => u.oneCell') = true := by
  rw [List.all_eq_true]; intro u hu; obtain ⟨j, _, rfl⟩ := List.mem_map.1 hu
  rfl
/-- a row of the call's own, as a property of a value -/
def Y.MP.row (B e k n : Nat) (xs : List Value) : Y.MP := ⟨fun v W => ∃ a c, v = .slice a n c ∧ OwnR W B e k (.slice a n c) n xs, fun _ _ _ ⟨a, c, h1, h2⟩ g => ⟨a, c, h1, h2.gr g⟩⟩
def Y.MP.row0 (B e k : Nat) : Y.MP := ⟨fun v W => ∃ a, v = .slice a 0 0 ∧ OwnR W B e k (.slice a 0 0) 0 [], fun _ _ _ ⟨a, h1, h2⟩ g => ⟨a, h1, h2.gr g⟩⟩
def Y.MP.pbv (B : Nat) (p : Pb) : Y.MP := ⟨fun v W => ∃ t0 c0 t1 c1 t2 c2 t3 c3, v = .agg #[.slice t0 p.nt c0, .slice t1 p.nh c1, .slice t2 p.nb c2, .slice t3 p.nl c3] ∧ OwnR W B 74 4 (.slice t0 p.nt c0) p.nt (tbL (tvV p) p.nt 4) ∧ OwnR W B 53 6 (.slice t1 p.nh c1) p.nh (tbL (hvV p) p.nh 6) ∧ OwnR W B 65 3 (.slice t2 p.nb c2) p.nb (tbL (bvV p) p.nb 3) ∧ OwnR W B 84 3 (.slice t3 p.nl c3) p.nl (tbL (lvV p) p.nl 3),
  fun _ _ _ ⟨t0, c0, t1, c1, t2, c2, t3, c3, h1, h2, h3, h4, h5⟩ g => ⟨t0, c0, t1, c1, t2, c2, t3, c3, h1, h2.gr g, h3.gr g, h4.gr g, h5.gr g⟩⟩
theorem ownR_new {W : World} {B b k e : Nat} (h : W.heap[b]? = some (.cells #[] e)) (hB : B ≤ b) : OwnR W B e k (.slice (some ⟨b, 0, none⟩) 0 0) 0 [] :=
  ⟨by simp, .inr ⟨b, 0, #[], rfl, hB, h, Nat.le_refl _, by unfold maxLen; omega, by simp, by simp⟩⟩
theorem ints_tb {W : World} {a : Option Addr} {n : Nat} {xs : List Int} (h : Ints W a n xs) : (∀ ad, a = some ad → ∀ j u, (xs.map (Value.int .i64))[j]? = some u → W.cell? (ad.add j) = some u) ∧ (a = none → n = 0) :=
  ⟨fun ad e => by subst e; exact h.cells, fun e => by
    subst e
    refine Classical.byContradiction fun h0 => ?_
    obtain ⟨ad, e2, _⟩ := h.at (j := 0) (by omega)
    cases e2⟩
theorem Try.bs22_0 (w : World) : (Instr.buildSlice 22 0 #[]).run Try.prog w = .ok (.slice (some ⟨w.heap.size, 0, none⟩) 0 0) (w.alloc (.cells #[] 74)) := by kernel_rfl
theorem Try.bs23_0 (w : World) : (Instr.buildSlice 23 0 #[]).run Try.prog w = .ok (.slice (some ⟨w.heap.size, 0, none⟩) 0 0) (w.alloc (.cells #[] 53)) := by kernel_rfl
theorem Try.bs24_0 (w : World) : (Instr.buildSlice 24 0 #[]).run Try.prog w = .ok (.slice (some ⟨w.heap.size, 0, none⟩) 0 0) (w.alloc (.cells #[] 65)) := by kernel_rfl
theorem Try.bs25_0 (w : World) : (Instr.buildSlice 25 0 #[]).run Try.prog w = .ok (.slice (some ⟨w.heap.size, 0, none⟩) 0 0) (w.alloc (.cells #[] 84)) := by kernel_rfl
theorem Try.bd27f (a b c d : Option Addr) (n1 c1 n2 c2 n3 c3 n4 c4 : Nat) (w : World) : (Instr.build 27 #[(0, .slice a n1 c1), (1, .slice b n2 c2), (2, .slice c n3 c3), (3, .slice d n4 c4)]).run Try.prog w = .ok (.agg #[.slice a n1 c1, .slice b n2 c2, .slice c n3 c3, .slice d n4 c4]) w := by kernel_rfl
theorem X.bs0 {ρ : Operand → Value} : (([] : List (Nat × Operand)).map fun p => (p.1, ρ p.2)) = [] := rfl
/-- far from what a statement looks at -/
def farB (p : Pb) : Bool := !(decide (p.nt ≤ 20) && decide (p.nh ≤ 20) && decide (p.nb ≤ 40) && decide (p.nl ≤ 40) && allN (fun i => decide ((p.tn i).size ≤ 100)) p.nt && allN (fun i => decide ((p.hn i).size ≤ 100)) p.nh)
section
variable {p : Pb}
theorem far_n (h : ¬ (p.nt ≤ 20 ∧ p.nh ≤ 20 ∧ p.nb ≤ 40 ∧ p.nl ≤ 40)) : farB p = true := by
  cases e : farB p with
  | true => rfl
  | false => simp [farB] at e; exact absurd ⟨e.1.1.1.1.1, e.1.1.1.1.2, e.1.1.1.2, e.1.1.2⟩ h
theorem far_t {i : Nat} (hi : i < p.nt) (h : 100 < (p.tn i).size) : farB p = true := by
  unfold farB; rw [allN_false (f := fun i => decide ((p.tn i).size ≤ 100)) hi (decide_eq_false (by omega))]; simp
theorem far_h {i : Nat} (hi : i < p.nh) (h : 100 < (p.hn i).size) : farB p = true := by
  unfold farB; rw [allN_false (f := fun i => decide ((p.hn i).size ≤ 100)) hi (decide_eq_false (by omega))]; simp
theorem far_no (h : p.nt ≤ 20 ∧ p.nh ≤ 20 ∧ p.nb ≤ 40 ∧ p.nl ≤ 40) (h1 : allN (fun i => decide ((p.tn i).size ≤ 100)) p.nt = true) (h2 : allN (fun i => decide ((p.hn i).size ≤ 100)) p.nh = true) : farB p = false := by
  unfold farB; rw [h1, h2]; simp [h]
theorem far_sz (h : farB p = false) : p.nt ≤ 20 ∧ p.nh ≤ 20 ∧ p.nb ≤ 40 ∧ p.nl ≤ 40 := by
  simp [farB] at h; exact ⟨h.1.1.1.1.1, h.1.1.1.1.2, h.1.1.1.2, h.1.1.2⟩
/-- as far, or with more plans than a statement goes through -/
def largeB (p : Pb) : Bool := farB p || (decide (chkE p = 0) && (decide (5 < p.nt) || decide (4 < p.nh)))
end
end
section
open Go.ChangeShapes Go.WideShapes Go.RowKit Go.Deep Go.Joins

/-- nothing in the datum passes the reach -/
def Wt {H : Type} (t : TypeId) (d : DataW H) : Prop := ∀ x ∈ d.weights Try.prog t, x ≤ reachBytes

theorem Wt.each {H : Type} {ts : List TypeId} {ds : List (DataW H)} (h : (DataW.weightsEach Try.prog ts ds).all (· ≤ reachBytes) = true) {j : Nat} {t : TypeId} {d : DataW H} (ht : ts[j]? = some t) (hd : ds[j]? = some d) : Wt t d := fun x hx => by
  have := List.all_eq_true.1 h _ (DataW.weights_mem_each ht hd x hx)
  simpa using this
theorem Wt.field {H : Type} {t : TypeId} {fs : Array Field} {parts : List (DataW H)} (hs : Try.prog.underlying t = some (.struct fs)) (h : Wt t (.agg parts)) {j : Nat} {ft : TypeId} {d : DataW H} (ht : (fs.toList.map (·.type))[j]? = some ft) (hd : parts[j]? = some d) : Wt ft d := fun x hx =>
  h x (by simp only [DataW.weights, hs]; exact DataW.weights_mem_each ht hd x hx)
theorem Wt.len {H : Type} {t e : TypeId} {elems spare : List (DataW H)} (hs : Try.prog.underlying t = some (.slice e)) (h : Wt t (.slice elems spare)) : (elems.length + spare.length) * Try.prog.bytesOf e ≤ reachBytes :=
  h _ (by simp only [DataW.weights, hs, List.mem_cons, true_or])

section
variable {H : Type} {enc : TypeId × Value → H} {w : World} {base : Nat} {spare : Nat → Bool} {held : Bool}

theorem cell_blk {w : World} {p : Addr} {v : Value} (h : w.cell? p = some v) : p.block < w.heap.size := by
  unfold World.cell? at h
  cases hb : w.heap[p.block]? with
  | none => rw [hb] at h; simp at h
  | some o => exact (Array.getElem?_eq_some_iff.1 hb).1

theorem Try.cells3 : Try.prog.cellsOf 3 = 1 := by kernel_rfl
theorem Try.cells9 : Try.prog.cellsOf 9 = 1 := by kernel_rfl
theorem Try.cells74 : Try.prog.cellsOf 74 = 4 := by kernel_rfl
theorem Try.cells53 : Try.prog.cellsOf 53 = 6 := by kernel_rfl
theorem Try.cells65 : Try.prog.cellsOf 65 = 3 := by kernel_rfl
theorem Try.cells84 : Try.prog.cellsOf 84 = 3 := by kernel_rfl
theorem Try.bytes74 : Try.prog.bytesOf 74 = 40 := by kernel_rfl
theorem Try.bytes53 : Try.prog.bytesOf 53 = 56 := by kernel_rfl
theorem Try.bytes65 : Try.prog.bytesOf 65 = 24 := by kernel_rfl
theorem Try.bytes84 : Try.prog.bytesOf 84 = 24 := by kernel_rfl
theorem TbAt.nil0 (w : World) (k c : Nat) (a : Option Addr) (V : Nat → Nat → Value) : TbAt w k a 0 c V := ⟨Nat.zero_le _, by simp, fun j hj => by omega⟩
theorem TbAt.congr {w : World} {k n c : Nat} {a : Option Addr} {V V' : Nat → Nat → Value} (h : TbAt w k a n c V) (e : ∀ j r, V j r = V' j r) : TbAt w k a n c V' := by
  have : V = V' := funext fun j => funext fun r => e j r
  rw [← this]; exact h
/-- choose a list -/
theorem list_of {α : Type} {P : Nat → α → Prop} (d : α) : ∀ n, (∀ j, j < n → ∃ x, P j x) → ∃ L : List α, L.length = n ∧ ∀ j, j < n → P j (L[j]?.getD d) := by
  intro n
  induction n with
  | zero => intro _; exact ⟨[], rfl, fun j hj => by omega⟩
  | succ n ih =>
    intro h
    obtain ⟨L, hl, hL⟩ := ih (fun j hj => h j (by omega))
    obtain ⟨x, hx⟩ := h n (by omega)
    refine ⟨L ++ [x], by simp [hl], fun j hj => ?_⟩
    by_cases e : j = n
    · subst e; rw [← hl]; simpa [hl] using hx
    · rw [List.getElem?_append_left (by omega)]; exact hL j (by omega)

theorem len3 {α : Type} {l : List α} (h : l.length = 3) : ∃ a b c, l = [a, b, c] := by
  match l, h with
  | [a, b, c], _ => exact ⟨a, b, c, rfl⟩
theorem len4 {α : Type} {l : List α} (h : l.length = 4) : ∃ a b c d, l = [a, b, c, d] := by
  match l, h with
  | [a, b, c, d], _ => exact ⟨a, b, c, d, rfl⟩
theorem len6 {α : Type} {l : List α} (h : l.length = 6) : ∃ a b c d e f, l = [a, b, c, d, e, f] := by
  match l, h with
  | [a, b, c, d, e, f], _ => exact ⟨a, b, c, d, e, f, rfl⟩
theorem open_s22 {fuel : Nat} {v : Value} {x : DataW H × List MemPlace} (h : DataW.trod enc Try.prog w base spare held fuel 22 [v] = some x) (hw : Wt 22 x.1) : ∃ (a : Option Addr) (n c : Nat) (L : List (ByteArray × List Int)), v = .slice a n c ∧ TbAt w 4 a n c (fun j r => if r = 0 then .string (L[j]?.getD (ByteArray.empty, [])).1 else .int .i64 ((L[j]?.getD (ByteArray.empty, [])).2[r]?.getD 0)) ∧ ∀ j, j < n → (L[j]?.getD (ByteArray.empty, [])).1.size ≤ 9223372036854775807 := by
  rcases open_slice Try.underlying22 h with ⟨hcs, _⟩ | ⟨a, len, cap, m, n, D, Pl, hcs, hb, hl, hm, hmm, hx, hi⟩
  · simp at hcs
    exact ⟨none, 0, 0, [], hcs, TbAt.nil0 _ _ _ _ _, fun j hj => by omega⟩
  · simp at hcs
    subst hcs
    have hlm : len ≤ m := by rw [hmm]; split <;> omega
    have hw1 := hw
    rw [hx] at hw1
    have hlen := hw1.len Try.underlying22
    rw [Try.bytes74] at hlen
    simp only [List.length_map, List.length_range, reachBytes] at hlen
    obtain ⟨C, hC1, hC2⟩ := list_of (P := fun j (c : ByteArray × List Int) => (c.1.size ≤ 9223372036854775807 ∧ w.cell? ((a.add (j * 4)).add 0) = some (.string c.1)) ∧ ∀ r, 0 < r → r < 4 → w.cell? ((a.add (j * 4)).add r) = some (.int .i64 (c.2[r]?.getD 0))) (ByteArray.empty, []) len (fun j hj => by
      obtain ⟨cs', hc, ht'⟩ := hi j (by omega)
      rw [Try.cells74] at hc
      obtain ⟨_, hcl, hat⟩ := World.cells?_some hc
      obtain ⟨ys, n', hn', hy, hlen', hyl, hf⟩ := DataW.trod_struct Try.underlying74 ht'
      have hyln : ys.length = 4 := by simpa using hyl
      obtain ⟨c0, c1, c2, c3, rfl⟩ := len4 hcl
      obtain ⟨y0, y1, y2, y3, rfl⟩ := len4 hyln
      have f0 := hf 0 _ rfl
      have f1 := hf 1 _ rfl
      have f2 := hf 2 _ rfl
      have f3 := hf 3 _ rfl
      simp [Try.cells3, Try.cells9] at f0 f1 f2 f3
      obtain ⟨s0, e0, _, hs0⟩ := DataW.trod_string Try.underlying9 f0
      obtain ⟨i1, e1, _⟩ := DataW.trod_int Try.underlying3 f1
      obtain ⟨i2, e2, _⟩ := DataW.trod_int Try.underlying3 f2
      obtain ⟨i3, e3, _⟩ := DataW.trod_int Try.underlying3 f3
      simp at e0 e1 e2 e3
      subst e0 e1 e2 e3
      exact ⟨(s0, [0, i1, i2, i3]), ⟨by unfold maxLen at hs0; exact hs0, hat 0 (by omega)⟩, fun r h0 hr => by
        match r, h0, hr with
        | 1, _, _ => exact hat 1 (by omega)
        | 2, _, _ => exact hat 2 (by omega)
        | 3, _, _ => exact hat 3 (by omega)⟩)
    refine ⟨some a, len, cap, C, rfl, ⟨hl, by omega, fun j hj => ?_⟩, fun j hj => (hC2 j hj).1.1⟩
    obtain ⟨⟨_, h0⟩, h1⟩ := hC2 j hj
    refine ⟨a, rfl, by have := cell_blk h0; rwa [add_block, add_block] at this, fun r hr => ?_⟩
    by_cases e : r = 0
    · subst e; exact h0
    · show _ = some (ite _ _ _)
      rw [if_neg e]; exact h1 r (by omega) hr
theorem open_s23 {fuel : Nat} {v : Value} {x : DataW H × List MemPlace} (h : DataW.trod enc Try.prog w base spare held fuel 23 [v] = some x) (hw : Wt 23 x.1) : ∃ (a : Option Addr) (n c : Nat) (L : List (ByteArray × List Int)), v = .slice a n c ∧ TbAt w 6 a n c (fun j r => if r = 0 then .string (L[j]?.getD (ByteArray.empty, [])).1 else .int .i64 ((L[j]?.getD (ByteArray.empty, [])).2[r]?.getD 0)) ∧ ∀ j, j < n → (L[j]?.getD (ByteArray.empty, [])).1.size ≤ 9223372036854775807 := by
  rcases open_slice Try.underlying23 h with ⟨hcs, _⟩ | ⟨a, len, cap, m, n, D, Pl, hcs, hb, hl, hm, hmm, hx, hi⟩
  · simp at hcs
    exact ⟨none, 0, 0, [], hcs, TbAt.nil0 _ _ _ _ _, fun j hj => by omega⟩
  · simp at hcs
    subst hcs
    have hlm : len ≤ m := by rw [hmm]; split <;> omega
    have hw1 := hw
    rw [hx] at hw1
    have hlen := hw1.len Try.underlying23
    rw [Try.bytes53] at hlen
    simp only [List.length_map, List.length_range, reachBytes] at hlen
    obtain ⟨C, hC1, hC2⟩ := list_of (P := fun j (c : ByteArray × List Int) => (c.1.size ≤ 9223372036854775807 ∧ w.cell? ((a.add (j * 6)).add 0) = some (.string c.1)) ∧ ∀ r, 0 < r → r < 6 → w.cell? ((a.add (j * 6)).add r) = some (.int .i64 (c.2[r]?.getD 0))) (ByteArray.empty, []) len (fun j hj => by
      obtain ⟨cs', hc, ht'⟩ := hi j (by omega)
      rw [Try.cells53] at hc
      obtain ⟨_, hcl, hat⟩ := World.cells?_some hc
      obtain ⟨ys, n', hn', hy, hlen', hyl, hf⟩ := DataW.trod_struct Try.underlying53 ht'
      have hyln : ys.length = 6 := by simpa using hyl
      obtain ⟨c0, c1, c2, c3, c4, c5, rfl⟩ := len6 hcl
      obtain ⟨y0, y1, y2, y3, y4, y5, rfl⟩ := len6 hyln
      have f0 := hf 0 _ rfl
      have f1 := hf 1 _ rfl
      have f2 := hf 2 _ rfl
      have f3 := hf 3 _ rfl
      have f4 := hf 4 _ rfl
      have f5 := hf 5 _ rfl
      simp [Try.cells3, Try.cells9] at f0 f1 f2 f3 f4 f5
      obtain ⟨s0, e0, _, hs0⟩ := DataW.trod_string Try.underlying9 f0
      obtain ⟨i1, e1, _⟩ := DataW.trod_int Try.underlying3 f1
      obtain ⟨i2, e2, _⟩ := DataW.trod_int Try.underlying3 f2
      obtain ⟨i3, e3, _⟩ := DataW.trod_int Try.underlying3 f3
      obtain ⟨i4, e4, _⟩ := DataW.trod_int Try.underlying3 f4
      obtain ⟨i5, e5, _⟩ := DataW.trod_int Try.underlying3 f5
      simp at e0 e1 e2 e3 e4 e5
      subst e0 e1 e2 e3 e4 e5
      exact ⟨(s0, [0, i1, i2, i3, i4, i5]), ⟨by unfold maxLen at hs0; exact hs0, hat 0 (by omega)⟩, fun r h0 hr => by
        match r, h0, hr with
        | 1, _, _ => exact hat 1 (by omega)
        | 2, _, _ => exact hat 2 (by omega)
        | 3, _, _ => exact hat 3 (by omega)
        | 4, _, _ => exact hat 4 (by omega)
        | 5, _, _ => exact hat 5 (by omega)⟩)
    refine ⟨some a, len, cap, C, rfl, ⟨hl, by omega, fun j hj => ?_⟩, fun j hj => (hC2 j hj).1.1⟩
    obtain ⟨⟨_, h0⟩, h1⟩ := hC2 j hj
    refine ⟨a, rfl, by have := cell_blk h0; rwa [add_block, add_block] at this, fun r hr => ?_⟩
    by_cases e : r = 0
    · subst e; exact h0
    · show _ = some (ite _ _ _)
      rw [if_neg e]; exact h1 r (by omega) hr
theorem open_s24 {fuel : Nat} {v : Value} {x : DataW H × List MemPlace} (h : DataW.trod enc Try.prog w base spare held fuel 24 [v] = some x) (hw : Wt 24 x.1) : ∃ (a : Option Addr) (n c : Nat) (L : List (List Int)), v = .slice a n c ∧ TbAt w 3 a n c (fun j r => .int .i64 ((L[j]?.getD [])[r]?.getD 0)) := by
  rcases open_slice Try.underlying24 h with ⟨hcs, _⟩ | ⟨a, len, cap, m, n, D, Pl, hcs, hb, hl, hm, hmm, hx, hi⟩
  · simp at hcs
    exact ⟨none, 0, 0, [], hcs, TbAt.nil0 _ _ _ _ _⟩
  · simp at hcs
    subst hcs
    have hlm : len ≤ m := by rw [hmm]; split <;> omega
    have hw1 := hw
    rw [hx] at hw1
    have hlen := hw1.len Try.underlying24
    rw [Try.bytes65] at hlen
    simp only [List.length_map, List.length_range, reachBytes] at hlen
    obtain ⟨C, hC1, hC2⟩ := list_of (P := fun j (c : List Int) => ∀ r, r < 3 → w.cell? ((a.add (j * 3)).add r) = some (.int .i64 (c[r]?.getD 0))) [] len (fun j hj => by
      obtain ⟨cs', hc, ht'⟩ := hi j (by omega)
      rw [Try.cells65] at hc
      obtain ⟨_, hcl, hat⟩ := World.cells?_some hc
      obtain ⟨ys, n', hn', hy, hlen', hyl, hf⟩ := DataW.trod_struct Try.underlying65 ht'
      have hyln : ys.length = 3 := by simpa using hyl
      obtain ⟨c0, c1, c2, rfl⟩ := len3 hcl
      obtain ⟨y0, y1, y2, rfl⟩ := len3 hyln
      have f0 := hf 0 _ rfl
      have f1 := hf 1 _ rfl
      have f2 := hf 2 _ rfl
      simp [Try.cells3, Try.cells9] at f0 f1 f2
      obtain ⟨i0, e0, _⟩ := DataW.trod_int Try.underlying3 f0
      obtain ⟨i1, e1, _⟩ := DataW.trod_int Try.underlying3 f1
      obtain ⟨i2, e2, _⟩ := DataW.trod_int Try.underlying3 f2
      simp at e0 e1 e2
      subst e0 e1 e2
      exact ⟨[i0, i1, i2], fun r hr => by
        match r, hr with
        | 0, _ => exact hat 0 (by omega)
        | 1, _ => exact hat 1 (by omega)
        | 2, _ => exact hat 2 (by omega)⟩)
    refine ⟨some a, len, cap, C, rfl, hl, by omega, fun j hj => ?_⟩
    have h1 := hC2 j hj
    exact ⟨a, rfl, by have := cell_blk (h1 0 (by decide)); rwa [add_block, add_block] at this, h1⟩
theorem open_s25 {fuel : Nat} {v : Value} {x : DataW H × List MemPlace} (h : DataW.trod enc Try.prog w base spare held fuel 25 [v] = some x) (hw : Wt 25 x.1) : ∃ (a : Option Addr) (n c : Nat) (L : List (List Int)), v = .slice a n c ∧ TbAt w 3 a n c (fun j r => .int .i64 ((L[j]?.getD [])[r]?.getD 0)) := by
  rcases open_slice Try.underlying25 h with ⟨hcs, _⟩ | ⟨a, len, cap, m, n, D, Pl, hcs, hb, hl, hm, hmm, hx, hi⟩
  · simp at hcs
    exact ⟨none, 0, 0, [], hcs, TbAt.nil0 _ _ _ _ _⟩
  · simp at hcs
    subst hcs
    have hlm : len ≤ m := by rw [hmm]; split <;> omega
    have hw1 := hw
    rw [hx] at hw1
    have hlen := hw1.len Try.underlying25
    rw [Try.bytes84] at hlen
    simp only [List.length_map, List.length_range, reachBytes] at hlen
    obtain ⟨C, hC1, hC2⟩ := list_of (P := fun j (c : List Int) => ∀ r, r < 3 → w.cell? ((a.add (j * 3)).add r) = some (.int .i64 (c[r]?.getD 0))) [] len (fun j hj => by
      obtain ⟨cs', hc, ht'⟩ := hi j (by omega)
      rw [Try.cells84] at hc
      obtain ⟨_, hcl, hat⟩ := World.cells?_some hc
      obtain ⟨ys, n', hn', hy, hlen', hyl, hf⟩ := DataW.trod_struct Try.underlying84 ht'
      have hyln : ys.length = 3 := by simpa using hyl
      obtain ⟨c0, c1, c2, rfl⟩ := len3 hcl
      obtain ⟨y0, y1, y2, rfl⟩ := len3 hyln
      have f0 := hf 0 _ rfl
      have f1 := hf 1 _ rfl
      have f2 := hf 2 _ rfl
      simp [Try.cells3, Try.cells9] at f0 f1 f2
      obtain ⟨i0, e0, _⟩ := DataW.trod_int Try.underlying3 f0
      obtain ⟨i1, e1, _⟩ := DataW.trod_int Try.underlying3 f1
      obtain ⟨i2, e2, _⟩ := DataW.trod_int Try.underlying3 f2
      simp at e0 e1 e2
      subst e0 e1 e2
      exact ⟨[i0, i1, i2], fun r hr => by
        match r, hr with
        | 0, _ => exact hat 0 (by omega)
        | 1, _ => exact hat 1 (by omega)
        | 2, _ => exact hat 2 (by omega)⟩)
    refine ⟨some a, len, cap, C, rfl, hl, by omega, fun j hj => ?_⟩
    have h1 := hC2 j hj
    exact ⟨a, rfl, by have := cell_blk (h1 0 (by decide)); rwa [add_block, add_block] at this, h1⟩
set_option maxRecDepth 100000 in
/-- a problem -/
theorem open_pb {r : Reach} {b0 : Nat} {v : Value} {d : DataW H} {p : List MemPlace} (hv : Value.okWide Try.prog w r b0 27 v) (h : DataW.Trod enc Try.prog w base spare held 27 v d p) (hw : Wt 27 d) :
    ∃ (p : Pb) (ta ha ba la : Option Addr) (tc hc bc lc : Nat), v = .agg #[.slice ta p.nt tc, .slice ha p.nh hc, .slice ba p.nb bc, .slice la p.nl lc] ∧ PbAt w p ta ha ba la tc hc bc lc := by
  obtain ⟨v0, v1, v2, v3, y0, y1, y2, y3, n, rfl, rfl, _, h0, h1, h2, h3⟩ := open_agg4 Try.underlying27 (by kernel_rfl) (by kernel_rfl) hv h
  obtain ⟨ta, nt, tc, T, rfl, hT, hs1⟩ := open_s22 h0 (hw.field Try.underlying27 (j := 0) (ft := 22) (by simp) (by simp))
  obtain ⟨ha, nh, hc, H, rfl, hH, hs2⟩ := open_s23 h1 (hw.field Try.underlying27 (j := 1) (ft := 23) (by simp) (by simp))
  obtain ⟨ba, nb, bc, B, rfl, hB⟩ := open_s24 h2 (hw.field Try.underlying27 (j := 2) (ft := 24) (by simp) (by simp))
  obtain ⟨la, nl, lc, L, rfl, hL⟩ := open_s25 h3 (hw.field Try.underlying27 (j := 3) (ft := 25) (by simp) (by simp))
  refine ⟨⟨nt, nh, nb, nl, fun j => (T[j]?.getD (ByteArray.empty, [])).1, fun j r => (T[j]?.getD (ByteArray.empty, [])).2[r]?.getD 0, fun j => (H[j]?.getD (ByteArray.empty, [])).1, fun j r => (H[j]?.getD (ByteArray.empty, [])).2[r]?.getD 0, fun j r => (B[j]?.getD [])[r]?.getD 0, fun j r => (L[j]?.getD [])[r]?.getD 0⟩, ta, ha, ba, la, tc, hc, bc, lc, rfl, ⟨hT.congr ?_, hH.congr ?_, hB, hL, hs1, hs2⟩⟩
  · intro j r; cases r <;> rfl
  · intro j r; cases r <;> rfl
end
end
section
set_option linter.unusedVariables false
open Go.RowKit
def strip (L : RkL) : List ((Int × Int) × List Int) := L.map fun x => (x.1, x.2.xs)
theorem strip_len (L : RkL) : (strip L).length = L.length := by simp [strip]
theorem strip_get (L : RkL) (i : Nat) : (strip L)[i]? = (L[i]?).map fun x => (x.1, x.2.xs) := by simp [strip]
theorem strip_full (L : RkL) (most : Nat) (k : Int × Int) : fullR most (strip L) k = fullR most L k := by
  unfold fullR
  rw [strip_len, strip_get]
  cases L[most - 1]? <;> rfl
theorem strip_pos (L : RkL) (k : Int × Int) : ∀ n, posR (strip L) k n = posR L k n := by
  intro n
  induction n with
  | zero => rfl
  | succ n ih =>
    unfold posR
    rw [strip_get]
    cases L[n]? with
    | none => rfl
    | some y => simp only [Option.map_some, ih]
theorem strip_ins (L : RkL) (i : Nat) (x : (Int × Int) × BegE) : strip (insAt L i x) = insAt (strip L) i (x.1, x.2.xs) := by
  unfold insAt strip
  simp [List.map_take, List.map_drop]
theorem strip_put (L : RkL) (most : Nat) (x : (Int × Int) × BegE) : strip (putR most L x) = putR most (strip L) (x.1, x.2.xs) := by
  unfold putR
  rw [strip_full]
  split
  · rfl
  · unfold insR
    rw [strip_len, strip_pos, ← strip_ins]
    unfold strip
    rw [List.map_take]
theorem full_no {L : RkL} {most : Nat} {k : Int × Int} (h : ¬ L.length = most) : fullR most L k = false := by unfold fullR; rw [decide_eq_false h]; rfl
theorem full_1 {L : RkL} {most : Nat} {k : Int × Int} {y : (Int × Int) × BegE} (h : L.length = most) (hy : L[most - 1]? = some y) : fullR most L k = !ltK k y.1 := by unfold fullR; rw [decide_eq_true h, hy]; rfl
theorem pos_lt {L : RkL} {k : Int × Int} {y : (Int × Int) × BegE} {i : Nat} (h0 : 0 < i) (hy : L[i - 1]? = some y) (h : ltK k y.1 = true) : posR L k i = posR L k (i - 1) := by
  obtain ⟨j, rfl⟩ : ∃ j, i = j + 1 := ⟨i - 1, by omega⟩
  simp only [Nat.add_sub_cancel] at hy ⊢
  rw [posR, hy]; simp [h]
theorem pos_ge {L : RkL} {k : Int × Int} {y : (Int × Int) × BegE} {i : Nat} (h0 : 0 < i) (hy : L[i - 1]? = some y) (h : ltK k y.1 = false) : posR L k i = i := by
  obtain ⟨j, rfl⟩ : ∃ j, i = j + 1 := ⟨i - 1, by omega⟩
  simp only [Nat.add_sub_cancel] at hy ⊢
  rw [posR, hy]; simp [h]
theorem put_full {L : RkL} {most : Nat} {x : (Int × Int) × BegE} (h : fullR most L x.1 = true) : putR most L x = L := by unfold putR; rw [if_pos h]
theorem put_in {L : RkL} {most i : Nat} {x : (Int × Int) × BegE} (h : fullR most L x.1 = false) (hi : posR L x.1 L.length = i) : putR most L x = (insAt L i x).take most := by
  unfold putR insR; rw [if_neg (by rw [h]; decide), hi]
theorem ins_len {L : RkL} {i : Nat} {x : (Int × Int) × BegE} (hi : i ≤ L.length) : (insAt L i x).length = L.length + 1 := by
  unfold insAt; simp; omega
theorem ins_mem {L : RkL} {i : Nat} {x y : (Int × Int) × BegE} (h : y ∈ insAt L i x) : y = x ∨ y ∈ L := by
  unfold insAt at h
  rw [List.mem_append, List.mem_cons] at h
  rcases h with h | h | h
  · exact .inr (List.mem_of_mem_take h)
  · exact .inl h
  · exact .inr (List.mem_of_mem_drop h)
/-- the key of an entry, in memory -/
theorem key_ints {W : World} {B g n c i : Nat} {L : RkL} {y : (Int × Int) × BegE} (h : OwnR W B 92 2 (.slice (some ⟨g, 0, none⟩) n c) n (keysV L)) (hn : L.length = n) (hy : L[i]? = some y) : Ints W (some ⟨g, i * 2, none⟩) 2 [y.1.1, y.1.2] := by
  have hi : i < L.length := (List.getElem?_eq_some_iff.1 hy).1
  have hO := h.ownP (val := fun j => (keysV L)[j]?.getD undef) (fun j u hu => by rw [hu]; rfl)
  obtain ⟨k1, k2⟩ := keys_get L i y hy
  have c1 := hO.cell (k := i * 2) (by omega)
  have c2 := hO.cell (k := i * 2 + 1) (by omega)
  simp only [k1, k2, Option.getD_some] at c1 c2
  refine ⟨rfl, by decide, fun j hj => ⟨_, rfl, hO.lt, ?_⟩⟩
  rw [add_lit]
  match j, hj with
  | 0, _ => exact c1
  | 1, _ => exact c2
/-- behind the putting in -/
theorem RkAt.ins {w W : World} {rb B most i : Nat} {kv lv kv2 lv2 : Value} {L : RkL} {x : (Int × Int) × BegE} (h : RkAt w rb B most kv lv L) (hi : i ≤ L.length) (hx : BegAt w B x.2.a x.2.c x.2.xs) (hxO : ∀ ad, x.2.a = some ad → ¬ RkO rb kv lv ad.block)
    (o : Only (RkO rb kv lv) w W) (hk : OwnR W B 92 2 kv2 (L.length + 1) (keysV (insAt L i x))) (hl : OwnR W B 34 1 lv2 (L.length + 1) (begsV (insAt L i x))) (hk2 : kv2.ownBlock = kv.ownBlock ∨ ∃ y, kv2.ownBlock = some y ∧ w.heap.size ≤ y) (hl2 : lv2.ownBlock = lv.ownBlock ∨ ∃ y, lv2.ownBlock = some y ∧ w.heap.size ≤ y)
    (hkl : ∀ y, kv2.ownBlock = some y → lv2.ownBlock ≠ some y) (ho : OwnP W rb 3 (VL [.int .i64 most, kv2, lv2])) :
    RkAt W rb B most kv2 lv2 (insAt L i x) ∧ (∀ b, RkO rb kv2 lv2 b → RkO rb kv lv b ∨ w.heap.size ≤ b) := by
  have hb : ∀ y ∈ insAt L i x, ∀ ad, y.2.a = some ad → ¬ RkO rb kv lv ad.block ∧ ad.block < w.heap.size := by
    intro y hy ad e
    rcases ins_mem hy with rfl | hy
    · exact ⟨hxO ad e, (hx.ge ad e).2⟩
    · obtain ⟨k1, k2⟩ := h.kb y hy ad e
      have := (h.b y hy).ge ad e
      have hr := h.rB
      exact ⟨by rintro (e | e | e) <;> first | omega | exact k1 e | exact k2 e, this.2⟩
  refine ⟨⟨ho, by rw [ins_len hi]; exact hk, by rw [ins_len hi]; exact hl, fun y hy => ?_, hkl, fun y hy ad e => ?_, h.rB, Nat.le_trans h.BW o.size⟩, ?_⟩
  · have hy0 : BegAt w B y.2.a y.2.c y.2.xs := by
      rcases ins_mem hy with rfl | hy
      · exact hx
      · exact h.b y hy
    exact hy0.only o (fun ad e => (hb y hy ad e).1)
  · obtain ⟨k1, k2⟩ := hb y hy ad e
    constructor
    · intro k
      rcases hk2 with e2 | ⟨z, e2, hz⟩
      · exact k1 (.inr (.inl (e2 ▸ k)))
      · rw [e2] at k; injection k with k; omega
    · intro k
      rcases hl2 with e2 | ⟨z, e2, hz⟩
      · exact k1 (.inr (.inr (e2 ▸ k)))
      · rw [e2] at k; injection k with k; omega
  · rintro b (e | e | e)
    · exact .inl (.inl e)
    · rcases hk2 with e2 | ⟨z, e2, hz⟩
      · exact .inl (.inr (.inl (e2 ▸ e)))
      · rw [e2] at e; injection e with e; exact .inr (by omega)
    · rcases hl2 with e2 | ⟨z, e2, hz⟩
      · exact .inl (.inr (.inr (e2 ▸ e)))
      · rw [e2] at e; injection e with e; exact .inr (by omega)
/-- the first ones of them -/
theorem RkAt.take {W W' : World} {rb B most m kc lc : Nat} {ka la : Option Addr} {L : RkL} (h : RkAt W rb B most (.slice ka L.length kc) (.slice la L.length lc) L) (hm : m ≤ L.length) (h0 : 0 < m) (o : Only (fun x => x = rb) W W') (ho : OwnP W' rb 3 (VL [.int .i64 most, .slice ka m kc, .slice la m lc])) : RkAt W' rb B most (.slice ka m kc) (.slice la m lc) (L.take m) := by
  have hl : (L.take m).length = m := by rw [List.length_take]; omega
  have hr := h.rB
  have e1 : ∀ n, (Value.slice ka n kc).ownBlock = (Value.slice ka L.length kc).ownBlock := fun n => by cases ka <;> rfl
  have e2 : ∀ n, (Value.slice la n lc).ownBlock = (Value.slice la L.length lc).ownBlock := fun n => by cases la <;> rfl
  refine ⟨ho, ?_, ?_, fun x hx => (h.b x (List.mem_of_mem_take hx)).only o (fun ad e => by have := ((h.b x (List.mem_of_mem_take hx)).ge ad e).1; omega), fun x hx => ?_, fun x hx ad e => ?_, h.rB, Nat.le_trans h.BW o.size⟩
  · rw [hl, ← keys_take L m hm]
    exact (h.k.take hm h0).only o (fun b e => by have := (h.k.ge (b := b) (by rw [← e1 m]; exact e)).1; omega)
  · rw [hl]
    have : begsV (L.take m) = (begsV L).take (m * 1) := by unfold begsV; rw [Nat.mul_one, List.map_take]
    rw [this]
    exact (h.l.take hm h0).only o (fun b e => by have := (h.l.ge (b := b) (by rw [← e2 m]; exact e)).1; omega)
  · rw [e2]; exact h.kl x (by rw [← e1 m]; exact hx)
  · rw [e1, e2]; exact h.kb x (List.mem_of_mem_take hx) ad e
end
section
open Go.RowKit

theorem Try.bs89 (x y : Int) (w : World) : (Instr.buildSlice 89 1 #[(0, .agg #[.int .i64 x, .int .i64 y])]).run Try.prog w = .ok (.slice (some ⟨w.heap.size, 0, none⟩) 1 1) (w.alloc (.cells #[.int .i64 x, .int .i64 y] 92)) := by kernel_rfl
theorem Try.bs38 (a : Option Addr) (n c : Nat) (w : World) : (Instr.buildSlice 38 1 #[(0, .slice a n c)]).run Try.prog w = .ok (.slice (some ⟨w.heap.size, 0, none⟩) 1 1) (w.alloc (.cells #[.slice a n c] 34)) := by kernel_rfl
theorem RkO.len {rb b n m n2 m2 c c2 : Nat} {a a2 : Option Addr} (h : RkO rb (.slice a n c) (.slice a2 n2 c2) b) : RkO rb (.slice a m c) (.slice a2 m2 c2) b := by
  cases a <;> cases a2 <;> exact h
theorem OwnR.le {w : World} {B e k n c : Nat} {a : Option Addr} {xs : List Value} (h : OwnR w B e k (.slice a n c) n xs) : n ≤ c := by
  rcases h.2 with ⟨e, h1⟩ | ⟨g, cap, cur, e, h1, h2, h3, _⟩
  · omega
  · injection e with _ _ e; omega
set_option maxRecDepth 100000 in
set_option maxHeartbeats 1000000 in
theorem full_any (rb B most : Nat) (ka la : Option Addr) (kc lc : Nat) (k0 k1 : Int) (L : RkL) (w : World) (hR0 : RkAt w rb B most (.slice ka L.length kc) (.slice la L.length lc) L) (hm : 1 ≤ most ∧ most ≤ 100000) (hn : L.length ≤ 100000) :
  Calls Try.prog 99 #[Vp rb, .agg #[Vi k0, Vi k1]] w fun e w' => e = .returned (.bool (fullR most L (k0, k1))) ∧ Gr w w' := by
 have G := Gr.refl w
 have hRk := hR0
 have hm0 := hm.1
 have hm1 := hm.2
 refine Y.calls 31 Try.func99 rfl rfl ?_
 intro ac F0
 have F : Fr ac 31 [(0, Vp rb), (1, .agg #[Vi k0, Vi k1])] := F0.sub _
 clear F0
 refine Y.sl ?_
 have hgs3 : w.heap.size ≤ w.heap.size := G.size
 refine Y.pv F (X.box rfl (F.ev 1 (.agg #[Vi k0, Vi k1])) X.bx) ?_;clear F ac;intro ac F
 have hgs5 : w.heap.size ≤ w.heap.size := G.size
 obtain ⟨w6, hw_, g, hb, hbl, hC2⟩ := Y.bxd (RCells.nil w) #[Vi k0, Vi k1] 92;rw [hw_];clear hw_
 replace G := G.trans g
 have hC := hC2
 clear hC2
 replace hRk := hRk.gr g
 have hsz4 := hbl
 clear g hb hbl
 refine Y.pv F (X.assign rfl (X.kc (.bool false) rfl)) ?_;clear F ac;intro ac F
 refine Y.nt F [(0, Vp rb), (3, Vp w.heap.size)] ?_;clear F ac;intro ac F
 refine Y.seq ?_
 replace hC := hC.append (show RCells w6 (bcells rb [Vi most, .slice ka L.length kc, .slice la L.length lc] 0) from (RCells.cons (hRk.own.cell (k := 0) (by decide)) (RCells.cons (hRk.own.cell (k := 1) (by decide)) (RCells.cons (hRk.own.cell (k := 2) (by decide)) (RCells.nil _)))))
 cases h7 : ((L.length : Int) == most) with
 | false =>
  try rw [h7] at F
  have h7p : ¬ (L.length : Int) = most := by simpa using h7
  refine Y.region F [some (Vp rb), some (Vp rb), some (.pointer (some ⟨rb, 2, none⟩)), some (.slice la L.length lc), some (Vi L.length), some (Vp rb), some (Vp rb), some (Vp rb), some (Vi most), some (.bool false), some (.bool false), none, none, none, none, none, none, none, none, none, none, none, none, none, none, some (.bool false), some (.bool false)] [] rfl ⟨by kernel_rfl, of_decide_eq_true (by kernel_rfl), by kernel_rfl, by kernel_rfl, by kernel_rfl⟩ ⟨?_, ?_, ?_, ?_, ?_, ?_, ?_, ?_, ?_, ?_, ?_, ?_, ?_, ?_, ?_, ?_, ?_, ?_, ?_, ?_, ?_, ?_, ?_, ?_, ?_, ?_, ?_, trivial⟩ ?_
  ·intro ac done u W Sx hR
   exact X.vl (X.move rfl (Sx.ev 0 (Vp rb))) hR.st0
  ·intro ac done u W Sx hR
   exact X.vl (Y.nilC rfl (Sx.ev 5 (Vp rb))) hR.st0
  ·intro ac done u W Sx hR
   exact X.vl (X.field rfl (Sx.ev 6 (Vp rb)) (X.fld Try.underlying91 rfl (Try.siz38 _) rfl rfl)) hR.st0
  ·intro ac done u W Sx hR
   have g : Gr w6 W := hR.1
   exact X.vl (X.load rfl (Sx.ev 7 (.pointer (some ⟨rb, 2, none⟩))) (X.ld1 (Try.agg38 _) ((hC.gr g).at 4 rfl))) hR.st0
  ·intro ac done u W Sx hR
   exact X.vl (X.len1 Try.underlying38 rfl (Sx.ev 8 (.slice la L.length lc))) hR.st0
  ·intro ac done u W Sx hR
   exact X.vl (X.move rfl (Sx.ev 0 (Vp rb))) hR.st0
  ·intro ac done u W Sx hR
   exact X.vl (Y.nilC rfl (Sx.ev 10 (Vp rb))) hR.st0
  ·intro ac done u W Sx hR
   exact X.vl (X.field rfl (Sx.ev 11 (Vp rb)) (X.fld Try.underlying91 rfl (Try.siz3 _) rfl rfl)) hR.st0
  ·intro ac done u W Sx hR
   have g : Gr w6 W := hR.1
   exact X.vl (X.load rfl (Sx.ev 12 (Vp rb)) (X.ld1 (Try.agg3 _) ((hC.gr g).at 2 rfl))) hR.st0
  ·intro ac done u W Sx hR
   exact X.vl (X.binop rfl (Sx.ev 9 (Vi L.length)) (Sx.ev 13 (Vi most)) (X.eqlI Try.underlying3 h7)) hR.st0
  ·intro ac done u W Sx hR
   exact X.vl (X.move rfl (Sx.ev 14 (.bool false))) hR.st0
  ·intro ac done u W Sx hR
   exact X.skip (X.w2 rfl (Sx.yl 10 15 false (by kernel_rfl) rfl rfl) rfl) rfl (hR.skip rfl)
  ·intro ac done u W Sx hR
   exact X.skip (X.w2 rfl (Sx.yl 10 15 false (by kernel_rfl) rfl rfl) rfl) rfl (hR.skip rfl)
  ·intro ac done u W Sx hR
   exact X.skip (X.w2 rfl (Sx.yl 10 15 false (by kernel_rfl) rfl rfl) rfl) rfl (hR.skip rfl)
  ·intro ac done u W Sx hR
   exact X.skip (X.w2 rfl (Sx.yl 10 15 false (by kernel_rfl) rfl rfl) rfl) rfl (hR.skip rfl)
  ·intro ac done u W Sx hR
   exact X.skip (X.w2 rfl (Sx.yl 10 15 false (by kernel_rfl) rfl rfl) rfl) rfl (hR.skip rfl)
  ·intro ac done u W Sx hR
   exact X.skip (X.w2 rfl (Sx.yl 10 15 false (by kernel_rfl) rfl rfl) rfl) rfl (hR.skip rfl)
  ·intro ac done u W Sx hR
   exact X.skip (X.w2 rfl (Sx.yl 10 15 false (by kernel_rfl) rfl rfl) rfl) rfl (hR.skip rfl)
  ·intro ac done u W Sx hR
   exact X.skip (X.w2 rfl (Sx.yl 10 15 false (by kernel_rfl) rfl rfl) rfl) rfl (hR.skip rfl)
  ·intro ac done u W Sx hR
   exact X.skip (X.w2 rfl (Sx.yl 10 15 false (by kernel_rfl) rfl rfl) rfl) rfl (hR.skip rfl)
  ·intro ac done u W Sx hR
   exact X.skip (X.w2 rfl (Sx.yl 10 15 false (by kernel_rfl) rfl rfl) rfl) rfl (hR.skip rfl)
  ·intro ac done u W Sx hR
   exact X.skip (X.w2 rfl (Sx.yl 10 15 false (by kernel_rfl) rfl rfl) rfl) rfl (hR.skip rfl)
  ·intro ac done u W Sx hR
   exact X.skip (X.w2 rfl (Sx.yl 10 15 false (by kernel_rfl) rfl rfl) rfl) rfl (hR.skip rfl)
  ·intro ac done u W Sx hR
   exact X.skip (X.w2 rfl (Sx.yl 10 15 false (by kernel_rfl) rfl rfl) rfl) rfl (hR.skip rfl)
  ·intro ac done u W Sx hR
   exact X.skip (X.w2 rfl (Sx.yl 10 15 false (by kernel_rfl) rfl rfl) rfl) rfl (hR.skip rfl)
  ·intro ac done u W Sx hR
   exact X.vl (X.pickF rfl (Sx.ev 15 (.bool false)) (X.kc (.bool false) rfl)) hR.st0
  ·intro ac done u W Sx hR
   exact X.vl (X.assign rfl (Sx.ev 30 (.bool false))) hR.st0
  intro ac u w8 hs hd hl ho hR
  have g : Gr w6 w8 := hR.1
  replace F : Fr ac 31 [(4, .bool false)] := X.fr hs hd hl _ (by kernel_rfl)
  clear hs hd hl ho hR
  replace G := G.trans g
  replace hC := hC.gr g
  replace hRk := hRk.gr g
  clear g
  refine X.thenN ?_
  refine Y.ret ?_
  exact Y.ret0 (v := .bool false) F (Y.r1 F) ⟨by rw [full_no (by omega)], G⟩
 | true =>
  try rw [h7] at F
  have h7p : (L.length : Int) = most := by simpa using h7
  obtain ⟨y, hy⟩ : ∃ y, L[most - 1]? = some y := ⟨_, List.getElem?_eq_getElem (by omega)⟩
  obtain ⟨g9, Lr, rfl, -⟩ := hRk.k.row (by omega)
  refine Y.region F [some (Vp rb), some (Vp rb), some (.pointer (some ⟨rb, 2, none⟩)), some (.slice la L.length lc), some (Vi L.length), some (Vp rb), some (Vp rb), some (Vp rb), some (Vi most), some (.bool true), some (.bool true), some (.slice (some ⟨w.heap.size, 0, none⟩) 2 2), some (Vp rb), some (Vp rb), some (.pointer (some ⟨rb, 1, none⟩)), some (.slice (some ⟨g9, 0, none⟩) L.length kc), some (Vp rb), some (Vp rb), some (Vp rb), some (Vi most), some (Vi ((most : Int) - 1)), some (.pointer (some ⟨g9, (most - 1) * 2, none⟩)), some (.slice (some ⟨g9, (most - 1) * 2, none⟩) 2 2), some (Vi (cmpL [k0, k1] [y.1.1, y.1.2])), some (.bool (decide ((0 : Int) ≤ (cmpL [k0, k1] [y.1.1, y.1.2])))), some (.bool (decide ((0 : Int) ≤ (cmpL [k0, k1] [y.1.1, y.1.2])))), some (.bool (decide ((0 : Int) ≤ (cmpL [k0, k1] [y.1.1, y.1.2]))))] [] rfl ⟨by kernel_rfl, of_decide_eq_true (by kernel_rfl), by kernel_rfl, by kernel_rfl, by kernel_rfl⟩ ⟨?_, ?_, ?_, ?_, ?_, ?_, ?_, ?_, ?_, ?_, ?_, ?_, ?_, ?_, ?_, ?_, ?_, ?_, ?_, ?_, ?_, ?_, ?_, ?_, ?_, ?_, ?_, trivial⟩ ?_
  ·intro ac done u W Sx hR
   exact X.vl (X.move rfl (Sx.ev 0 (Vp rb))) hR.st0
  ·intro ac done u W Sx hR
   exact X.vl (Y.nilC rfl (Sx.ev 5 (Vp rb))) hR.st0
  ·intro ac done u W Sx hR
   exact X.vl (X.field rfl (Sx.ev 6 (Vp rb)) (X.fld Try.underlying91 rfl (Try.siz38 _) rfl rfl)) hR.st0
  ·intro ac done u W Sx hR
   have g : Gr w6 W := hR.1
   exact X.vl (X.load rfl (Sx.ev 7 (.pointer (some ⟨rb, 2, none⟩))) (X.ld1 (Try.agg38 _) ((hC.gr g).at 4 rfl))) hR.st0
  ·intro ac done u W Sx hR
   exact X.vl (X.len1 Try.underlying38 rfl (Sx.ev 8 (.slice la L.length lc))) hR.st0
  ·intro ac done u W Sx hR
   exact X.vl (X.move rfl (Sx.ev 0 (Vp rb))) hR.st0
  ·intro ac done u W Sx hR
   exact X.vl (Y.nilC rfl (Sx.ev 10 (Vp rb))) hR.st0
  ·intro ac done u W Sx hR
   exact X.vl (X.field rfl (Sx.ev 11 (Vp rb)) (X.fld Try.underlying91 rfl (Try.siz3 _) rfl rfl)) hR.st0
  ·intro ac done u W Sx hR
   have g : Gr w6 W := hR.1
   exact X.vl (X.load rfl (Sx.ev 12 (Vp rb)) (X.ld1 (Try.agg3 _) ((hC.gr g).at 2 rfl))) hR.st0
  ·intro ac done u W Sx hR
   exact X.vl (X.binop rfl (Sx.ev 9 (Vi L.length)) (Sx.ev 13 (Vi most)) (X.eqlI Try.underlying3 h7)) hR.st0
  ·intro ac done u W Sx hR
   exact X.vl (X.move rfl (Sx.ev 14 (.bool true))) hR.st0
  ·intro ac done u W Sx hR
   exact X.val (X.w1 rfl (Sx.yl 10 15 true (by kernel_rfl) rfl rfl)) rfl (Y.slAr (p := ⟨w.heap.size, 0, none⟩) rfl (Sx.ev 3 (Vp w.heap.size)) Try.underlying92 (fun W => Try.siz3 W) (by decide)) hR.st0
  ·intro ac done u W Sx hR
   exact X.val (X.w1 rfl (Sx.yl 10 15 true (by kernel_rfl) rfl rfl)) rfl (X.move rfl (Sx.ev 0 (Vp rb))) hR.st0
  ·intro ac done u W Sx hR
   exact X.val (X.w1 rfl (Sx.yl 10 15 true (by kernel_rfl) rfl rfl)) rfl (Y.nilC rfl (Sx.ev 17 (Vp rb))) hR.st0
  ·intro ac done u W Sx hR
   exact X.val (X.w1 rfl (Sx.yl 10 15 true (by kernel_rfl) rfl rfl)) rfl (X.field rfl (Sx.ev 18 (Vp rb)) (X.fld Try.underlying91 rfl (Try.siz89 _) rfl rfl)) hR.st0
  ·intro ac done u W Sx hR
   have g : Gr w6 W := hR.1
   exact X.val (X.w1 rfl (Sx.yl 10 15 true (by kernel_rfl) rfl rfl)) rfl (X.load rfl (Sx.ev 19 (.pointer (some ⟨rb, 1, none⟩))) (X.ld1 (Try.agg89 _) ((hC.gr g).at 3 rfl))) hR.st0
  ·intro ac done u W Sx hR
   exact X.val (X.w1 rfl (Sx.yl 10 15 true (by kernel_rfl) rfl rfl)) rfl (X.move rfl (Sx.ev 0 (Vp rb))) hR.st0
  ·intro ac done u W Sx hR
   exact X.val (X.w1 rfl (Sx.yl 10 15 true (by kernel_rfl) rfl rfl)) rfl (Y.nilC rfl (Sx.ev 21 (Vp rb))) hR.st0
  ·intro ac done u W Sx hR
   exact X.val (X.w1 rfl (Sx.yl 10 15 true (by kernel_rfl) rfl rfl)) rfl (X.field rfl (Sx.ev 22 (Vp rb)) (X.fld Try.underlying91 rfl (Try.siz3 _) rfl rfl)) hR.st0
  ·intro ac done u W Sx hR
   have g : Gr w6 W := hR.1
   exact X.val (X.w1 rfl (Sx.yl 10 15 true (by kernel_rfl) rfl rfl)) rfl (X.load rfl (Sx.ev 23 (Vp rb)) (X.ld1 (Try.agg3 _) ((hC.gr g).at 2 rfl))) hR.st0
  ·intro ac done u W Sx hR
   exact X.val (X.w1 rfl (Sx.yl 10 15 true (by kernel_rfl) rfl rfl)) rfl (X.binop rfl (Sx.ev 24 (Vi most)) (X.kc (Vi 1) rfl) (X.subI Try.underlying3 rfl (by omega) (by omega))) hR.st0
  ·intro ac done u W Sx hR
   exact X.val (X.w1 rfl (Sx.yl 10 15 true (by kernel_rfl) rfl rfl)) rfl (X.index rfl (Sx.ev 20 (.slice (some ⟨g9, 0, none⟩) L.length kc)) (Sx.ev 25 (Vi ((most : Int) - 1))) (X.idx (k := most - 1) Try.underlying89 (Try.siz92 _) (by omega) (by omega) (addr_add0 _ _))) hR.st0
  ·intro ac done u W Sx hR
   exact X.val (X.w1 rfl (Sx.yl 10 15 true (by kernel_rfl) rfl rfl)) rfl (Y.slAr (p := ⟨g9, (most - 1) * 2, none⟩) rfl (Sx.ev 26 (.pointer (some ⟨g9, (most - 1) * 2, none⟩))) Try.underlying92 (fun W => Try.siz3 W) (by decide)) hR.st0
  ·intro ac done u W Sx hR
   have g : Gr w6 W := hR.1
   refine X.call (X.w1 rfl (Sx.yl 10 15 true (by kernel_rfl) rfl rfl)) (X.enter (F := 90) rfl (X.kc (.func (.func 90) #[] #[]) rfl) (X.a2 (Sx.ev 16 (.slice (some ⟨w.heap.size, 0, none⟩) 2 2)) (Sx.ev 27 (.slice (some ⟨g9, (most - 1) * 2, none⟩) 2 2))) (enters_of Try.func90 (by kernel_rfl) rfl _)) (cmpL_any (some ⟨w.heap.size, 0, none⟩) (some ⟨g9, (most - 1) * 2, none⟩) 2 2 [k0, k1] [y.1.1, y.1.2] W (ints_2 ((hC.gr g).at 0 rfl) ((hC.gr g).at 1 rfl)) (key_ints ((hRk.gr g).k) rfl hy)) ?_
   rintro e W2 ⟨rfl, g2⟩
   exact ⟨_, rfl, X.kn rfl, hR.step g2 rfl⟩
  ·intro ac done u W Sx hR
   exact X.val (X.w1 rfl (Sx.yl 10 15 true (by kernel_rfl) rfl rfl)) rfl (X.binop rfl (Sx.ev 28 (Vi (cmpL [k0, k1] [y.1.1, y.1.2]))) (X.kc (Vi 0) rfl) (X.geqI Try.underlying3 rfl)) hR.st0
  ·intro ac done u W Sx hR
   exact X.vl (X.pickT rfl (Sx.ev 15 (.bool true)) (Sx.ev 29 (.bool (decide ((0 : Int) ≤ (cmpL [k0, k1] [y.1.1, y.1.2])))))) hR.st0
  ·intro ac done u W Sx hR
   exact X.vl (X.assign rfl (Sx.ev 30 (.bool (decide ((0 : Int) ≤ (cmpL [k0, k1] [y.1.1, y.1.2])))))) hR.st0
  intro ac u w9 hs hd hl ho hR
  have g : Gr w6 w9 := hR.1
  replace F : Fr ac 31 [(4, .bool (decide ((0 : Int) ≤ (cmpL [k0, k1] [y.1.1, y.1.2]))))] := X.fr hs hd hl _ (by kernel_rfl)
  clear hs hd hl ho hR
  replace G := G.trans g
  replace hC := hC.gr g
  replace hRk := hRk.gr g
  clear g
  refine X.thenN ?_
  refine Y.ret ?_
  exact Y.ret0 (v := .bool (decide ((0 : Int) ≤ (cmpL [k0, k1] [y.1.1, y.1.2])))) F (Y.r1 F) ⟨by rw [full_1 (by omega) hy, cmp_geK], G⟩
set_option maxRecDepth 100000 in
set_option maxHeartbeats 4000000 in
theorem put_s (rb B most : Nat) (ka la : Option Addr) (kc lc : Nat) (k0 k1 : Int) (L : RkL) (xs : List Int) (a : Option Addr) (c : Nat) (w : World) (hR0 : RkAt w rb B most (.slice ka L.length kc) (.slice la L.length lc) L) (hm : 1 ≤ most ∧ most ≤ 100000) (hn : L.length ≤ 100000) (hlm : L.length ≤ most) (hBeg : BegAt w B a c xs) (hBO : ∀ ad, a = some ad → ¬ RkO rb (.slice ka L.length kc) (.slice la L.length lc) ad.block) :
  Calls Try.prog 100 #[Vp rb, .agg #[Vi k0, Vi k1], .slice a xs.length c] w fun e w' => e = .returned (.tuple #[]) ∧ ∃ kv' lv', RkAt w' rb B most kv' lv' (putR most L ((k0, k1), ⟨xs, a, c⟩)) ∧ Only (RkO rb (.slice ka L.length kc) (.slice la L.length lc)) w w' ∧ (∀ b, RkO rb kv' lv' b → RkO rb (.slice ka L.length kc) (.slice la L.length lc) b ∨ w.heap.size ≤ b) := by
 have G := Gr.refl w
 have hRk := hR0
 have hm0 := hm.1
 have hm1 := hm.2
 have hrb9 := hR0.lt _ (.inl rfl)
 have hltW := hR0.lt
 refine Y.calls 88 Try.func100 rfl rfl ?_
 intro ac F0
 have F : Fr ac 88 [(0, Vp rb), (1, .agg #[Vi k0, Vi k1]), (2, .slice a xs.length c)] := F0.sub _
 clear F0
 refine Y.sl ?_
 have hgs3 : w.heap.size ≤ w.heap.size := G.size
 refine Y.pv F (X.box rfl (F.ev 1 (.agg #[Vi k0, Vi k1])) X.bx) ?_;clear F ac;intro ac F
 have hgs5 : w.heap.size ≤ w.heap.size := G.size
 obtain ⟨w6, hw_, g, hb, hbl, hC2⟩ := Y.bxd (RCells.nil w) #[Vi k0, Vi k1] 92;rw [hw_];clear hw_
 replace G := G.trans g
 have hC := hC2
 clear hC2
 replace hRk := hRk.gr g
 have hsz4 := hbl
 clear g hb hbl
 refine Y.nt F [(0, Vp rb), (2, .slice a xs.length c), (4, Vp w.heap.size)] ?_;clear F ac;intro ac F
 refine Y.seq ?_
 refine Y.sl ?_
 refine Y.pv2 F (X.move rfl (F.ev 0 (Vp rb))) (fun _ F=>X.load rfl (F.ev 4 (Vp w.heap.size)) (X.ldN (Try.agg92 _) (Try.siz92 _) (Y.atz (⟨w.heap.size, 0, none⟩) (Y.AtFrom.cons (hC.at 0 rfl) (Y.AtFrom.cons (hC.at 1 rfl) (Y.AtFrom.nil _ _ _)))))) ?_;clear F ac;intro ac F
 refine Y.pc F 99 (X.a2 (F.ev 7 (Vp rb)) (F.ev 8 (.agg #[Vi k0, Vi k1]))) Try.func99 (full_any rb B most ka la kc lc k0 k1 L w6 hRk hm hn) ?_
 clear F ac
 rintro e w7 ⟨rfl, g⟩
 refine ⟨_, rfl, ?_⟩
 intro ac F
 replace G := G.trans g
 replace hC := hC.gr g
 replace hRk := hRk.gr g
 clear g
 refine Y.nt F [(0, Vp rb), (2, .slice a xs.length c), (4, Vp w.heap.size), (9, .bool (fullR most L (k0, k1)))] ?_;clear F ac;intro ac F
 cases h8 : fullR most L (k0, k1) with
 | false =>
  try rw [h8] at F
  refine Y.condF (F.ev 9 (.bool false)) ?_
  refine Y.skip ?_
  refine X.thenN ?_
  refine Y.sl ?_
  refine Y.pv3 F (X.move rfl (F.ev 0 (Vp rb))) (fun _ F=>Y.nilC rfl (F.ev 10 (Vp rb))) (fun _ F=>X.field rfl (F.ev 11 (Vp rb)) (X.fld Try.underlying91 rfl (Try.siz38 _) rfl rfl)) ?_;clear F ac;intro ac F
  replace hC := hC.append (show RCells w7 (bcells rb [Vi most, .slice ka L.length kc, .slice la L.length lc] 0) from (RCells.cons (hRk.own.cell (k := 0) (by decide)) (RCells.cons (hRk.own.cell (k := 1) (by decide)) (RCells.cons (hRk.own.cell (k := 2) (by decide)) (RCells.nil _)))))
  refine Y.pv3 F (X.load rfl (F.ev 12 (.pointer (some ⟨rb, 2, none⟩))) (X.ld1 (Try.agg38 _) (hC.at 4 rfl))) (fun _ F=>X.len1 Try.underlying38 rfl (F.ev 13 (.slice la L.length lc))) (fun _ F=>X.assign rfl (F.ev 14 (Vi L.length))) ?_;clear F ac;intro ac F
  refine Y.nt F [(0, Vp rb), (2, .slice a xs.length c), (4, Vp w.heap.size), (6, Vi L.length)] ?_;clear F ac;intro ac F
  refine Y.seq ?_
  refine Y.block ?_
  refine Y.loop (fun me_ ac wr => ∃ (i : Nat), me_ = i + 1 ∧ Only (fun b => False) w7 wr ∧ i ≤ L.length ∧ posR L (k0, k1) L.length = posR L (k0, k1) i ∧ Fr ac 88 [(0, Vp rb), (2, .slice a xs.length c), (4, Vp w.heap.size), (6, Vi i)]) _ ⟨L.length, rfl, Only.refl _ _, Nat.le_refl _, rfl, F.sub _⟩ ?_
  have hRkB1 := hRk
  have GB1 := G
  have hCB1 := hC
  clear F ac
  intro me_ ac w9 hI
  obtain ⟨i, rfl, hO1, hiL, hpp, F⟩ := hI
  replace G := GB1.trans (hO1.gr (fun _ _ h => h))
  replace hRk := (hR0).gr G
  replace hC := (RCells.cons (hO1.cell (hCB1.at 0 rfl) (fun h => h)) (RCells.cons (hO1.cell (hCB1.at 1 rfl) (fun h => h)) (RCells.cons (hO1.cell (hCB1.at 2 rfl) (fun h => h)) (RCells.cons (hO1.cell (hCB1.at 3 rfl) (fun h => h)) (RCells.cons (hO1.cell (hCB1.at 4 rfl) (fun h => h)) (RCells.nil _))))))
  refine Y.seq ?_
  refine Y.seq ?_
  cases h10 : decide ((0 : Int) < i) with
  | false =>
   try rw [h10] at F
   have h10p : ¬ ((0 : Int) < i) := of_decide_eq_false h10
   have hpos : posR L (k0, k1) i = i := by rw [show i = 0 by omega]; rfl
   refine Y.region F [some (Vi i), some (.bool false), some (.bool false), none, none, none, none, none, none, none, none, none, none, none, some (.bool false)] [] rfl ⟨by kernel_rfl, of_decide_eq_true (by kernel_rfl), by kernel_rfl, by kernel_rfl, by kernel_rfl⟩ ⟨?_, ?_, ?_, ?_, ?_, ?_, ?_, ?_, ?_, ?_, ?_, ?_, ?_, ?_, ?_, trivial⟩ ?_
   ·intro ac done u W Sx hR
    exact X.vl (X.move rfl (Sx.ev 6 (Vi i))) hR.st0
   ·intro ac done u W Sx hR
    exact X.vl (X.binop rfl (Sx.ev 15 (Vi i)) (X.kc (Vi 0) rfl) (X.gtrI Try.underlying3 h10)) hR.st0
   ·intro ac done u W Sx hR
    exact X.vl (X.move rfl (Sx.ev 16 (.bool false))) hR.st0
   ·intro ac done u W Sx hR
    exact X.skip (X.w2 rfl (Sx.yl 2 17 false (by kernel_rfl) rfl rfl) rfl) rfl (hR.skip rfl)
   ·intro ac done u W Sx hR
    exact X.skip (X.w2 rfl (Sx.yl 2 17 false (by kernel_rfl) rfl rfl) rfl) rfl (hR.skip rfl)
   ·intro ac done u W Sx hR
    exact X.skip (X.w2 rfl (Sx.yl 2 17 false (by kernel_rfl) rfl rfl) rfl) rfl (hR.skip rfl)
   ·intro ac done u W Sx hR
    exact X.skip (X.w2 rfl (Sx.yl 2 17 false (by kernel_rfl) rfl rfl) rfl) rfl (hR.skip rfl)
   ·intro ac done u W Sx hR
    exact X.skip (X.w2 rfl (Sx.yl 2 17 false (by kernel_rfl) rfl rfl) rfl) rfl (hR.skip rfl)
   ·intro ac done u W Sx hR
    exact X.skip (X.w2 rfl (Sx.yl 2 17 false (by kernel_rfl) rfl rfl) rfl) rfl (hR.skip rfl)
   ·intro ac done u W Sx hR
    exact X.skip (X.w2 rfl (Sx.yl 2 17 false (by kernel_rfl) rfl rfl) rfl) rfl (hR.skip rfl)
   ·intro ac done u W Sx hR
    exact X.skip (X.w2 rfl (Sx.yl 2 17 false (by kernel_rfl) rfl rfl) rfl) rfl (hR.skip rfl)
   ·intro ac done u W Sx hR
    exact X.skip (X.w2 rfl (Sx.yl 2 17 false (by kernel_rfl) rfl rfl) rfl) rfl (hR.skip rfl)
   ·intro ac done u W Sx hR
    exact X.skip (X.w2 rfl (Sx.yl 2 17 false (by kernel_rfl) rfl rfl) rfl) rfl (hR.skip rfl)
   ·intro ac done u W Sx hR
    exact X.skip (X.w2 rfl (Sx.yl 2 17 false (by kernel_rfl) rfl rfl) rfl) rfl (hR.skip rfl)
   ·intro ac done u W Sx hR
    exact X.vl (X.pickF rfl (Sx.ev 17 (.bool false)) (X.kc (.bool false) rfl)) hR.st0
   intro ac u w11 hs hd hl ho hR
   have g : Gr w9 w11 := hR.1
   replace F : Fr ac 88 [(0, Vp rb), (2, .slice a xs.length c), (4, Vp w.heap.size), (6, Vi i), (29, .bool false)] := X.fr hs hd hl _ (by kernel_rfl)
   clear hs hd hl ho hR
   replace G := G.trans g
   replace hC := hC.gr g
   replace hO1 := hO1.thenGr g
   replace hRk := hRk.gr g
   clear g
   refine X.thenN ?_
   refine Y.condF (F.ev 29 (.bool false)) ?_
   refine Y.exit ?_
   refine X.thenX (X.thenX (X.blockX (X.thenN ?_)))
   refine Y.seq ?_
   have hlt9 := hRk.lt
   have hrB := hRk.rB
   have hGs := G.size
   obtain ⟨x, hx⟩ : ∃ x : (Int × Int) × BegE, x = ((k0, k1), ⟨xs, a, c⟩) := ⟨_, rfl⟩
   refine region_xi F [some (Vp rb), some (Vp rb), some (Vp rb), some (Vp rb), some (.pointer (some ⟨rb, 1, none⟩)), some (.slice ka L.length kc), some (Vi i), some (.agg #[Vi k0, Vi k1]), none, none, some (Vp rb), some (Vp rb), some (.pointer (some ⟨rb, 2, none⟩)), some (.slice la L.length lc), some (Vi i), some (.slice a xs.length c), none, none, some (Vp rb), some (.pointer (some ⟨rb, 1, none⟩)), none, some (Vp rb), some (.pointer (some ⟨rb, 2, none⟩)), none] (RPt w11 B rb most L.length (.slice ka L.length kc) (.slice la L.length lc) (keysV L) (keysV (insAt L i x)) [Vi k0, Vi k1] (begsV L) (begsV (insAt L i x)) [.slice a xs.length c]) rfl ⟨by kernel_rfl, of_decide_eq_true (by kernel_rfl), by kernel_rfl, by kernel_rfl, by kernel_rfl⟩ (fun _ => ⟨RPt.start (Gr.refl _) hRk.k hRk.l hRk.kl hRk.own, (RPt.start (Gr.drew _) (hRk.k.gr (Gr.drew _)) (hRk.l.gr (Gr.drew _)) hRk.kl (hRk.own.gr (Gr.drew _)))⟩) ⟨?_, ?_, ?_, ?_, ?_, ?_, ?_, ?_, ?_, ?_, ?_, ?_, ?_, ?_, ?_, ?_, ?_, ?_, ?_, ?_, ?_, ?_, ?_, ?_, trivial⟩ ?_
   ·intro ac done u W Sx hQ
    exact X.vl (X.move rfl (Sx.ev 0 (Vp rb))) (hQ.quiet (by decide))
   ·intro ac done u W Sx hQ
    exact X.vl (X.move rfl (Sx.ev 0 (Vp rb))) (hQ.quiet (by decide))
   ·intro ac done u W Sx hQ
    exact X.vl (X.move rfl (Sx.ev 0 (Vp rb))) (hQ.quiet (by decide))
   ·intro ac done u W Sx hQ
    exact X.vl (Y.nilC rfl (Sx.ev 34 (Vp rb))) (hQ.quiet (by decide))
   ·intro ac done u W Sx hQ
    exact X.vl (X.field rfl (Sx.ev 35 (Vp rb)) (X.fld Try.underlying91 rfl (Try.siz89 _) rfl rfl)) (hQ.quiet (by decide))
   ·intro ac done u W Sx hQ
    have hc9 := hQ.own.cell (k := 1) (by decide)
    rw [Sx.no 20 (by kernel_rfl)] at hc9
    exact X.vl (X.load rfl (Sx.ev 36 (.pointer (some ⟨rb, 1, none⟩))) (X.ld1 (Try.agg89 _) hc9)) (hQ.quiet (by decide))
   ·intro ac done u W Sx hQ
    exact X.vl (X.move rfl (Sx.ev 6 (Vi i))) (hQ.quiet (by decide))
   ·intro ac done u W Sx hQ
    have c0 := hQ.o.cell (hC.at 0 rfl) (fun e => by have h9 := hltW _ e; simp only at h9; omega)
    have c1 := hQ.o.cell (hC.at 1 rfl) (fun e => by have h9 := hltW _ e; simp only at h9; omega)
    exact X.vl (X.load rfl (Sx.ev 4 (Vp w.heap.size)) (X.ldN (Try.agg92 _) (Try.siz92 _) (Y.atz (⟨w.heap.size, 0, none⟩) (Y.AtFrom.cons c0 (Y.AtFrom.cons c1 (Y.AtFrom.nil _ _ _)))))) (hQ.quiet (by decide))
   ·intro ac done u W Sx hQ
    exact X.valN (X.w0 rfl) rfl (X.bs rfl (X.b1 (Sx.ev 39 (.agg #[Vi k0, Vi k1]))) (Try.bs89 _ _ _)) (hQ.s8 (Gr.alloc _ _) hQ.o.size (heap_alloc_new _ _))
   ·intro ac done u W Sx hQ
    obtain ⟨g8, e8, hg8, hp8⟩ := hQ.k8 (Sx.an 8 (by kernel_rfl)) Sx.nd
    obtain ⟨kc9, h1, h2, h3, h4, lc9, h5, h6, h7, h8, h9⟩ := hQ.kc
    have he := h1 Sx.nd
    subst he
    rw [Sx.nd] at h3
    simp only [Bool.false_eq_true, if_false] at h3
    have hcl := ins116_any B g8 L.length i (.slice ka L.length kc) (keysV L) [Vi k0, Vi k1] W h3 (keys_all L) hiL hn (fun e => by have := hlt9 _ (.inr (.inl e)); omega) hp8 rfl rfl (Nat.le_trans hRk.BW hQ.o.size)
    refine X.call (X.w0 rfl) (X.enter (F := 116) rfl (X.kc (.func (.func 116) #[] #[]) rfl) (X.a3 (Sx.ev 37 (.slice ka L.length kc)) (Sx.ev 38 (Vi i)) ((Sx.own 8 40 rfl).trans e8)) (enters_of Try.func116 (by kernel_rfl) rfl _)) hcl ?_
    rintro e W2 ⟨v2, rfl, hO2, ho2, hat2⟩
    rw [show (keysV L).take (i * 2) ++ [Vi k0, Vi k1] ++ (keysV L).drop (i * 2) = keysV (insAt L i x) by subst hx; exact keys_ins L i hiL ((k0, k1), ⟨xs, a, c⟩)] at hO2
    exact ⟨_, rfl, X.un rfl, hQ.s9 Sx.nd (Sx.no 20 (by kernel_rfl)) hlt9 hrB hO2 ho2 hat2 (fun e => by have := (hRk.k.ge e).1; omega)⟩
   ·intro ac done u W Sx hQ
    exact X.vl (X.move rfl (Sx.ev 0 (Vp rb))) (hQ.quiet (by decide))
   ·intro ac done u W Sx hQ
    exact X.vl (Y.nilC rfl (Sx.ev 42 (Vp rb))) (hQ.quiet (by decide))
   ·intro ac done u W Sx hQ
    exact X.vl (X.field rfl (Sx.ev 43 (Vp rb)) (X.fld Try.underlying91 rfl (Try.siz38 _) rfl rfl)) (hQ.quiet (by decide))
   ·intro ac done u W Sx hQ
    have hc9 := hQ.own.cell (k := 2) (by decide)
    rw [Sx.no 23 (by kernel_rfl)] at hc9
    exact X.vl (X.load rfl (Sx.ev 44 (.pointer (some ⟨rb, 2, none⟩))) (X.ld1 (Try.agg38 _) hc9)) (hQ.quiet (by decide))
   ·intro ac done u W Sx hQ
    exact X.vl (X.move rfl (Sx.ev 6 (Vi i))) (hQ.quiet (by decide))
   ·intro ac done u W Sx hQ
    exact X.vl (X.move rfl (Sx.ev 2 (.slice a xs.length c))) (hQ.quiet (by decide))
   ·intro ac done u W Sx hQ
    exact X.valN (X.w0 rfl) rfl (X.bs rfl (X.b1 (Sx.ev 47 (.slice a xs.length c))) (Try.bs38 _ _ _ _)) (hQ.s16 (Gr.alloc _ _) hQ.o.size (heap_alloc_new _ _))
   ·intro ac done u W Sx hQ
    obtain ⟨g8, e8, hg8, hp8⟩ := hQ.k16 (Sx.an 16 (by kernel_rfl)) Sx.nd
    obtain ⟨kc9, h1, h2, h3, h4, lc9, h5, h6, h7, h8, h9⟩ := hQ.kc
    have he := h5 Sx.nd
    subst he
    rw [Sx.nd] at h7
    simp only [Bool.false_eq_true, if_false] at h7
    have hcl := ins117_any B g8 L.length i (.slice la L.length lc) (begsV L) [.slice a xs.length c] W h7 (begs_all L) hiL hn (fun e => by have := hlt9 _ (.inr (.inr e)); omega) hp8 rfl rfl (Nat.le_trans hRk.BW hQ.o.size)
    refine X.call (X.w0 rfl) (X.enter (F := 117) rfl (X.kc (.func (.func 117) #[] #[]) rfl) (X.a3 (Sx.ev 45 (.slice la L.length lc)) (Sx.ev 46 (Vi i)) ((Sx.own 16 48 rfl).trans e8)) (enters_of Try.func117 (by kernel_rfl) rfl _)) hcl ?_
    rintro e W2 ⟨v2, rfl, hO2, ho2, hat2⟩
    rw [show (begsV L).take (i * 1) ++ [.slice a xs.length c] ++ (begsV L).drop (i * 1) = begsV (insAt L i x) by subst hx; exact begs_ins L i ((k0, k1), ⟨xs, a, c⟩)] at hO2
    exact ⟨_, rfl, X.un rfl, hQ.s17 Sx.nd (Sx.no 23 (by kernel_rfl)) hlt9 hrB hO2 ho2 hat2 (fun e => by have := (hRk.l.ge e).1; omega)⟩
   ·intro ac done u W Sx hQ
    exact X.vl (Y.nilC rfl (Sx.ev 32 (Vp rb))) (hQ.quiet (by decide))
   ·intro ac done u W Sx hQ
    exact X.vl (X.field rfl (Sx.ev 50 (Vp rb)) (X.fld Try.underlying91 rfl (Try.siz89 _) rfl rfl)) (hQ.quiet (by decide))
   ·intro ac done u W Sx hQ
    obtain ⟨a9, c9, e9⟩ : ∃ a c, u 9 = .slice a (L.length + 1) c := by
     obtain ⟨kc9, h1, h2, h3, h4, lc9, h5, h6, h7, h8, h9⟩ := hQ.kc
     have hd := Sx.an 9 (by kernel_rfl)
     rw [hd] at h3
     rw [if_pos rfl] at h3
     rw [← h2 hd]
     exact h3.form
    have hst := hQ.own.st1 (P := Try.prog) (t := 89) (k := 1) (v := u 9) (Try.siz89 _) (by rw [e9]; rfl) (by rw [e9]; rfl) (by decide)
    exact X.unit (X.w0 rfl) rfl (X.store rfl (Sx.ev 51 (.pointer (some ⟨rb, 1, none⟩))) (Sx.own 9 41 rfl) hst) (hQ.s20 hlt9 hrB)
   ·intro ac done u W Sx hQ
    exact X.vl (Y.nilC rfl (Sx.ev 33 (Vp rb))) (hQ.quiet (by decide))
   ·intro ac done u W Sx hQ
    exact X.vl (X.field rfl (Sx.ev 52 (Vp rb)) (X.fld Try.underlying91 rfl (Try.siz38 _) rfl rfl)) (hQ.quiet (by decide))
   ·intro ac done u W Sx hQ
    obtain ⟨a9, c9, e9⟩ : ∃ a c, u 17 = .slice a (L.length + 1) c := by
     obtain ⟨kc9, h1, h2, h3, h4, lc9, h5, h6, h7, h8, h9⟩ := hQ.kc
     have hd := Sx.an 17 (by kernel_rfl)
     rw [hd] at h7
     rw [if_pos rfl] at h7
     rw [← h6 hd]
     exact h7.form
    have hst := hQ.own.st1 (P := Try.prog) (t := 38) (k := 2) (v := u 17) (Try.siz38 _) (by rw [e9]; rfl) (by rw [e9]; rfl) (by decide)
    exact X.unit (X.w0 rfl) rfl (X.store rfl (Sx.ev 53 (.pointer (some ⟨rb, 2, none⟩))) (Sx.own 17 49 rfl) hst) (hQ.s23 hlt9 hrB)
   rintro ac u w12 hs hd hl_ ho hQ
   obtain ⟨kc9, h1, h2, h3, h4, lc9, h5, h6, h7, h8, h9⟩ := hQ.kc
   have e9 := h2 rfl
   have e17 := h6 rfl
   have hO9 : OwnP w12 rb 3 (VL [Vi most, u 9, u 17]) := hQ.own
   have h3 : OwnR w12 B 92 2 kc9 (L.length + 1) (keysV (insAt L i x)) := h3
   have h7 : OwnR w12 B 34 1 lc9 (L.length + 1) (begsV (insAt L i x)) := h7
   rw [← e9, ← e17] at hO9
   obtain ⟨ka2, kc2, rfl⟩ := h3.form
   obtain ⟨la2, lc2, rfl⟩ := h7.form
   obtain ⟨hR2, hRO⟩ := hRk.ins (x := x) hiL (by subst hx; exact (hBeg.gr G)) (by subst hx; exact hBO) hQ.o h3 h7 h4 h8 h9 hO9
   have hoo := hQ.o
   clear h1 h2 h5 h6 e9 e17 hQ h3 h7 h4 h8 h9
   replace F : Fr ac 88 [(0, Vp rb)] := X.fr hs hd hl_ _ (by kernel_rfl)
   clear hs hd hl_ ho
   have hOw : Only (RkO rb (.slice ka L.length kc) (.slice la L.length lc)) w w12 := (G.only _).trans hoo
   clear hoo
   have hil := ins_len (x := x) hiL
   clear hC G
   have hRw : RkAt w12 rb B most (.slice ka2 (L.length + 1) kc2) (.slice la2 (L.length + 1) lc2) (insAt L i x) := hR2
   clear hRk hR2
   have hRk := hRw
   clear hRw
   have G := Gr.refl w12
   have hR1 := hRk
   refine X.thenN ?_
   refine Y.seq ?_
   have hC : RCells w12 [(Ad rb 0, Vi most), (Ad rb 1, .slice ka2 (L.length + 1) kc2), (Ad rb 2, .slice la2 (L.length + 1) lc2)] := (RCells.cons (hRk.own.cell (k := 0) (by decide)) (RCells.cons (hRk.own.cell (k := 1) (by decide)) (RCells.cons (hRk.own.cell (k := 2) (by decide)) (RCells.nil _))))
   refine Y.region F [some (Vp rb), some (Vp rb), some (.pointer (some ⟨rb, 2, none⟩)), some (.slice la2 (L.length + 1) lc2), some (Vi (L.length + 1)), some (Vp rb), some (Vp rb), some (Vp rb), some (Vi most), some (.bool (decide ((most : Int) < (L.length + 1))))] [] rfl ⟨by kernel_rfl, of_decide_eq_true (by kernel_rfl), by kernel_rfl, by kernel_rfl, by kernel_rfl⟩ ⟨?_, ?_, ?_, ?_, ?_, ?_, ?_, ?_, ?_, ?_, trivial⟩ ?_
   ·intro ac done u W Sx hR
    exact X.vl (X.move rfl (Sx.ev 0 (Vp rb))) hR.st0
   ·intro ac done u W Sx hR
    exact X.vl (Y.nilC rfl (Sx.ev 54 (Vp rb))) hR.st0
   ·intro ac done u W Sx hR
    exact X.vl (X.field rfl (Sx.ev 55 (Vp rb)) (X.fld Try.underlying91 rfl (Try.siz38 _) rfl rfl)) hR.st0
   ·intro ac done u W Sx hR
    have g : Gr w12 W := hR.1
    exact X.vl (X.load rfl (Sx.ev 56 (.pointer (some ⟨rb, 2, none⟩))) (X.ld1 (Try.agg38 _) ((hC.gr g).at 2 rfl))) hR.st0
   ·intro ac done u W Sx hR
    exact X.vl (X.len1 Try.underlying38 rfl (Sx.ev 57 (.slice la2 (L.length + 1) lc2))) hR.st0
   ·intro ac done u W Sx hR
    exact X.vl (X.move rfl (Sx.ev 0 (Vp rb))) hR.st0
   ·intro ac done u W Sx hR
    exact X.vl (Y.nilC rfl (Sx.ev 59 (Vp rb))) hR.st0
   ·intro ac done u W Sx hR
    exact X.vl (X.field rfl (Sx.ev 60 (Vp rb)) (X.fld Try.underlying91 rfl (Try.siz3 _) rfl rfl)) hR.st0
   ·intro ac done u W Sx hR
    have g : Gr w12 W := hR.1
    exact X.vl (X.load rfl (Sx.ev 61 (Vp rb)) (X.ld1 (Try.agg3 _) ((hC.gr g).at 0 rfl))) hR.st0
   ·intro ac done u W Sx hR
    exact X.vl (X.binop rfl (Sx.ev 58 (Vi (L.length + 1))) (Sx.ev 62 (Vi most)) (X.gtrI Try.underlying3 rfl)) hR.st0
   intro ac u w13 hs hd hl ho hR
   have g : Gr w12 w13 := hR.1
   replace F : Fr ac 88 [(0, Vp rb), (63, .bool (decide ((most : Int) < (L.length + 1))))] := X.fr hs hd hl _ (by kernel_rfl)
   clear hs hd hl ho hR
   replace G := G.trans g
   replace hC := hC.gr g
   replace hOw := hOw.thenGr g
   replace hRk := hRk.gr g
   clear g
   refine X.thenN ?_
   cases h14 : decide ((most : Int) < (L.length + 1)) with
   | false =>
    try rw [h14] at F
    have h14p : ¬ ((most : Int) < (L.length + 1)) := of_decide_eq_false h14
    refine Y.condF (F.ev 63 (.bool false)) ?_
    refine Y.skip ?_
    show bodyPostM _ _ _ _ _ .ret _ _
    exact Y.ret0 (v := .tuple #[]) F (Y.rs0 rfl) ⟨rfl, _, _, by rw [put_in (x := ((k0, k1), ⟨xs, a, c⟩)) h8 (hpp.trans hpos), ← hx, List.take_of_length_le (by rw [hil]; omega)]; exact hRk, hOw, fun b e => (hRO b e).imp (fun z => z) (fun e => Nat.le_trans hGs e)⟩
   | true =>
    try rw [h14] at F
    have h14p : ((most : Int) < (L.length + 1)) := of_decide_eq_true h14
    refine Y.condT (F.ev 63 (.bool true)) ?_
    have hkl9 : L.length + 1 ≤ kc2 := by have h8 := hRk.k; rw [hil] at h8; exact h8.le
    have hll9 : L.length + 1 ≤ lc2 := by have h8 := hRk.l; rw [hil] at h8; exact h8.le
    refine region_xi F [some (Vp rb), some (Vp rb), some (Vp rb), some (Vp rb), some (.pointer (some ⟨rb, 1, none⟩)), some (.slice ka2 (L.length + 1) kc2), some (Vp rb), some (Vp rb), some (Vp rb), some (Vi most), some (.slice ka2 most kc2), some (Vp rb), some (Vp rb), some (.pointer (some ⟨rb, 2, none⟩)), some (.slice la2 (L.length + 1) lc2), some (Vp rb), some (Vp rb), some (Vp rb), some (Vi most), some (.slice la2 most lc2), some (Vp rb), some (.pointer (some ⟨rb, 1, none⟩)), none, some (Vp rb), some (.pointer (some ⟨rb, 2, none⟩)), none] (RS2 w13 rb 22 25 (Vi most) (.slice ka2 (L.length + 1) kc2) (.slice la2 (L.length + 1) lc2) (.slice ka2 most kc2) (.slice la2 most lc2)) rfl ⟨by kernel_rfl, of_decide_eq_true (by kernel_rfl), by kernel_rfl, by kernel_rfl, by kernel_rfl⟩ (fun _ => ⟨RS2.start (Only.refl _ _) hRk.own, RS2.start ((Gr.drew _).only _) (hRk.own.gr (Gr.drew _))⟩) ⟨?_, ?_, ?_, ?_, ?_, ?_, ?_, ?_, ?_, ?_, ?_, ?_, ?_, ?_, ?_, ?_, ?_, ?_, ?_, ?_, ?_, ?_, ?_, ?_, ?_, ?_, trivial⟩ ?_
    ·intro ac done u W Sx hQ
     exact X.vl (X.move rfl (Sx.ev 0 (Vp rb))) (hQ.quiet (by decide))
    ·intro ac done u W Sx hQ
     exact X.vl (X.move rfl (Sx.ev 0 (Vp rb))) (hQ.quiet (by decide))
    ·intro ac done u W Sx hQ
     exact X.vl (X.move rfl (Sx.ev 0 (Vp rb))) (hQ.quiet (by decide))
    ·intro ac done u W Sx hQ
     exact X.vl (Y.nilC rfl (Sx.ev 66 (Vp rb))) (hQ.quiet (by decide))
    ·intro ac done u W Sx hQ
     exact X.vl (X.field rfl (Sx.ev 67 (Vp rb)) (X.fld Try.underlying91 rfl (Try.siz89 _) rfl rfl)) (hQ.quiet (by decide))
    ·intro ac done u W Sx hQ
     have hc9 := hQ.own.cell (k := 1) (by decide)
     rw [Sx.no 22 (by kernel_rfl)] at hc9
     exact X.vl (X.load rfl (Sx.ev 68 (.pointer (some ⟨rb, 1, none⟩))) (X.ld1 (Try.agg89 _) hc9)) (hQ.quiet (by decide))
    ·intro ac done u W Sx hQ
     exact X.vl (X.move rfl (Sx.ev 0 (Vp rb))) (hQ.quiet (by decide))
    ·intro ac done u W Sx hQ
     exact X.vl (Y.nilC rfl (Sx.ev 70 (Vp rb))) (hQ.quiet (by decide))
    ·intro ac done u W Sx hQ
     exact X.vl (X.field rfl (Sx.ev 71 (Vp rb)) (X.fld Try.underlying91 rfl (Try.siz3 _) rfl rfl)) (hQ.quiet (by decide))
    ·intro ac done u W Sx hQ
     have hc9 := hQ.own.cell (k := 0) (by decide)
     exact X.vl (X.load rfl (Sx.ev 72 (Vp rb)) (X.ld1 (Try.agg3 _) hc9)) (hQ.quiet (by decide))
    ·intro ac done u W Sx hQ
     exact X.vl (Y.slH (k := most) rfl (Sx.ev 69 (.slice ka2 (L.length + 1) kc2)) (Sx.ev 73 (Vi most)) Try.underlying89 (Try.siz92 _) (by omega) (by omega)) (hQ.quiet (by decide))
    ·intro ac done u W Sx hQ
     exact X.vl (X.move rfl (Sx.ev 0 (Vp rb))) (hQ.quiet (by decide))
    ·intro ac done u W Sx hQ
     exact X.vl (Y.nilC rfl (Sx.ev 75 (Vp rb))) (hQ.quiet (by decide))
    ·intro ac done u W Sx hQ
     exact X.vl (X.field rfl (Sx.ev 76 (Vp rb)) (X.fld Try.underlying91 rfl (Try.siz38 _) rfl rfl)) (hQ.quiet (by decide))
    ·intro ac done u W Sx hQ
     have hc9 := hQ.own.cell (k := 2) (by decide)
     rw [Sx.no 25 (by kernel_rfl)] at hc9
     exact X.vl (X.load rfl (Sx.ev 77 (.pointer (some ⟨rb, 2, none⟩))) (X.ld1 (Try.agg38 _) hc9)) (hQ.quiet (by decide))
    ·intro ac done u W Sx hQ
     exact X.vl (X.move rfl (Sx.ev 0 (Vp rb))) (hQ.quiet (by decide))
    ·intro ac done u W Sx hQ
     exact X.vl (Y.nilC rfl (Sx.ev 79 (Vp rb))) (hQ.quiet (by decide))
    ·intro ac done u W Sx hQ
     exact X.vl (X.field rfl (Sx.ev 80 (Vp rb)) (X.fld Try.underlying91 rfl (Try.siz3 _) rfl rfl)) (hQ.quiet (by decide))
    ·intro ac done u W Sx hQ
     have hc9 := hQ.own.cell (k := 0) (by decide)
     exact X.vl (X.load rfl (Sx.ev 81 (Vp rb)) (X.ld1 (Try.agg3 _) hc9)) (hQ.quiet (by decide))
    ·intro ac done u W Sx hQ
     exact X.vl (Y.slH (k := most) rfl (Sx.ev 78 (.slice la2 (L.length + 1) lc2)) (Sx.ev 82 (Vi most)) Try.underlying38 (Try.siz34 _) (by omega) (by omega)) (hQ.quiet (by decide))
    ·intro ac done u W Sx hQ
     exact X.vl (Y.nilC rfl (Sx.ev 64 (Vp rb))) (hQ.quiet (by decide))
    ·intro ac done u W Sx hQ
     exact X.vl (X.field rfl (Sx.ev 84 (Vp rb)) (X.fld Try.underlying91 rfl (Try.siz89 _) rfl rfl)) (hQ.quiet (by decide))
    ·intro ac done u W Sx hQ
     exact X.unit (X.w0 rfl) rfl (X.store rfl (Sx.ev 85 (.pointer (some ⟨rb, 1, none⟩))) (Sx.ev 74 (.slice ka2 most kc2)) (hQ.own.st1 (Try.siz89 _) rfl rfl (by decide))) (hQ.st1 (by decide))
    ·intro ac done u W Sx hQ
     exact X.vl (Y.nilC rfl (Sx.ev 65 (Vp rb))) (hQ.quiet (by decide))
    ·intro ac done u W Sx hQ
     exact X.vl (X.field rfl (Sx.ev 86 (Vp rb)) (X.fld Try.underlying91 rfl (Try.siz38 _) rfl rfl)) (hQ.quiet (by decide))
    ·intro ac done u W Sx hQ
     exact X.unit (X.w0 rfl) rfl (X.store rfl (Sx.ev 87 (.pointer (some ⟨rb, 2, none⟩))) (Sx.ev 83 (.slice la2 most lc2)) (hQ.own.st1 (Try.siz38 _) rfl rfl (by decide))) (hQ.st2 (by decide))
    rintro ac u w15 hs hd hl_ ho hQ
    have hO9 : OwnP w15 rb 3 (VL [Vi most, .slice ka2 most kc2, .slice la2 most lc2]) := hQ.own
    have hon := hQ.o
    replace F : Fr ac 88 [] := X.fr hs hd hl_ _ (by kernel_rfl)
    clear hs hd hl_ ho hQ
    rw [← hil] at hRk
    have hR3 := hRk.take (m := most) (by omega) (by omega) hon hO9
    replace hOw := hOw.step hon (.inl (.inl rfl))
    clear hC hon hO9
    show bodyPostM _ _ _ _ _ .ret _ _
    exact Y.ret0 (v := .tuple #[]) F (Y.rs0 rfl) ⟨rfl, _, _, by rw [put_in (x := ((k0, k1), ⟨xs, a, c⟩)) h8 (hpp.trans hpos), ← hx]; exact hR3, hOw, fun b e => (hRO b e.len).imp (fun z => z) (fun e => Nat.le_trans hGs e)⟩
  | true =>
   try rw [h10] at F
   have h10p : ((0 : Int) < i) := of_decide_eq_true h10
   obtain ⟨y, hy⟩ : ∃ y, L[i - 1]? = some y := ⟨_, List.getElem?_eq_getElem (by omega)⟩
   obtain ⟨g9, Lr, rfl, -⟩ := hRk.k.row (by omega)
   refine Y.region F [some (Vi i), some (.bool true), some (.bool true), some (.slice (some ⟨w.heap.size, 0, none⟩) 2 2), some (Vp rb), some (Vp rb), some (.pointer (some ⟨rb, 1, none⟩)), some (.slice (some ⟨g9, 0, none⟩) L.length kc), some (Vi i), some (Vi ((i : Int) - 1)), some (.pointer (some ⟨g9, (i - 1) * 2, none⟩)), some (.slice (some ⟨g9, (i - 1) * 2, none⟩) 2 2), some (Vi (cmpL [k0, k1] [y.1.1, y.1.2])), some (.bool (decide ((cmpL [k0, k1] [y.1.1, y.1.2] : Int) < 0))), some (.bool (decide ((cmpL [k0, k1] [y.1.1, y.1.2] : Int) < 0)))] [] rfl ⟨by kernel_rfl, of_decide_eq_true (by kernel_rfl), by kernel_rfl, by kernel_rfl, by kernel_rfl⟩ ⟨?_, ?_, ?_, ?_, ?_, ?_, ?_, ?_, ?_, ?_, ?_, ?_, ?_, ?_, ?_, trivial⟩ ?_
   ·intro ac done u W Sx hR
    exact X.vl (X.move rfl (Sx.ev 6 (Vi i))) hR.st0
   ·intro ac done u W Sx hR
    exact X.vl (X.binop rfl (Sx.ev 15 (Vi i)) (X.kc (Vi 0) rfl) (X.gtrI Try.underlying3 h10)) hR.st0
   ·intro ac done u W Sx hR
    exact X.vl (X.move rfl (Sx.ev 16 (.bool true))) hR.st0
   ·intro ac done u W Sx hR
    exact X.val (X.w1 rfl (Sx.yl 2 17 true (by kernel_rfl) rfl rfl)) rfl (Y.slAr (p := ⟨w.heap.size, 0, none⟩) rfl (Sx.ev 4 (Vp w.heap.size)) Try.underlying92 (fun W => Try.siz3 W) (by decide)) hR.st0
   ·intro ac done u W Sx hR
    exact X.val (X.w1 rfl (Sx.yl 2 17 true (by kernel_rfl) rfl rfl)) rfl (X.move rfl (Sx.ev 0 (Vp rb))) hR.st0
   ·intro ac done u W Sx hR
    exact X.val (X.w1 rfl (Sx.yl 2 17 true (by kernel_rfl) rfl rfl)) rfl (Y.nilC rfl (Sx.ev 19 (Vp rb))) hR.st0
   ·intro ac done u W Sx hR
    exact X.val (X.w1 rfl (Sx.yl 2 17 true (by kernel_rfl) rfl rfl)) rfl (X.field rfl (Sx.ev 20 (Vp rb)) (X.fld Try.underlying91 rfl (Try.siz89 _) rfl rfl)) hR.st0
   ·intro ac done u W Sx hR
    have g : Gr w9 W := hR.1
    exact X.val (X.w1 rfl (Sx.yl 2 17 true (by kernel_rfl) rfl rfl)) rfl (X.load rfl (Sx.ev 21 (.pointer (some ⟨rb, 1, none⟩))) (X.ld1 (Try.agg89 _) ((hC.gr g).at 3 rfl))) hR.st0
   ·intro ac done u W Sx hR
    exact X.val (X.w1 rfl (Sx.yl 2 17 true (by kernel_rfl) rfl rfl)) rfl (X.move rfl (Sx.ev 6 (Vi i))) hR.st0
   ·intro ac done u W Sx hR
    exact X.val (X.w1 rfl (Sx.yl 2 17 true (by kernel_rfl) rfl rfl)) rfl (X.binop rfl (Sx.ev 23 (Vi i)) (X.kc (Vi 1) rfl) (X.subI Try.underlying3 rfl (by omega) (by omega))) hR.st0
   ·intro ac done u W Sx hR
    exact X.val (X.w1 rfl (Sx.yl 2 17 true (by kernel_rfl) rfl rfl)) rfl (X.index rfl (Sx.ev 22 (.slice (some ⟨g9, 0, none⟩) L.length kc)) (Sx.ev 24 (Vi ((i : Int) - 1))) (X.idx (k := i - 1) Try.underlying89 (Try.siz92 _) (by omega) (by omega) (addr_add0 _ _))) hR.st0
   ·intro ac done u W Sx hR
    exact X.val (X.w1 rfl (Sx.yl 2 17 true (by kernel_rfl) rfl rfl)) rfl (Y.slAr (p := ⟨g9, (i - 1) * 2, none⟩) rfl (Sx.ev 25 (.pointer (some ⟨g9, (i - 1) * 2, none⟩))) Try.underlying92 (fun W => Try.siz3 W) (by decide)) hR.st0
   ·intro ac done u W Sx hR
    have g : Gr w9 W := hR.1
    refine X.call (X.w1 rfl (Sx.yl 2 17 true (by kernel_rfl) rfl rfl)) (X.enter (F := 90) rfl (X.kc (.func (.func 90) #[] #[]) rfl) (X.a2 (Sx.ev 18 (.slice (some ⟨w.heap.size, 0, none⟩) 2 2)) (Sx.ev 26 (.slice (some ⟨g9, (i - 1) * 2, none⟩) 2 2))) (enters_of Try.func90 (by kernel_rfl) rfl _)) (cmpL_any (some ⟨w.heap.size, 0, none⟩) (some ⟨g9, (i - 1) * 2, none⟩) 2 2 [k0, k1] [y.1.1, y.1.2] W (ints_2 ((hC.gr g).at 0 rfl) ((hC.gr g).at 1 rfl)) (key_ints ((hRk.gr g).k) rfl hy)) ?_
    rintro e W2 ⟨rfl, g2⟩
    exact ⟨_, rfl, X.kn rfl, hR.step g2 rfl⟩
   ·intro ac done u W Sx hR
    exact X.val (X.w1 rfl (Sx.yl 2 17 true (by kernel_rfl) rfl rfl)) rfl (X.binop rfl (Sx.ev 27 (Vi (cmpL [k0, k1] [y.1.1, y.1.2]))) (X.kc (Vi 0) rfl) (X.lssI Try.underlying3 rfl)) hR.st0
   ·intro ac done u W Sx hR
    exact X.vl (X.pickT rfl (Sx.ev 17 (.bool true)) (Sx.ev 28 (.bool (decide ((cmpL [k0, k1] [y.1.1, y.1.2] : Int) < 0))))) hR.st0
   intro ac u w16 hs hd hl ho hR
   have g : Gr w9 w16 := hR.1
   replace F : Fr ac 88 [(0, Vp rb), (2, .slice a xs.length c), (4, Vp w.heap.size), (6, Vi i), (29, .bool (decide ((cmpL [k0, k1] [y.1.1, y.1.2] : Int) < 0)))] := X.fr hs hd hl _ (by kernel_rfl)
   clear hs hd hl ho hR
   replace G := G.trans g
   replace hC := hC.gr g
   replace hO1 := hO1.thenGr g
   replace hRk := hRk.gr g
   clear g
   refine X.thenN ?_
   cases h17 : decide ((cmpL [k0, k1] [y.1.1, y.1.2] : Int) < 0) with
   | false =>
    try rw [h17] at F
    have h17p : ¬ ((cmpL [k0, k1] [y.1.1, y.1.2] : Int) < 0) := of_decide_eq_false h17
    have hlt9 : ltK (k0, k1) y.1 = false := (cmp_ltK (a := k0) (b := k1)).symm.trans h17
    have hpos := pos_ge (k := (k0, k1)) (by omega) hy hlt9
    refine Y.condF (F.ev 29 (.bool false)) ?_
    refine Y.exit ?_
    refine X.thenX (X.thenX (X.blockX (X.thenN ?_)))
    refine Y.seq ?_
    have hlt9 := hRk.lt
    have hrB := hRk.rB
    have hGs := G.size
    obtain ⟨x, hx⟩ : ∃ x : (Int × Int) × BegE, x = ((k0, k1), ⟨xs, a, c⟩) := ⟨_, rfl⟩
    refine region_xi F [some (Vp rb), some (Vp rb), some (Vp rb), some (Vp rb), some (.pointer (some ⟨rb, 1, none⟩)), some (.slice (some ⟨g9, 0, none⟩) L.length kc), some (Vi i), some (.agg #[Vi k0, Vi k1]), none, none, some (Vp rb), some (Vp rb), some (.pointer (some ⟨rb, 2, none⟩)), some (.slice la L.length lc), some (Vi i), some (.slice a xs.length c), none, none, some (Vp rb), some (.pointer (some ⟨rb, 1, none⟩)), none, some (Vp rb), some (.pointer (some ⟨rb, 2, none⟩)), none] (RPt w16 B rb most L.length (.slice (some ⟨g9, 0, none⟩) L.length kc) (.slice la L.length lc) (keysV L) (keysV (insAt L i x)) [Vi k0, Vi k1] (begsV L) (begsV (insAt L i x)) [.slice a xs.length c]) rfl ⟨by kernel_rfl, of_decide_eq_true (by kernel_rfl), by kernel_rfl, by kernel_rfl, by kernel_rfl⟩ (fun _ => ⟨RPt.start (Gr.refl _) hRk.k hRk.l hRk.kl hRk.own, (RPt.start (Gr.drew _) (hRk.k.gr (Gr.drew _)) (hRk.l.gr (Gr.drew _)) hRk.kl (hRk.own.gr (Gr.drew _)))⟩) ⟨?_, ?_, ?_, ?_, ?_, ?_, ?_, ?_, ?_, ?_, ?_, ?_, ?_, ?_, ?_, ?_, ?_, ?_, ?_, ?_, ?_, ?_, ?_, ?_, trivial⟩ ?_
    ·intro ac done u W Sx hQ
     exact X.vl (X.move rfl (Sx.ev 0 (Vp rb))) (hQ.quiet (by decide))
    ·intro ac done u W Sx hQ
     exact X.vl (X.move rfl (Sx.ev 0 (Vp rb))) (hQ.quiet (by decide))
    ·intro ac done u W Sx hQ
     exact X.vl (X.move rfl (Sx.ev 0 (Vp rb))) (hQ.quiet (by decide))
    ·intro ac done u W Sx hQ
     exact X.vl (Y.nilC rfl (Sx.ev 34 (Vp rb))) (hQ.quiet (by decide))
    ·intro ac done u W Sx hQ
     exact X.vl (X.field rfl (Sx.ev 35 (Vp rb)) (X.fld Try.underlying91 rfl (Try.siz89 _) rfl rfl)) (hQ.quiet (by decide))
    ·intro ac done u W Sx hQ
     have hc9 := hQ.own.cell (k := 1) (by decide)
     rw [Sx.no 20 (by kernel_rfl)] at hc9
     exact X.vl (X.load rfl (Sx.ev 36 (.pointer (some ⟨rb, 1, none⟩))) (X.ld1 (Try.agg89 _) hc9)) (hQ.quiet (by decide))
    ·intro ac done u W Sx hQ
     exact X.vl (X.move rfl (Sx.ev 6 (Vi i))) (hQ.quiet (by decide))
    ·intro ac done u W Sx hQ
     have c0 := hQ.o.cell (hC.at 0 rfl) (fun e => by have h9 := hltW _ e; simp only at h9; omega)
     have c1 := hQ.o.cell (hC.at 1 rfl) (fun e => by have h9 := hltW _ e; simp only at h9; omega)
     exact X.vl (X.load rfl (Sx.ev 4 (Vp w.heap.size)) (X.ldN (Try.agg92 _) (Try.siz92 _) (Y.atz (⟨w.heap.size, 0, none⟩) (Y.AtFrom.cons c0 (Y.AtFrom.cons c1 (Y.AtFrom.nil _ _ _)))))) (hQ.quiet (by decide))
    ·intro ac done u W Sx hQ
     exact X.valN (X.w0 rfl) rfl (X.bs rfl (X.b1 (Sx.ev 39 (.agg #[Vi k0, Vi k1]))) (Try.bs89 _ _ _)) (hQ.s8 (Gr.alloc _ _) hQ.o.size (heap_alloc_new _ _))
    ·intro ac done u W Sx hQ
     obtain ⟨g8, e8, hg8, hp8⟩ := hQ.k8 (Sx.an 8 (by kernel_rfl)) Sx.nd
     obtain ⟨kc9, h1, h2, h3, h4, lc9, h5, h6, h7, h8, h9⟩ := hQ.kc
     have he := h1 Sx.nd
     subst he
     rw [Sx.nd] at h3
     simp only [Bool.false_eq_true, if_false] at h3
     have hcl := ins116_any B g8 L.length i (.slice (some ⟨g9, 0, none⟩) L.length kc) (keysV L) [Vi k0, Vi k1] W h3 (keys_all L) hiL hn (fun e => by have := hlt9 _ (.inr (.inl e)); omega) hp8 rfl rfl (Nat.le_trans hRk.BW hQ.o.size)
     refine X.call (X.w0 rfl) (X.enter (F := 116) rfl (X.kc (.func (.func 116) #[] #[]) rfl) (X.a3 (Sx.ev 37 (.slice (some ⟨g9, 0, none⟩) L.length kc)) (Sx.ev 38 (Vi i)) ((Sx.own 8 40 rfl).trans e8)) (enters_of Try.func116 (by kernel_rfl) rfl _)) hcl ?_
     rintro e W2 ⟨v2, rfl, hO2, ho2, hat2⟩
     rw [show (keysV L).take (i * 2) ++ [Vi k0, Vi k1] ++ (keysV L).drop (i * 2) = keysV (insAt L i x) by subst hx; exact keys_ins L i hiL ((k0, k1), ⟨xs, a, c⟩)] at hO2
     exact ⟨_, rfl, X.un rfl, hQ.s9 Sx.nd (Sx.no 20 (by kernel_rfl)) hlt9 hrB hO2 ho2 hat2 (fun e => by have := (hRk.k.ge e).1; omega)⟩
    ·intro ac done u W Sx hQ
     exact X.vl (X.move rfl (Sx.ev 0 (Vp rb))) (hQ.quiet (by decide))
    ·intro ac done u W Sx hQ
     exact X.vl (Y.nilC rfl (Sx.ev 42 (Vp rb))) (hQ.quiet (by decide))
    ·intro ac done u W Sx hQ
     exact X.vl (X.field rfl (Sx.ev 43 (Vp rb)) (X.fld Try.underlying91 rfl (Try.siz38 _) rfl rfl)) (hQ.quiet (by decide))
    ·intro ac done u W Sx hQ
     have hc9 := hQ.own.cell (k := 2) (by decide)
     rw [Sx.no 23 (by kernel_rfl)] at hc9
     exact X.vl (X.load rfl (Sx.ev 44 (.pointer (some ⟨rb, 2, none⟩))) (X.ld1 (Try.agg38 _) hc9)) (hQ.quiet (by decide))
    ·intro ac done u W Sx hQ
     exact X.vl (X.move rfl (Sx.ev 6 (Vi i))) (hQ.quiet (by decide))
    ·intro ac done u W Sx hQ
     exact X.vl (X.move rfl (Sx.ev 2 (.slice a xs.length c))) (hQ.quiet (by decide))
    ·intro ac done u W Sx hQ
     exact X.valN (X.w0 rfl) rfl (X.bs rfl (X.b1 (Sx.ev 47 (.slice a xs.length c))) (Try.bs38 _ _ _ _)) (hQ.s16 (Gr.alloc _ _) hQ.o.size (heap_alloc_new _ _))
    ·intro ac done u W Sx hQ
     obtain ⟨g8, e8, hg8, hp8⟩ := hQ.k16 (Sx.an 16 (by kernel_rfl)) Sx.nd
     obtain ⟨kc9, h1, h2, h3, h4, lc9, h5, h6, h7, h8, h9⟩ := hQ.kc
     have he := h5 Sx.nd
     subst he
     rw [Sx.nd] at h7
     simp only [Bool.false_eq_true, if_false] at h7
     have hcl := ins117_any B g8 L.length i (.slice la L.length lc) (begsV L) [.slice a xs.length c] W h7 (begs_all L) hiL hn (fun e => by have := hlt9 _ (.inr (.inr e)); omega) hp8 rfl rfl (Nat.le_trans hRk.BW hQ.o.size)
     refine X.call (X.w0 rfl) (X.enter (F := 117) rfl (X.kc (.func (.func 117) #[] #[]) rfl) (X.a3 (Sx.ev 45 (.slice la L.length lc)) (Sx.ev 46 (Vi i)) ((Sx.own 16 48 rfl).trans e8)) (enters_of Try.func117 (by kernel_rfl) rfl _)) hcl ?_
     rintro e W2 ⟨v2, rfl, hO2, ho2, hat2⟩
     rw [show (begsV L).take (i * 1) ++ [.slice a xs.length c] ++ (begsV L).drop (i * 1) = begsV (insAt L i x) by subst hx; exact begs_ins L i ((k0, k1), ⟨xs, a, c⟩)] at hO2
     exact ⟨_, rfl, X.un rfl, hQ.s17 Sx.nd (Sx.no 23 (by kernel_rfl)) hlt9 hrB hO2 ho2 hat2 (fun e => by have := (hRk.l.ge e).1; omega)⟩
    ·intro ac done u W Sx hQ
     exact X.vl (Y.nilC rfl (Sx.ev 32 (Vp rb))) (hQ.quiet (by decide))
    ·intro ac done u W Sx hQ
     exact X.vl (X.field rfl (Sx.ev 50 (Vp rb)) (X.fld Try.underlying91 rfl (Try.siz89 _) rfl rfl)) (hQ.quiet (by decide))
    ·intro ac done u W Sx hQ
     obtain ⟨a9, c9, e9⟩ : ∃ a c, u 9 = .slice a (L.length + 1) c := by
      obtain ⟨kc9, h1, h2, h3, h4, lc9, h5, h6, h7, h8, h9⟩ := hQ.kc
      have hd := Sx.an 9 (by kernel_rfl)
      rw [hd] at h3
      rw [if_pos rfl] at h3
      rw [← h2 hd]
      exact h3.form
     have hst := hQ.own.st1 (P := Try.prog) (t := 89) (k := 1) (v := u 9) (Try.siz89 _) (by rw [e9]; rfl) (by rw [e9]; rfl) (by decide)
     exact X.unit (X.w0 rfl) rfl (X.store rfl (Sx.ev 51 (.pointer (some ⟨rb, 1, none⟩))) (Sx.own 9 41 rfl) hst) (hQ.s20 hlt9 hrB)
    ·intro ac done u W Sx hQ
     exact X.vl (Y.nilC rfl (Sx.ev 33 (Vp rb))) (hQ.quiet (by decide))
    ·intro ac done u W Sx hQ
     exact X.vl (X.field rfl (Sx.ev 52 (Vp rb)) (X.fld Try.underlying91 rfl (Try.siz38 _) rfl rfl)) (hQ.quiet (by decide))
    ·intro ac done u W Sx hQ
     obtain ⟨a9, c9, e9⟩ : ∃ a c, u 17 = .slice a (L.length + 1) c := by
      obtain ⟨kc9, h1, h2, h3, h4, lc9, h5, h6, h7, h8, h9⟩ := hQ.kc
      have hd := Sx.an 17 (by kernel_rfl)
      rw [hd] at h7
      rw [if_pos rfl] at h7
      rw [← h6 hd]
      exact h7.form
     have hst := hQ.own.st1 (P := Try.prog) (t := 38) (k := 2) (v := u 17) (Try.siz38 _) (by rw [e9]; rfl) (by rw [e9]; rfl) (by decide)
     exact X.unit (X.w0 rfl) rfl (X.store rfl (Sx.ev 53 (.pointer (some ⟨rb, 2, none⟩))) (Sx.own 17 49 rfl) hst) (hQ.s23 hlt9 hrB)
    rintro ac u w18 hs hd hl_ ho hQ
    obtain ⟨kc9, h1, h2, h3, h4, lc9, h5, h6, h7, h8, h9⟩ := hQ.kc
    have e9 := h2 rfl
    have e17 := h6 rfl
    have hO9 : OwnP w18 rb 3 (VL [Vi most, u 9, u 17]) := hQ.own
    have h3 : OwnR w18 B 92 2 kc9 (L.length + 1) (keysV (insAt L i x)) := h3
    have h7 : OwnR w18 B 34 1 lc9 (L.length + 1) (begsV (insAt L i x)) := h7
    rw [← e9, ← e17] at hO9
    obtain ⟨ka2, kc2, rfl⟩ := h3.form
    obtain ⟨la2, lc2, rfl⟩ := h7.form
    obtain ⟨hR2, hRO⟩ := hRk.ins (x := x) hiL (by subst hx; exact (hBeg.gr G)) (by subst hx; exact hBO) hQ.o h3 h7 h4 h8 h9 hO9
    have hoo := hQ.o
    clear h1 h2 h5 h6 e9 e17 hQ h3 h7 h4 h8 h9
    replace F : Fr ac 88 [(0, Vp rb)] := X.fr hs hd hl_ _ (by kernel_rfl)
    clear hs hd hl_ ho
    have hOw : Only (RkO rb (.slice (some ⟨g9, 0, none⟩) L.length kc) (.slice la L.length lc)) w w18 := (G.only _).trans hoo
    clear hoo
    have hil := ins_len (x := x) hiL
    clear hC G
    have hRw : RkAt w18 rb B most (.slice ka2 (L.length + 1) kc2) (.slice la2 (L.length + 1) lc2) (insAt L i x) := hR2
    clear hRk hR2
    have hRk := hRw
    clear hRw
    have G := Gr.refl w18
    have hR1 := hRk
    refine X.thenN ?_
    refine Y.seq ?_
    have hC : RCells w18 [(Ad rb 0, Vi most), (Ad rb 1, .slice ka2 (L.length + 1) kc2), (Ad rb 2, .slice la2 (L.length + 1) lc2)] := (RCells.cons (hRk.own.cell (k := 0) (by decide)) (RCells.cons (hRk.own.cell (k := 1) (by decide)) (RCells.cons (hRk.own.cell (k := 2) (by decide)) (RCells.nil _))))
    refine Y.region F [some (Vp rb), some (Vp rb), some (.pointer (some ⟨rb, 2, none⟩)), some (.slice la2 (L.length + 1) lc2), some (Vi (L.length + 1)), some (Vp rb), some (Vp rb), some (Vp rb), some (Vi most), some (.bool (decide ((most : Int) < (L.length + 1))))] [] rfl ⟨by kernel_rfl, of_decide_eq_true (by kernel_rfl), by kernel_rfl, by kernel_rfl, by kernel_rfl⟩ ⟨?_, ?_, ?_, ?_, ?_, ?_, ?_, ?_, ?_, ?_, trivial⟩ ?_
    ·intro ac done u W Sx hR
     exact X.vl (X.move rfl (Sx.ev 0 (Vp rb))) hR.st0
    ·intro ac done u W Sx hR
     exact X.vl (Y.nilC rfl (Sx.ev 54 (Vp rb))) hR.st0
    ·intro ac done u W Sx hR
     exact X.vl (X.field rfl (Sx.ev 55 (Vp rb)) (X.fld Try.underlying91 rfl (Try.siz38 _) rfl rfl)) hR.st0
    ·intro ac done u W Sx hR
     have g : Gr w18 W := hR.1
     exact X.vl (X.load rfl (Sx.ev 56 (.pointer (some ⟨rb, 2, none⟩))) (X.ld1 (Try.agg38 _) ((hC.gr g).at 2 rfl))) hR.st0
    ·intro ac done u W Sx hR
     exact X.vl (X.len1 Try.underlying38 rfl (Sx.ev 57 (.slice la2 (L.length + 1) lc2))) hR.st0
    ·intro ac done u W Sx hR
     exact X.vl (X.move rfl (Sx.ev 0 (Vp rb))) hR.st0
    ·intro ac done u W Sx hR
     exact X.vl (Y.nilC rfl (Sx.ev 59 (Vp rb))) hR.st0
    ·intro ac done u W Sx hR
     exact X.vl (X.field rfl (Sx.ev 60 (Vp rb)) (X.fld Try.underlying91 rfl (Try.siz3 _) rfl rfl)) hR.st0
    ·intro ac done u W Sx hR
     have g : Gr w18 W := hR.1
     exact X.vl (X.load rfl (Sx.ev 61 (Vp rb)) (X.ld1 (Try.agg3 _) ((hC.gr g).at 0 rfl))) hR.st0
    ·intro ac done u W Sx hR
     exact X.vl (X.binop rfl (Sx.ev 58 (Vi (L.length + 1))) (Sx.ev 62 (Vi most)) (X.gtrI Try.underlying3 rfl)) hR.st0
    intro ac u w19 hs hd hl ho hR
    have g : Gr w18 w19 := hR.1
    replace F : Fr ac 88 [(0, Vp rb), (63, .bool (decide ((most : Int) < (L.length + 1))))] := X.fr hs hd hl _ (by kernel_rfl)
    clear hs hd hl ho hR
    replace G := G.trans g
    replace hC := hC.gr g
    replace hOw := hOw.thenGr g
    replace hRk := hRk.gr g
    clear g
    refine X.thenN ?_
    cases h20 : decide ((most : Int) < (L.length + 1)) with
    | false =>
     try rw [h20] at F
     have h20p : ¬ ((most : Int) < (L.length + 1)) := of_decide_eq_false h20
     refine Y.condF (F.ev 63 (.bool false)) ?_
     refine Y.skip ?_
     show bodyPostM _ _ _ _ _ .ret _ _
     exact Y.ret0 (v := .tuple #[]) F (Y.rs0 rfl) ⟨rfl, _, _, by rw [put_in (x := ((k0, k1), ⟨xs, a, c⟩)) h8 (hpp.trans hpos), ← hx, List.take_of_length_le (by rw [hil]; omega)]; exact hRk, hOw, fun b e => (hRO b e).imp (fun z => z) (fun e => Nat.le_trans hGs e)⟩
    | true =>
     try rw [h20] at F
     have h20p : ((most : Int) < (L.length + 1)) := of_decide_eq_true h20
     refine Y.condT (F.ev 63 (.bool true)) ?_
     have hkl9 : L.length + 1 ≤ kc2 := by have h8 := hRk.k; rw [hil] at h8; exact h8.le
     have hll9 : L.length + 1 ≤ lc2 := by have h8 := hRk.l; rw [hil] at h8; exact h8.le
     refine region_xi F [some (Vp rb), some (Vp rb), some (Vp rb), some (Vp rb), some (.pointer (some ⟨rb, 1, none⟩)), some (.slice ka2 (L.length + 1) kc2), some (Vp rb), some (Vp rb), some (Vp rb), some (Vi most), some (.slice ka2 most kc2), some (Vp rb), some (Vp rb), some (.pointer (some ⟨rb, 2, none⟩)), some (.slice la2 (L.length + 1) lc2), some (Vp rb), some (Vp rb), some (Vp rb), some (Vi most), some (.slice la2 most lc2), some (Vp rb), some (.pointer (some ⟨rb, 1, none⟩)), none, some (Vp rb), some (.pointer (some ⟨rb, 2, none⟩)), none] (RS2 w19 rb 22 25 (Vi most) (.slice ka2 (L.length + 1) kc2) (.slice la2 (L.length + 1) lc2) (.slice ka2 most kc2) (.slice la2 most lc2)) rfl ⟨by kernel_rfl, of_decide_eq_true (by kernel_rfl), by kernel_rfl, by kernel_rfl, by kernel_rfl⟩ (fun _ => ⟨RS2.start (Only.refl _ _) hRk.own, RS2.start ((Gr.drew _).only _) (hRk.own.gr (Gr.drew _))⟩) ⟨?_, ?_, ?_, ?_, ?_, ?_, ?_, ?_, ?_, ?_, ?_, ?_, ?_, ?_, ?_, ?_, ?_, ?_, ?_, ?_, ?_, ?_, ?_, ?_, ?_, ?_, trivial⟩ ?_
     ·intro ac done u W Sx hQ
      exact X.vl (X.move rfl (Sx.ev 0 (Vp rb))) (hQ.quiet (by decide))
     ·intro ac done u W Sx hQ
      exact X.vl (X.move rfl (Sx.ev 0 (Vp rb))) (hQ.quiet (by decide))
     ·intro ac done u W Sx hQ
      exact X.vl (X.move rfl (Sx.ev 0 (Vp rb))) (hQ.quiet (by decide))
     ·intro ac done u W Sx hQ
      exact X.vl (Y.nilC rfl (Sx.ev 66 (Vp rb))) (hQ.quiet (by decide))
     ·intro ac done u W Sx hQ
      exact X.vl (X.field rfl (Sx.ev 67 (Vp rb)) (X.fld Try.underlying91 rfl (Try.siz89 _) rfl rfl)) (hQ.quiet (by decide))
     ·intro ac done u W Sx hQ
      have hc9 := hQ.own.cell (k := 1) (by decide)
      rw [Sx.no 22 (by kernel_rfl)] at hc9
      exact X.vl (X.load rfl (Sx.ev 68 (.pointer (some ⟨rb, 1, none⟩))) (X.ld1 (Try.agg89 _) hc9)) (hQ.quiet (by decide))
     ·intro ac done u W Sx hQ
      exact X.vl (X.move rfl (Sx.ev 0 (Vp rb))) (hQ.quiet (by decide))
     ·intro ac done u W Sx hQ
      exact X.vl (Y.nilC rfl (Sx.ev 70 (Vp rb))) (hQ.quiet (by decide))
     ·intro ac done u W Sx hQ
      exact X.vl (X.field rfl (Sx.ev 71 (Vp rb)) (X.fld Try.underlying91 rfl (Try.siz3 _) rfl rfl)) (hQ.quiet (by decide))
     ·intro ac done u W Sx hQ
      have hc9 := hQ.own.cell (k := 0) (by decide)
      exact X.vl (X.load rfl (Sx.ev 72 (Vp rb)) (X.ld1 (Try.agg3 _) hc9)) (hQ.quiet (by decide))
     ·intro ac done u W Sx hQ
      exact X.vl (Y.slH (k := most) rfl (Sx.ev 69 (.slice ka2 (L.length + 1) kc2)) (Sx.ev 73 (Vi most)) Try.underlying89 (Try.siz92 _) (by omega) (by omega)) (hQ.quiet (by decide))
     ·intro ac done u W Sx hQ
      exact X.vl (X.move rfl (Sx.ev 0 (Vp rb))) (hQ.quiet (by decide))
     ·intro ac done u W Sx hQ
      exact X.vl (Y.nilC rfl (Sx.ev 75 (Vp rb))) (hQ.quiet (by decide))
     ·intro ac done u W Sx hQ
      exact X.vl (X.field rfl (Sx.ev 76 (Vp rb)) (X.fld Try.underlying91 rfl (Try.siz38 _) rfl rfl)) (hQ.quiet (by decide))
     ·intro ac done u W Sx hQ
      have hc9 := hQ.own.cell (k := 2) (by decide)
      rw [Sx.no 25 (by kernel_rfl)] at hc9
      exact X.vl (X.load rfl (Sx.ev 77 (.pointer (some ⟨rb, 2, none⟩))) (X.ld1 (Try.agg38 _) hc9)) (hQ.quiet (by decide))
     ·intro ac done u W Sx hQ
      exact X.vl (X.move rfl (Sx.ev 0 (Vp rb))) (hQ.quiet (by decide))
     ·intro ac done u W Sx hQ
      exact X.vl (Y.nilC rfl (Sx.ev 79 (Vp rb))) (hQ.quiet (by decide))
     ·intro ac done u W Sx hQ
      exact X.vl (X.field rfl (Sx.ev 80 (Vp rb)) (X.fld Try.underlying91 rfl (Try.siz3 _) rfl rfl)) (hQ.quiet (by decide))
     ·intro ac done u W Sx hQ
      have hc9 := hQ.own.cell (k := 0) (by decide)
      exact X.vl (X.load rfl (Sx.ev 81 (Vp rb)) (X.ld1 (Try.agg3 _) hc9)) (hQ.quiet (by decide))
     ·intro ac done u W Sx hQ
      exact X.vl (Y.slH (k := most) rfl (Sx.ev 78 (.slice la2 (L.length + 1) lc2)) (Sx.ev 82 (Vi most)) Try.underlying38 (Try.siz34 _) (by omega) (by omega)) (hQ.quiet (by decide))
     ·intro ac done u W Sx hQ
      exact X.vl (Y.nilC rfl (Sx.ev 64 (Vp rb))) (hQ.quiet (by decide))
     ·intro ac done u W Sx hQ
      exact X.vl (X.field rfl (Sx.ev 84 (Vp rb)) (X.fld Try.underlying91 rfl (Try.siz89 _) rfl rfl)) (hQ.quiet (by decide))
     ·intro ac done u W Sx hQ
      exact X.unit (X.w0 rfl) rfl (X.store rfl (Sx.ev 85 (.pointer (some ⟨rb, 1, none⟩))) (Sx.ev 74 (.slice ka2 most kc2)) (hQ.own.st1 (Try.siz89 _) rfl rfl (by decide))) (hQ.st1 (by decide))
     ·intro ac done u W Sx hQ
      exact X.vl (Y.nilC rfl (Sx.ev 65 (Vp rb))) (hQ.quiet (by decide))
     ·intro ac done u W Sx hQ
      exact X.vl (X.field rfl (Sx.ev 86 (Vp rb)) (X.fld Try.underlying91 rfl (Try.siz38 _) rfl rfl)) (hQ.quiet (by decide))
     ·intro ac done u W Sx hQ
      exact X.unit (X.w0 rfl) rfl (X.store rfl (Sx.ev 87 (.pointer (some ⟨rb, 2, none⟩))) (Sx.ev 83 (.slice la2 most lc2)) (hQ.own.st1 (Try.siz38 _) rfl rfl (by decide))) (hQ.st2 (by decide))
     rintro ac u w21 hs hd hl_ ho hQ
     have hO9 : OwnP w21 rb 3 (VL [Vi most, .slice ka2 most kc2, .slice la2 most lc2]) := hQ.own
     have hon := hQ.o
     replace F : Fr ac 88 [] := X.fr hs hd hl_ _ (by kernel_rfl)
     clear hs hd hl_ ho hQ
     rw [← hil] at hRk
     have hR3 := hRk.take (m := most) (by omega) (by omega) hon hO9
     replace hOw := hOw.step hon (.inl (.inl rfl))
     clear hC hon hO9
     show bodyPostM _ _ _ _ _ .ret _ _
     exact Y.ret0 (v := .tuple #[]) F (Y.rs0 rfl) ⟨rfl, _, _, by rw [put_in (x := ((k0, k1), ⟨xs, a, c⟩)) h8 (hpp.trans hpos), ← hx]; exact hR3, hOw, fun b e => (hRO b e.len).imp (fun z => z) (fun e => Nat.le_trans hGs e)⟩
   | true =>
    try rw [h17] at F
    have h17p : ((cmpL [k0, k1] [y.1.1, y.1.2] : Int) < 0) := of_decide_eq_true h17
    have hlt9 : ltK (k0, k1) y.1 = true := (cmp_ltK (a := k0) (b := k1)).symm.trans h17
    have hpn := pos_lt (k := (k0, k1)) (by omega) hy hlt9
    refine Y.condT (F.ev 29 (.bool true)) ?_
    refine Y.skip ?_
    refine X.thenN ?_
    refine Y.block ?_
    refine Y.lit (by kernel_rfl) ?_
    refine Y.pv3 F (X.move rfl (F.ev 6 (Vi i))) (fun _ F=>X.binop rfl (F.ev 30 (Vi i)) (X.kc (Vi 1) rfl) (X.subI Try.underlying3 rfl (by omega) (by omega))) (fun _ F=>X.assign rfl (F.ev 31 (Vi ((i : Int) - 1)))) ?_;clear F ac;intro ac F
    refine Y.nil ?_
    replace F : Fr ac 88 [(0, Vp rb), (2, .slice a xs.length c), (4, Vp w.heap.size), (6, Vi ((i : Int) - 1))] := F.sub _
    refine X.blockN (X.thenN ?_)
    refine ⟨_, ?_, i - 1, rfl, hO1, by omega, hpp.trans hpn, (by rw [show ((i - 1 : Nat) : Int) = (i : Int) - 1 by omega]; exact F.sub _)⟩
    omega
 | true =>
  try rw [h8] at F
  refine Y.condT (F.ev 9 (.bool true)) ?_
  refine Y.ret ?_
  refine X.thenR ?_
  exact Y.ret0 (v := .tuple #[]) F (Y.rs0 rfl) ⟨rfl, _, _, by rw [put_full h8]; exact hRk, G.only _, fun b e => .inl e⟩
end
section
set_option linter.unusedVariables false
open Go.RowKit
/-- a return behind one range -/
theorem ret_mark {P : Program} {fn : Func} {R : Ending → World → Prop} {A : Act} {W : World} {v : Value} {N k : Nat} {L : List (Nat × Value)} (F : Fr A N L [{ target := .collected k, args := #[] }]) (hk : W.heap[k]? = some (.deferred (some [])))
    (hr : (results fn A.tmps).run P (W.putObj k (.deferred none)) = .ok v (W.putObj k (.deferred none))) (h : ∀ W2, Only (fun b => b = k) W W2 → R (.returned v) W2) : bodyPostM Fence.wide 0 P fn R .ret A W :=
  Y.ret1 F hk hr (h _ (putObj_only _ _ _))
theorem Y.stNew1 {P : Program} {W : World} {t T : TypeId} (v z : Value) (hS : (sizeOf t).run P (W.alloc (.cells #[z] T)) = .ok 1 (W.alloc (.cells #[z] T))) (hv : v.cells = #[v]) (hv1 : v.oneCell' = true) :
    (Instr.storeAt t (.pointer (some ⟨W.heap.size, 0, none⟩)) v).run P (W.alloc (.cells #[z] T)) = .ok () (W.alloc (.cells #[v] T)) := by
  have h := Y.st1 (P := P) (p := ⟨W.heap.size, 0, none⟩) hS hv hv1 (v0 := z) (cell_new (by simp)) (Y.fresh_fz W #[z] T 0)
  rw [h, Y.alloc_set]
  rfl
theorem Try.bd91 (x : Int) (w : World) : (Instr.build 91 #[(0, .int .i64 x)]).run Try.prog w = .ok (.agg #[.int .i64 x, .slice none 0 0, .slice none 0 0]) w := by kernel_rfl
theorem Try.bd92 (x y : Int) (w : World) : (Instr.build 92 #[(0, .int .i64 x), (1, .int .i64 y)]).run Try.prog w = .ok (.agg #[.int .i64 x, .int .i64 y]) w := by kernel_rfl
/-- a round: the new state; whether it goes deeper; whether it goes on -/
def stF (p : Pb) (most : Nat) (mv : List Int → Int × Bool) (s : List ((Int × Int) × List Int)) (xs : List Int) : List ((Int × Int) × List Int) × Bool × Bool :=
  if hopeB p (tim p) xs then (s, true, true)
  else if !(mv xs).2 || fullR most s ((mv xs).1, bndV p xs) then (s, false, true)
  else if xs.length = p.nt then (putR most s (((mv xs).1, bndV p xs), xs), true, true) else (s, true, true)
section
variable {p : Pb} {most : Nat} {mv : List Int → Int × Bool} {s : List ((Int × Int) × List Int)} {xs : List Int}
theorem stF_h (h : hopeB p (tim p) xs = true) : stF p most mv s xs = (s, true, true) := by unfold stF; rw [if_pos h]
theorem stF_c (h : hopeB p (tim p) xs = false) (k : (mv xs).2 = false ∨ fullR most s ((mv xs).1, bndV p xs) = true) : stF p most mv s xs = (s, false, true) := by
  unfold stF; rw [if_neg (by rw [h]; decide), if_pos (by rcases k with k | k <;> simp [k])]
theorem stF_p (h : hopeB p (tim p) xs = false) (k1 : (mv xs).2 = true) (k2 : fullR most s ((mv xs).1, bndV p xs) = false) (l : xs.length = p.nt) : stF p most mv s xs = (putR most s (((mv xs).1, bndV p xs), xs), true, true) := by
  unfold stF; rw [if_neg (by rw [h]; decide), if_neg (by simp [k1, k2]), if_pos l]
theorem stF_n (h : hopeB p (tim p) xs = false) (k1 : (mv xs).2 = true) (k2 : fullR most s ((mv xs).1, bndV p xs) = false) (l : ¬ xs.length = p.nt) : stF p most mv s xs = (s, true, true) := by
  unfold stF; rw [if_neg (by rw [h]; decide), if_neg (by simp [k1, k2]), if_neg l]
end
theorem put_len {L : RkL} {most : Nat} {x : (Int × Int) × BegE} (h : L.length ≤ most) : (putR most L x).length ≤ most := by
  unfold putR
  split
  · exact h
  · rw [List.length_take]; omega
theorem put_mem {L : RkL} {most : Nat} {x y : (Int × Int) × BegE} (h : y ∈ putR most L x) : y = x ∨ y ∈ L := by
  unfold putR at h
  split at h
  · exact .inr h
  · exact ins_mem (List.mem_of_mem_take h)
/-- where the begins of the first ones lie -/
def RkP (L : RkL) (b : Nat) : Prop := ∃ x ∈ L, ∃ ad, x.2.a = some ad ∧ ad.block = b
/-- what holds between two rounds -/
def RkK (rb B most : Nat) (s : List ((Int × Int) × List Int)) (O Kp : Nat → Prop) (W : World) : Prop :=
  ∃ kv lv L, strip L = s ∧ RkAt W rb B most kv lv L ∧ O = RkO rb kv lv ∧ Kp = RkP L ∧ L.length ≤ most ∧ (∀ b, Kp b → B + 2 ≤ b)
section
variable {rb B most : Nat} {s : List ((Int × Int) × List Int)} {O Kp : Nat → Prop} {W W' : World}
theorem RkK.lt (h : RkK rb B most s O Kp W) : ∀ b, O b ∨ Kp b → b < W.heap.size := by
  obtain ⟨kv, lv, L, hs, hR, rfl, rfl, hm, hl⟩ := h
  rintro b (e | ⟨x, hx, ad, e, rfl⟩)
  · exact hR.lt b e
  · exact ((hR.b x hx).ge ad e).2
theorem RkK.gr (h : RkK rb B most s O Kp W) (g : Gr W W') : RkK rb B most s O Kp W' := by
  obtain ⟨kv, lv, L, hs, hR, h1, h2, hm, hl⟩ := h
  exact ⟨kv, lv, L, hs, hR.gr g, h1, h2, hm, hl⟩
theorem RkK.only {Yb : Nat → Prop} (h : RkK rb B most s O Kp W) (hY : ∀ b, Yb b → b < B) (hO : ∀ b, O b → Yb b ∨ B + 2 ≤ b) (g : Only (fun b => b = B + 1) W W') : RkK rb B most s O Kp W' := by
  obtain ⟨kv, lv, L, hs, hR, h1, h2, hm, hl⟩ := h
  refine ⟨kv, lv, L, hs, hR.only g (fun b hb e => ?_) (fun x hx ad e k => ?_), h1, h2, hm, hl⟩
  · rcases hO b (h1 ▸ hb) with k | k
    · have := hY b k; omega
    · omega
  · have := hl ad.block (h2 ▸ ⟨x, hx, ad, e, rfl⟩)
    omega
theorem RkK.start (h : OwnP W rb 3 (VL [.int .i64 most, .slice none 0 0, .slice none 0 0])) (hB : B ≤ W.heap.size) (hr : rb < B) : RkK rb B most [] (fun b => b = rb) (fun _ => False) W :=
  ⟨.slice none 0 0, .slice none 0 0, [], rfl, ⟨h, OwnR.nil _ _ _ _, OwnR.nil _ _ _ _, fun x hx => (by cases hx), fun x e => (by cases e), fun x hx => (by cases hx), hr, hB⟩, by
    funext b; simp [RkO, Value.ownBlock], by
    funext b; simp [RkP], Nat.zero_le _, fun b e => e.elim⟩
end
end
end Go.Proofs.Ytodedneanlekdaa
