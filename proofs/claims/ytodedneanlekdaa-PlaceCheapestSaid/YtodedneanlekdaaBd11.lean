/- Several texts of this claim in one file. (1) Copies of rows into new memory. Nothing of the program is proved here. (2) Arguments that came in: a problem, numbers, read off their data. -/
import Derived.Test.YtodedneanlekdaaBd10
import Derived.Deep.Upon
import Derived.Laws.StructEq
import Derived.DataElems
import Derived.Test.YtodedneanlekdaaChecked
import Derived.Deep.Slices
import Derived.Deep.Fields
import Derived.ChangeSame
import Derived.Lib.SmallJoins
import Derived.SizedLaws
import Derived.ProofKit
namespace Go.Proofs.Ytodedneanlekdaa
set_option linter.unusedSimpArgs false
set_option linter.unusedVariables false
section
set_option linter.unusedVariables false
open Go.RowKit
/-- 'append' to an empty row of the call's own without room, of any row -/
theorem run_copyN {P : Program} {W : World} {ts ty e : TypeId} {k bytes B m c : Nat} {z : Value} {a0 sa : Option Addr} {news : List Value}
    (hu : P.underlying ts = some (.slice e)) (hinfo : (P.info? e).map (fun i => (i.zero, i.size, i.bytes)) = some (some z, k, bytes)) (hz : z.cells.size = k) (hk : 0 < k)
    (hO : OwnR W B e k (.slice a0 0 0) 0 []) (hsn : sa = none → m = 0) (hl : news.length = m * k) (hsrc : ∀ ad, sa = some ad → ∀ j u, news[j]? = some u → W.cell? (ad.add j) = some u) (h1 : (news.all fun u => u.oneCell') = true)
    (hmax : m ≤ 1000000) (hbt : bytes ≤ 1000) (hB : B ≤ W.heap.size) :
    ∃ a' c' W', (Builtin.append_ #[ts, ts] ty #[.slice a0 0 0, .slice sa m c]).run P W = .ok (.slice a' m c') W' ∧ OwnR W' B e k (.slice a' m c') m news ∧ Gr W W' := by
  obtain ⟨i0, hi, hz0, hsz, hby⟩ := info_parts hinfo
  by_cases h0 : m = 0
  · subst h0
    have hn0 : news = [] := List.eq_nil_of_length_eq_zero (by omega)
    subst hn0
    have hs : Src P i0.size ts (.slice sa 0 c) 0 [] W := by
      refine ⟨.inl ⟨e, hu⟩, fun w' => ?_, ?_, ?_, by simp, fun u hu => by simp at hu⟩
      · simp [Builtin.lenOf]
      · cases sa <;> simp [Builtin.firstCells, loadCells, loadCellsFrom]
      · cases sa <;> simp [Builtin.firstCells, loadCells, loadCellsFrom]
    exact ⟨a0, 0, W, run_append_nothing W ts ts ty e i0 hu hi a0 0 0 (Nat.le_refl _) _ hs, hO, Gr.refl _⟩
  · cases sa with
    | none => exact absurd (hsn rfl) h0
    | some ad =>
      have hb : m * bytes ≤ 140737488355328 := by
        have := Nat.mul_le_mul hmax hbt
        omega
      have hs := Src.ofSlice W (size := i0.size) hu ad m c news (by rw [hsz]; exact hl) (hsrc ad rfl) (fun u hu => List.all_eq_true.1 h1 u hu)
      have hold : (Builtin.firstCells i0.size 0 (.slice a0 0 0)).run P W.drew = .ok ([] : List Value).toArray W.drew := by
        cases a0 <;> simp [Builtin.firstCells, loadCells, loadCellsFrom]
      have hr := run_append_grow_src W ts ts ty e i0 z hu hi hz0 a0 0 0 [] hold (.slice (some ad) m c) m news hs (by omega) (by omega) (by rw [hby]; exact growslice_fits (by omega) (by simpa using hb))
      have hge := grownCap_ge W (0 + m) 0 e
      have hle := grownCap_le_maxLen W (0 + m) 0 e (by unfold maxLen; omega)
      rw [Nat.zero_add] at hr hge hle
      refine ⟨_, _, _, hr, ⟨hl, .inr ⟨W.heap.size, _, _, rfl, hB, heap_alloc_new W.drew _, hge, hle, ?_, ?_⟩⟩, (Gr.drew W).trans (Gr.alloc _ _)⟩
      · simp [size_zeroCells, hz, hl]
        rw [← Nat.add_mul]
        congr 1
        omega
      · simp [hl]
/-- the cells of a row of structures, one behind the other -/
def tbL (V : Nat → Nat → Value) (n k : Nat) : List Value := (List.range (n * k)).map fun j => V (j / k) (j % k)
theorem tbL_len {V : Nat → Nat → Value} {n k : Nat} : (tbL V n k).length = n * k := by simp [tbL]
theorem tbL_get {V : Nat → Nat → Value} {n k j : Nat} {u : Value} (h : (tbL V n k)[j]? = some u) : j < n * k ∧ u = V (j / k) (j % k) := by
  have hj : j < n * k := by have := (List.getElem?_eq_some_iff.1 h).1; rwa [tbL_len] at this
  simp [tbL, hj] at h
  exact ⟨hj, h.symm⟩
theorem tbL_at {V : Nat → Nat → Value} {n k q r : Nat} (hq : q < n) (hr : r < k) : (tbL V n k)[q * k + r]? = some (V q r) := by
  have hlt : q * k + r < n * k := by
    have := Nat.mul_le_mul_right k (show q + 1 ≤ n from hq)
    rw [Nat.add_mul] at this; omega
  have hk : 0 < k := by omega
  simp [tbL, hlt]
  have e1 : (k * q + r) / k = q := by rw [Nat.mul_add_div hk, Nat.div_eq_of_lt hr]; rfl
  have e2 : (k * q + r) % k = r := by rw [Nat.mul_add_mod, Nat.mod_eq_of_lt hr]
  rw [Nat.mul_comm q k, e1]
  first | rw [e2] | rw [Nat.mod_eq_of_lt hr]
theorem TbAt.src {W : World} {k : Nat} {sa : Option Addr} {n c : Nat} {V : Nat → Nat → Value} (h : TbAt W k sa n c V) (hk : 0 < k) : ∀ ad, sa = some ad → ∀ j u, (tbL V n k)[j]? = some u → W.cell? (ad.add j) = some u := by
  intro ad e j u hu
  obtain ⟨hj, rfl⟩ := tbL_get hu
  have hq : j / k < n := (Nat.div_lt_iff_lt_mul hk).2 hj
  obtain ⟨ad', e', _, hc⟩ := h.at hq
  rw [e] at e'
  injection e' with e'
  subst e'
  have := hc (j % k) (Nat.mod_lt _ hk)
  rw [Addr.add_add, show j / k * k + j % k = j by rw [Nat.mul_comm]; exact Nat.div_add_mod j k] at this
  exact this
theorem TbAt.none0 {W : World} {k : Nat} {sa : Option Addr} {n c : Nat} {V : Nat → Nat → Value} (h : TbAt W k sa n c V) : sa = none → n = 0 := fun e => by
  refine Classical.byContradiction fun h0 => ?_
  obtain ⟨ad, e2, _⟩ := h.at (j := 0) (by omega)
  rw [e] at e2; cases e2
/-- a row of the call's own, as a table -/
theorem OwnR.tb {W : World} {B e k n c : Nat} {a : Option Addr} {V : Nat → Nat → Value} (h : OwnR W B e k (.slice a n c) n (tbL V n k)) (hn : n * k * 8 ≤ 140737488351232) : TbAt W k a n c V := by
  rcases h.2 with ⟨h2, h3⟩ | ⟨g, cap, cur, h1, h2, h3, h4, h5, h6, h7⟩
  · injection h2 with h2 _ hc
    subst h3
    exact ⟨Nat.zero_le _, by simp, fun j hj => by omega⟩
  · injection h1 with h1 _ hc
    subst h1 hc
    refine ⟨h4, hn, fun j hj => ⟨_, rfl, (Array.getElem?_eq_some_iff.1 h3).1, fun r hr => ?_⟩⟩
    rw [addr_add0, show (⟨g, j * k, none⟩ : Addr).add r = ⟨g, j * k + r, none⟩ from Y.addr_add _ _ _]
    have hlt : j * k + r < n * k := by
      have := Nat.mul_le_mul_right k (show j + 1 ≤ n from hj)
      rw [Nat.add_mul] at this; omega
    have e8 : (cur.toList.take (n * k))[j * k + r]? = some (V j r) := by rw [h7]; exact tbL_at hj hr
    rw [List.getElem?_take_of_lt hlt] at e8
    exact cell_at h3 (by simpa using e8)
theorem tv_one (p : Pb) (n : Nat) : ((tbL (tvV p) n 4).all fun u => u.oneCell') = true := by
  rw [List.all_eq_true]; intro u hu; obtain ⟨j, _, rfl⟩ := List.mem_map.1 hu
  cases j % 4 <;> rfl
theorem hv_one (p : Pb) (n : Nat) : ((tbL (hvV p) n 6).all fun u => u.oneCell') = true := by
  rw [List.all_eq_true]; intro u hu; obtain ⟨j, _, rfl⟩ := List.mem_map.1 hu
  cases j % 6 <;> rfl
theorem bv_one (p : Pb) (n : Nat) : ((tbL (bvV p) n 3).all fun u => u.oneCell') = true := by
  rw [List.all_eq_true]; intro u hu; obtain ⟨j, _, rfl⟩ := List.mem_map.1 hu
  rfl
theorem lv_one (p : Pb) (n : Nat) : ((tbL (lvV p) n 3).all fun u => u.oneCell') = true := by
  rw [List.all_eq_true]; intro u hu; obtain ⟨j, _, rfl⟩ := List.mem_map.1 hu
  rfl
/-- a row of the call's own, as a property of a value -/
def Y.MP.row (B e k n : Nat) (xs : List Value) : Y.MP := ⟨fun v W => ∃ a c, v = .slice a n c ∧ OwnR W B e k (.slice a n c) n xs, fun _ _ _ ⟨a, c, h1, h2⟩ g => ⟨a, c, h1, h2.gr g⟩⟩
def Y.MP.row0 (B e k : Nat) : Y.MP := ⟨fun v W => ∃ a, v = .slice a 0 0 ∧ OwnR W B e k (.slice a 0 0) 0 [], fun _ _ _ ⟨a, h1, h2⟩ g => ⟨a, h1, h2.gr g⟩⟩
def Y.MP.pbv (B : Nat) (p : Pb) : Y.MP := ⟨fun v W => ∃ t0 c0 t1 c1 t2 c2 t3 c3, v = .agg #[.slice t0 p.nt c0, .slice t1 p.nh c1, .slice t2 p.nb c2, .slice t3 p.nl c3] ∧ OwnR W B 74 4 (.slice t0 p.nt c0) p.nt (tbL (tvV p) p.nt 4) ∧ OwnR W B 53 6 (.slice t1 p.nh c1) p.nh (tbL (hvV p) p.nh 6) ∧ OwnR W B 65 3 (.slice t2 p.nb c2) p.nb (tbL (bvV p) p.nb 3) ∧ OwnR W B 84 3 (.slice t3 p.nl c3) p.nl (tbL (lvV p) p.nl 3),
  fun _ _ _ ⟨t0, c0, t1, c1, t2, c2, t3, c3, h1, h2, h3, h4, h5⟩ g => ⟨t0, c0, t1, c1, t2, c2, t3, c3, h1, h2.gr g, h3.gr g, h4.gr g, h5.gr g⟩⟩
theorem ownR_new {W : World} {B b k e : Nat} (h : W.heap[b]? = some (.cells #[] e)) (hB : B ≤ b) : OwnR W B e k (.slice (some ⟨b, 0, none⟩) 0 0) 0 [] :=
  ⟨by simp, .inr ⟨b, 0, #[], rfl, hB, h, Nat.le_refl _, by unfold maxLen; omega, by simp, by simp⟩⟩
theorem ints_tb {W : World} {a : Option Addr} {n : Nat} {xs : List Int} (h : Ints W a n xs) : (∀ ad, a = some ad → ∀ j u, (xs.map (Value.int .i64))[j]? = some u → W.cell? (ad.add j) = some u) ∧ (a = none → n = 0) :=
  ⟨fun ad e => by subst e; exact h.cells, fun e => by
    subst e
    refine Classical.byContradiction fun h0 => ?_
    obtain ⟨ad, e2, _⟩ := h.at (j := 0) (by omega)
    cases e2⟩
theorem Try.bs22_0 (w : World) : (Instr.buildSlice 22 0 #[]).run Try.prog w = .ok (.slice (some ⟨w.heap.size, 0, none⟩) 0 0) (w.alloc (.cells #[] 74)) := by kernel_rfl
theorem Try.bs23_0 (w : World) : (Instr.buildSlice 23 0 #[]).run Try.prog w = .ok (.slice (some ⟨w.heap.size, 0, none⟩) 0 0) (w.alloc (.cells #[] 53)) := by kernel_rfl
theorem Try.bs24_0 (w : World) : (Instr.buildSlice 24 0 #[]).run Try.prog w = .ok (.slice (some ⟨w.heap.size, 0, none⟩) 0 0) (w.alloc (.cells #[] 65)) := by kernel_rfl
theorem Try.bs25_0 (w : World) : (Instr.buildSlice 25 0 #[]).run Try.prog w = .ok (.slice (some ⟨w.heap.size, 0, none⟩) 0 0) (w.alloc (.cells #[] 84)) := by kernel_rfl
theorem Try.bd27f (a b c d : Option Addr) (n1 c1 n2 c2 n3 c3 n4 c4 : Nat) (w : World) : (Instr.build 27 #[(0, .slice a n1 c1), (1, .slice b n2 c2), (2, .slice c n3 c3), (3, .slice d n4 c4)]).run Try.prog w = .ok (.agg #[.slice a n1 c1, .slice b n2 c2, .slice c n3 c3, .slice d n4 c4]) w := by kernel_rfl
theorem X.bs0 {ρ : Operand → Value} : (([] : List (Nat × Operand)).map fun p => (p.1, ρ p.2)) = [] := rfl
/-- far from what a statement looks at -/
def farB (p : Pb) : Bool := !(decide (p.nt ≤ 20) && decide (p.nh ≤ 20) && decide (p.nb ≤ 40) && decide (p.nl ≤ 40) && allN (fun i => decide ((p.tn i).size ≤ 100)) p.nt && allN (fun i => decide ((p.hn i).size ≤ 100)) p.nh)
section
variable {p : Pb}
theorem far_n (h : ¬ (p.nt ≤ 20 ∧ p.nh ≤ 20 ∧ p.nb ≤ 40 ∧ p.nl ≤ 40)) : farB p = true := by
  cases e : farB p with
  | true => rfl
  | false => simp [farB] at e; exact absurd ⟨e.1.1.1.1.1, e.1.1.1.1.2, e.1.1.1.2, e.1.1.2⟩ h
theorem far_t {i : Nat} (hi : i < p.nt) (h : 100 < (p.tn i).size) : farB p = true := by
  unfold farB; rw [allN_false (f := fun i => decide ((p.tn i).size ≤ 100)) hi (decide_eq_false (by omega))]; simp
theorem far_h {i : Nat} (hi : i < p.nh) (h : 100 < (p.hn i).size) : farB p = true := by
  unfold farB; rw [allN_false (f := fun i => decide ((p.hn i).size ≤ 100)) hi (decide_eq_false (by omega))]; simp
theorem far_no (h : p.nt ≤ 20 ∧ p.nh ≤ 20 ∧ p.nb ≤ 40 ∧ p.nl ≤ 40) (h1 : allN (fun i => decide ((p.tn i).size ≤ 100)) p.nt = true) (h2 : allN (fun i => decide ((p.hn i).size ≤ 100)) p.nh = true) : farB p = false := by
  unfold farB; rw [h1, h2]; simp [h]
theorem far_sz (h : farB p = false) : p.nt ≤ 20 ∧ p.nh ≤ 20 ∧ p.nb ≤ 40 ∧ p.nl ≤ 40 := by
  simp [farB] at h; exact ⟨h.1.1.1.1.1, h.1.1.1.1.2, h.1.1.1.2, h.1.1.2⟩
/-- as far, or with more plans than a statement goes through -/
def largeB (p : Pb) : Bool := farB p || (decide (chkE p = 0) && (decide (5 < p.nt) || decide (4 < p.nh)))
end
end
section
open Go.ChangeShapes Go.WideShapes Go.RowKit Go.Deep Go.Joins

/-- nothing in the datum passes the reach -/
def Wt {H : Type} (t : TypeId) (d : DataW H) : Prop := ∀ x ∈ d.weights Try.prog t, x ≤ reachBytes

theorem Wt.each {H : Type} {ts : List TypeId} {ds : List (DataW H)} (h : (DataW.weightsEach Try.prog ts ds).all (· ≤ reachBytes) = true) {j : Nat} {t : TypeId} {d : DataW H} (ht : ts[j]? = some t) (hd : ds[j]? = some d) : Wt t d := fun x hx => by
  have := List.all_eq_true.1 h _ (DataW.weights_mem_each ht hd x hx)
  simpa using this
theorem Wt.field {H : Type} {t : TypeId} {fs : Array Field} {parts : List (DataW H)} (hs : Try.prog.underlying t = some (.struct fs)) (h : Wt t (.agg parts)) {j : Nat} {ft : TypeId} {d : DataW H} (ht : (fs.toList.map (·.type))[j]? = some ft) (hd : parts[j]? = some d) : Wt ft d := fun x hx =>
  h x (by simp only [DataW.weights, hs]; exact DataW.weights_mem_each ht hd x hx)
theorem weights_all {H : Type} {e : TypeId} : ∀ {l : List (DataW H)} {d : DataW H}, d ∈ l → ∀ x ∈ d.weights Try.prog e, x ∈ DataW.weightsAll Try.prog e l := by
  intro l
  induction l with
  | nil => intro d h; simp at h
  | cons a l ih =>
    intro d h x hx
    simp only [DataW.weightsAll, List.mem_append]
    rcases List.mem_cons.1 h with rfl | h
    · exact .inl hx
    · exact .inr (ih h x hx)
theorem Wt.elem {H : Type} {t e : TypeId} {elems spare : List (DataW H)} (hs : Try.prog.underlying t = some (.slice e)) (h : Wt t (.slice elems spare)) {d : DataW H} (hd : d ∈ elems) : Wt e d := fun x hx =>
  h x (by simp only [DataW.weights, hs, List.mem_cons, List.mem_append]; exact .inr (.inl (weights_all hd x hx)))
theorem Wt.len {H : Type} {t e : TypeId} {elems spare : List (DataW H)} (hs : Try.prog.underlying t = some (.slice e)) (h : Wt t (.slice elems spare)) : (elems.length + spare.length) * Try.prog.bytesOf e ≤ reachBytes :=
  h _ (by simp only [DataW.weights, hs, List.mem_cons, true_or])

section
variable {H : Type} {enc : TypeId × Value → H} {w : World} {base : Nat} {spare : Nat → Bool} {held : Bool}

theorem cell_blk {w : World} {p : Addr} {v : Value} (h : w.cell? p = some v) : p.block < w.heap.size := by
  unfold World.cell? at h
  cases hb : w.heap[p.block]? with
  | none => rw [hb] at h; simp at h
  | some o => exact (Array.getElem?_eq_some_iff.1 hb).1

theorem Try.cells3 : Try.prog.cellsOf 3 = 1 := by kernel_rfl
theorem Try.cells9 : Try.prog.cellsOf 9 = 1 := by kernel_rfl
theorem Try.cells74 : Try.prog.cellsOf 74 = 4 := by kernel_rfl
theorem Try.cells53 : Try.prog.cellsOf 53 = 6 := by kernel_rfl
theorem Try.cells65 : Try.prog.cellsOf 65 = 3 := by kernel_rfl
theorem Try.cells84 : Try.prog.cellsOf 84 = 3 := by kernel_rfl
theorem Try.cells34 : Try.prog.cellsOf 34 = 1 := by kernel_rfl
theorem Try.bytes74 : Try.prog.bytesOf 74 = 40 := by kernel_rfl
theorem Try.bytes53 : Try.prog.bytesOf 53 = 56 := by kernel_rfl
theorem Try.bytes65 : Try.prog.bytesOf 65 = 24 := by kernel_rfl
theorem Try.bytes84 : Try.prog.bytesOf 84 = 24 := by kernel_rfl
theorem Try.bytes3 : Try.prog.bytesOf 3 = 8 := by kernel_rfl
theorem TbAt.nil0 (w : World) (k c : Nat) (a : Option Addr) (V : Nat → Nat → Value) : TbAt w k a 0 c V := ⟨Nat.zero_le _, by simp, fun j hj => by omega⟩
theorem TbAt.congr {w : World} {k n c : Nat} {a : Option Addr} {V V' : Nat → Nat → Value} (h : TbAt w k a n c V) (e : ∀ j r, V j r = V' j r) : TbAt w k a n c V' := by
  have : V = V' := funext fun j => funext fun r => e j r
  rw [← this]; exact h
/-- choose a list -/
theorem list_of {α : Type} {P : Nat → α → Prop} (d : α) : ∀ n, (∀ j, j < n → ∃ x, P j x) → ∃ L : List α, L.length = n ∧ ∀ j, j < n → P j (L[j]?.getD d) := by
  intro n
  induction n with
  | zero => intro _; exact ⟨[], rfl, fun j hj => by omega⟩
  | succ n ih =>
    intro h
    obtain ⟨L, hl, hL⟩ := ih (fun j hj => h j (by omega))
    obtain ⟨x, hx⟩ := h n (by omega)
    refine ⟨L ++ [x], by simp [hl], fun j hj => ?_⟩
    by_cases e : j = n
    · subst e; rw [← hl]; simpa [hl] using hx
    · rw [List.getElem?_append_left (by omega)]; exact hL j (by omega)

theorem len3 {α : Type} {l : List α} (h : l.length = 3) : ∃ a b c, l = [a, b, c] := by
  match l, h with
  | [a, b, c], _ => exact ⟨a, b, c, rfl⟩
theorem len4 {α : Type} {l : List α} (h : l.length = 4) : ∃ a b c d, l = [a, b, c, d] := by
  match l, h with
  | [a, b, c, d], _ => exact ⟨a, b, c, d, rfl⟩
theorem len6 {α : Type} {l : List α} (h : l.length = 6) : ∃ a b c d e f, l = [a, b, c, d, e, f] := by
  match l, h with
  | [a, b, c, d, e, f], _ => exact ⟨a, b, c, d, e, f, rfl⟩
theorem open_s22 {fuel : Nat} {v : Value} {x : DataW H × List MemPlace} (h : DataW.trod enc Try.prog w base spare held fuel 22 [v] = some x) (hw : Wt 22 x.1) : ∃ (a : Option Addr) (n c : Nat) (L : List (ByteArray × List Int)), v = .slice a n c ∧ TbAt w 4 a n c (fun j r => if r = 0 then .string (L[j]?.getD (ByteArray.empty, [])).1 else .int .i64 ((L[j]?.getD (ByteArray.empty, [])).2[r]?.getD 0)) ∧ ∀ j, j < n → (L[j]?.getD (ByteArray.empty, [])).1.size ≤ 9223372036854775807 := by
  rcases open_slice Try.underlying22 h with ⟨hcs, _⟩ | ⟨a, len, cap, m, n, D, Pl, hcs, hb, hl, hm, hmm, hx, hi⟩
  · simp at hcs
    exact ⟨none, 0, 0, [], hcs, TbAt.nil0 _ _ _ _ _, fun j hj => by omega⟩
  · simp at hcs
    subst hcs
    have hlm : len ≤ m := by rw [hmm]; split <;> omega
    have hw1 := hw
    rw [hx] at hw1
    have hlen := hw1.len Try.underlying22
    rw [Try.bytes74] at hlen
    simp only [List.length_map, List.length_range, reachBytes] at hlen
    obtain ⟨C, hC1, hC2⟩ := list_of (P := fun j (c : ByteArray × List Int) => (c.1.size ≤ 9223372036854775807 ∧ w.cell? ((a.add (j * 4)).add 0) = some (.string c.1)) ∧ ∀ r, 0 < r → r < 4 → w.cell? ((a.add (j * 4)).add r) = some (.int .i64 (c.2[r]?.getD 0))) (ByteArray.empty, []) len (fun j hj => by
      obtain ⟨cs', hc, ht'⟩ := hi j (by omega)
      rw [Try.cells74] at hc
      obtain ⟨_, hcl, hat⟩ := World.cells?_some hc
      obtain ⟨ys, n', hn', hy, hlen', hyl, hf⟩ := DataW.trod_struct Try.underlying74 ht'
      have hyln : ys.length = 4 := by simpa using hyl
      obtain ⟨c0, c1, c2, c3, rfl⟩ := len4 hcl
      obtain ⟨y0, y1, y2, y3, rfl⟩ := len4 hyln
      have f0 := hf 0 _ rfl
      have f1 := hf 1 _ rfl
      have f2 := hf 2 _ rfl
      have f3 := hf 3 _ rfl
      simp [Try.cells3, Try.cells9] at f0 f1 f2 f3
      obtain ⟨s0, e0, _, hs0⟩ := DataW.trod_string Try.underlying9 f0
      obtain ⟨i1, e1, _⟩ := DataW.trod_int Try.underlying3 f1
      obtain ⟨i2, e2, _⟩ := DataW.trod_int Try.underlying3 f2
      obtain ⟨i3, e3, _⟩ := DataW.trod_int Try.underlying3 f3
      simp at e0 e1 e2 e3
      subst e0 e1 e2 e3
      exact ⟨(s0, [0, i1, i2, i3]), ⟨by unfold maxLen at hs0; exact hs0, hat 0 (by omega)⟩, fun r h0 hr => by
        match r, h0, hr with
        | 1, _, _ => exact hat 1 (by omega)
        | 2, _, _ => exact hat 2 (by omega)
        | 3, _, _ => exact hat 3 (by omega)⟩)
    refine ⟨some a, len, cap, C, rfl, ⟨hl, by omega, fun j hj => ?_⟩, fun j hj => (hC2 j hj).1.1⟩
    obtain ⟨⟨_, h0⟩, h1⟩ := hC2 j hj
    refine ⟨a, rfl, by have := cell_blk h0; rwa [add_block, add_block] at this, fun r hr => ?_⟩
    by_cases e : r = 0
    · subst e; exact h0
    · show _ = some (ite _ _ _)
      rw [if_neg e]; exact h1 r (by omega) hr
theorem open_s23 {fuel : Nat} {v : Value} {x : DataW H × List MemPlace} (h : DataW.trod enc Try.prog w base spare held fuel 23 [v] = some x) (hw : Wt 23 x.1) : ∃ (a : Option Addr) (n c : Nat) (L : List (ByteArray × List Int)), v = .slice a n c ∧ TbAt w 6 a n c (fun j r => if r = 0 then .string (L[j]?.getD (ByteArray.empty, [])).1 else .int .i64 ((L[j]?.getD (ByteArray.empty, [])).2[r]?.getD 0)) ∧ ∀ j, j < n → (L[j]?.getD (ByteArray.empty, [])).1.size ≤ 9223372036854775807 := by
  rcases open_slice Try.underlying23 h with ⟨hcs, _⟩ | ⟨a, len, cap, m, n, D, Pl, hcs, hb, hl, hm, hmm, hx, hi⟩
  · simp at hcs
    exact ⟨none, 0, 0, [], hcs, TbAt.nil0 _ _ _ _ _, fun j hj => by omega⟩
  · simp at hcs
    subst hcs
    have hlm : len ≤ m := by rw [hmm]; split <;> omega
    have hw1 := hw
    rw [hx] at hw1
    have hlen := hw1.len Try.underlying23
    rw [Try.bytes53] at hlen
    simp only [List.length_map, List.length_range, reachBytes] at hlen
    obtain ⟨C, hC1, hC2⟩ := list_of (P := fun j (c : ByteArray × List Int) => (c.1.size ≤ 9223372036854775807 ∧ w.cell? ((a.add (j * 6)).add 0) = some (.string c.1)) ∧ ∀ r, 0 < r → r < 6 → w.cell? ((a.add (j * 6)).add r) = some (.int .i64 (c.2[r]?.getD 0))) (ByteArray.empty, []) len (fun j hj => by
      obtain ⟨cs', hc, ht'⟩ := hi j (by omega)
      rw [Try.cells53] at hc
      obtain ⟨_, hcl, hat⟩ := World.cells?_some hc
      obtain ⟨ys, n', hn', hy, hlen', hyl, hf⟩ := DataW.trod_struct Try.underlying53 ht'
      have hyln : ys.length = 6 := by simpa using hyl
      obtain ⟨c0, c1, c2, c3, c4, c5, rfl⟩ := len6 hcl
      obtain ⟨y0, y1, y2, y3, y4, y5, rfl⟩ := len6 hyln
      have f0 := hf 0 _ rfl
      have f1 := hf 1 _ rfl
      have f2 := hf 2 _ rfl
      have f3 := hf 3 _ rfl
      have f4 := hf 4 _ rfl
      have f5 := hf 5 _ rfl
      simp [Try.cells3, Try.cells9] at f0 f1 f2 f3 f4 f5
      obtain ⟨s0, e0, _, hs0⟩ := DataW.trod_string Try.underlying9 f0
      obtain ⟨i1, e1, _⟩ := DataW.trod_int Try.underlying3 f1
      obtain ⟨i2, e2, _⟩ := DataW.trod_int Try.underlying3 f2
      obtain ⟨i3, e3, _⟩ := DataW.trod_int Try.underlying3 f3
      obtain ⟨i4, e4, _⟩ := DataW.trod_int Try.underlying3 f4
      obtain ⟨i5, e5, _⟩ := DataW.trod_int Try.underlying3 f5
      simp at e0 e1 e2 e3 e4 e5
      subst e0 e1 e2 e3 e4 e5
      exact ⟨(s0, [0, i1, i2, i3, i4, i5]), ⟨by unfold maxLen at hs0; exact hs0, hat 0 (by omega)⟩, fun r h0 hr => by
        match r, h0, hr with
        | 1, _, _ => exact hat 1 (by omega)
        | 2, _, _ => exact hat 2 (by omega)
        | 3, _, _ => exact hat 3 (by omega)
        | 4, _, _ => exact hat 4 (by omega)
        | 5, _, _ => exact hat 5 (by omega)⟩)
    refine ⟨some a, len, cap, C, rfl, ⟨hl, by omega, fun j hj => ?_⟩, fun j hj => (hC2 j hj).1.1⟩
    obtain ⟨⟨_, h0⟩, h1⟩ := hC2 j hj
    refine ⟨a, rfl, by have := cell_blk h0; rwa [add_block, add_block] at this, fun r hr => ?_⟩
    by_cases e : r = 0
    · subst e; exact h0
    · show _ = some (ite _ _ _)
      rw [if_neg e]; exact h1 r (by omega) hr
theorem open_s24 {fuel : Nat} {v : Value} {x : DataW H × List MemPlace} (h : DataW.trod enc Try.prog w base spare held fuel 24 [v] = some x) (hw : Wt 24 x.1) : ∃ (a : Option Addr) (n c : Nat) (L : List (List Int)), v = .slice a n c ∧ TbAt w 3 a n c (fun j r => .int .i64 ((L[j]?.getD [])[r]?.getD 0)) := by
  rcases open_slice Try.underlying24 h with ⟨hcs, _⟩ | ⟨a, len, cap, m, n, D, Pl, hcs, hb, hl, hm, hmm, hx, hi⟩
  · simp at hcs
    exact ⟨none, 0, 0, [], hcs, TbAt.nil0 _ _ _ _ _⟩
  · simp at hcs
    subst hcs
    have hlm : len ≤ m := by rw [hmm]; split <;> omega
    have hw1 := hw
    rw [hx] at hw1
    have hlen := hw1.len Try.underlying24
    rw [Try.bytes65] at hlen
    simp only [List.length_map, List.length_range, reachBytes] at hlen
    obtain ⟨C, hC1, hC2⟩ := list_of (P := fun j (c : List Int) => ∀ r, r < 3 → w.cell? ((a.add (j * 3)).add r) = some (.int .i64 (c[r]?.getD 0))) [] len (fun j hj => by
      obtain ⟨cs', hc, ht'⟩ := hi j (by omega)
      rw [Try.cells65] at hc
      obtain ⟨_, hcl, hat⟩ := World.cells?_some hc
      obtain ⟨ys, n', hn', hy, hlen', hyl, hf⟩ := DataW.trod_struct Try.underlying65 ht'
      have hyln : ys.length = 3 := by simpa using hyl
      obtain ⟨c0, c1, c2, rfl⟩ := len3 hcl
      obtain ⟨y0, y1, y2, rfl⟩ := len3 hyln
      have f0 := hf 0 _ rfl
      have f1 := hf 1 _ rfl
      have f2 := hf 2 _ rfl
      simp [Try.cells3, Try.cells9] at f0 f1 f2
      obtain ⟨i0, e0, _⟩ := DataW.trod_int Try.underlying3 f0
      obtain ⟨i1, e1, _⟩ := DataW.trod_int Try.underlying3 f1
      obtain ⟨i2, e2, _⟩ := DataW.trod_int Try.underlying3 f2
      simp at e0 e1 e2
      subst e0 e1 e2
      exact ⟨[i0, i1, i2], fun r hr => by
        match r, hr with
        | 0, _ => exact hat 0 (by omega)
        | 1, _ => exact hat 1 (by omega)
        | 2, _ => exact hat 2 (by omega)⟩)
    refine ⟨some a, len, cap, C, rfl, hl, by omega, fun j hj => ?_⟩
    have h1 := hC2 j hj
    exact ⟨a, rfl, by have := cell_blk (h1 0 (by decide)); rwa [add_block, add_block] at this, h1⟩
theorem open_s25 {fuel : Nat} {v : Value} {x : DataW H × List MemPlace} (h : DataW.trod enc Try.prog w base spare held fuel 25 [v] = some x) (hw : Wt 25 x.1) : ∃ (a : Option Addr) (n c : Nat) (L : List (List Int)), v = .slice a n c ∧ TbAt w 3 a n c (fun j r => .int .i64 ((L[j]?.getD [])[r]?.getD 0)) := by
  rcases open_slice Try.underlying25 h with ⟨hcs, _⟩ | ⟨a, len, cap, m, n, D, Pl, hcs, hb, hl, hm, hmm, hx, hi⟩
  · simp at hcs
    exact ⟨none, 0, 0, [], hcs, TbAt.nil0 _ _ _ _ _⟩
  · simp at hcs
    subst hcs
    have hlm : len ≤ m := by rw [hmm]; split <;> omega
    have hw1 := hw
    rw [hx] at hw1
    have hlen := hw1.len Try.underlying25
    rw [Try.bytes84] at hlen
    simp only [List.length_map, List.length_range, reachBytes] at hlen
    obtain ⟨C, hC1, hC2⟩ := list_of (P := fun j (c : List Int) => ∀ r, r < 3 → w.cell? ((a.add (j * 3)).add r) = some (.int .i64 (c[r]?.getD 0))) [] len (fun j hj => by
      obtain ⟨cs', hc, ht'⟩ := hi j (by omega)
      rw [Try.cells84] at hc
      obtain ⟨_, hcl, hat⟩ := World.cells?_some hc
      obtain ⟨ys, n', hn', hy, hlen', hyl, hf⟩ := DataW.trod_struct Try.underlying84 ht'
      have hyln : ys.length = 3 := by simpa using hyl
      obtain ⟨c0, c1, c2, rfl⟩ := len3 hcl
      obtain ⟨y0, y1, y2, rfl⟩ := len3 hyln
      have f0 := hf 0 _ rfl
      have f1 := hf 1 _ rfl
      have f2 := hf 2 _ rfl
      simp [Try.cells3, Try.cells9] at f0 f1 f2
      obtain ⟨i0, e0, _⟩ := DataW.trod_int Try.underlying3 f0
      obtain ⟨i1, e1, _⟩ := DataW.trod_int Try.underlying3 f1
      obtain ⟨i2, e2, _⟩ := DataW.trod_int Try.underlying3 f2
      simp at e0 e1 e2
      subst e0 e1 e2
      exact ⟨[i0, i1, i2], fun r hr => by
        match r, hr with
        | 0, _ => exact hat 0 (by omega)
        | 1, _ => exact hat 1 (by omega)
        | 2, _ => exact hat 2 (by omega)⟩)
    refine ⟨some a, len, cap, C, rfl, hl, by omega, fun j hj => ?_⟩
    have h1 := hC2 j hj
    exact ⟨a, rfl, by have := cell_blk (h1 0 (by decide)); rwa [add_block, add_block] at this, h1⟩
/-- numbers -/
theorem open_s34 {fuel : Nat} {v : Value} {x : DataW H × List MemPlace} (h : DataW.trod enc Try.prog w base spare held fuel 34 [v] = some x) (hw : Wt 34 x.1) : ∃ a c xs, v = .slice a (List.length xs) c ∧ Ints w a (List.length xs) xs := by
  rcases open_slice Try.underlying34 h with ⟨hcs, _⟩ | ⟨a, len, cap, m, n, D, Pl, hcs, hb, hl, hm, hmm, hx, hi⟩
  · simp at hcs
    exact ⟨none, 0, [], hcs, rfl, by decide, fun j hj => by simp at hj⟩
  · simp at hcs
    subst hcs
    have hlm : len ≤ m := by rw [hmm]; split <;> omega
    have hw1 := hw
    rw [hx] at hw1
    have hlen := hw1.len Try.underlying34
    rw [Try.bytes3] at hlen
    simp only [List.length_map, List.length_range, reachBytes] at hlen
    obtain ⟨C, hC1, hC2⟩ := list_of (P := fun j (c : Int) => w.cell? (a.add j) = some (.int .i64 c)) 0 len (fun j hj => by
      obtain ⟨cs', hc, ht'⟩ := hi j (by omega)
      rw [Try.cells3] at hc
      obtain ⟨_, hcl, hat⟩ := World.cells?_some hc
      obtain ⟨i0, e0, _⟩ := DataW.trod_int Try.underlying3 ht'
      subst e0
      have := hat 0 (by omega)
      rw [Addr.add_add] at this
      simp at this
      exact ⟨i0, this⟩)
    subst hC1
    refine ⟨some a, cap, C, rfl, rfl, by omega, fun j hj => ⟨a, rfl, ?_, hC2 j hj⟩⟩
    have := cell_blk (hC2 j hj); rwa [add_block] at this
theorem okWide_sl {P : Program} {t e : TypeId} {r : Reach} {b0 : Nat} {v : Value} (ht : P.underlying t = some (.slice e)) (h : Value.okWide P w r b0 t v) : v.cells.toList = [v] := by
  simp only [Value.okWide, ht, Cell.okWide] at h
  cases v <;> simp_all [Cell.ok, Value.cells]
set_option maxRecDepth 100000 in
/-- numbers -/
theorem open_xs {r : Reach} {b0 : Nat} {v : Value} {d : DataW H} {p : List MemPlace} (hv : Value.okWide Try.prog w r b0 34 v) (h : DataW.Trod enc Try.prog w base spare held 34 v d p) (hw : Wt 34 d) :
    ∃ a c xs, v = .slice a (List.length xs) c ∧ Ints w a (List.length xs) xs := by
  obtain ⟨fuel, hf⟩ := h
  have hvs := okWide_sl Try.underlying34 hv
  rw [hvs] at hf
  exact open_s34 (x := (d, p)) hf hw
set_option maxRecDepth 100000 in
/-- a problem -/
theorem open_pb {r : Reach} {b0 : Nat} {v : Value} {d : DataW H} {p : List MemPlace} (hv : Value.okWide Try.prog w r b0 27 v) (h : DataW.Trod enc Try.prog w base spare held 27 v d p) (hw : Wt 27 d) :
    ∃ (p : Pb) (ta ha ba la : Option Addr) (tc hc bc lc : Nat), v = .agg #[.slice ta p.nt tc, .slice ha p.nh hc, .slice ba p.nb bc, .slice la p.nl lc] ∧ PbAt w p ta ha ba la tc hc bc lc := by
  obtain ⟨v0, v1, v2, v3, y0, y1, y2, y3, n, rfl, rfl, _, h0, h1, h2, h3⟩ := open_agg4 Try.underlying27 (by kernel_rfl) (by kernel_rfl) hv h
  obtain ⟨ta, nt, tc, T, rfl, hT, hs1⟩ := open_s22 h0 (hw.field Try.underlying27 (j := 0) (ft := 22) (by simp) (by simp))
  obtain ⟨ha, nh, hc, H, rfl, hH, hs2⟩ := open_s23 h1 (hw.field Try.underlying27 (j := 1) (ft := 23) (by simp) (by simp))
  obtain ⟨ba, nb, bc, B, rfl, hB⟩ := open_s24 h2 (hw.field Try.underlying27 (j := 2) (ft := 24) (by simp) (by simp))
  obtain ⟨la, nl, lc, L, rfl, hL⟩ := open_s25 h3 (hw.field Try.underlying27 (j := 3) (ft := 25) (by simp) (by simp))
  refine ⟨⟨nt, nh, nb, nl, fun j => (T[j]?.getD (ByteArray.empty, [])).1, fun j r => (T[j]?.getD (ByteArray.empty, [])).2[r]?.getD 0, fun j => (H[j]?.getD (ByteArray.empty, [])).1, fun j r => (H[j]?.getD (ByteArray.empty, [])).2[r]?.getD 0, fun j r => (B[j]?.getD [])[r]?.getD 0, fun j r => (L[j]?.getD [])[r]?.getD 0⟩, ta, ha, ba, la, tc, hc, bc, lc, rfl, ⟨hT.congr ?_, hH.congr ?_, hB, hL, hs1, hs2⟩⟩
  · intro j r; cases r <;> rfl
  · intro j r; cases r <;> rfl
end
end
end Go.Proofs.Ytodedneanlekdaa
