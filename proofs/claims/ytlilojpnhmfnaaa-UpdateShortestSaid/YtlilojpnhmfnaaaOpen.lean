/- Arguments that came in: a fleet, a state, a trip, read off their data. -/
import Derived.Test.YtlilojpnhmfnaaaBase
import Derived.Test.YtlilojpnhmfnaaaChecked
import Derived.Deep.Slices
import Derived.Deep.Fields
import Derived.ChangeSame
import Derived.Lib.SmallJoins
import Derived.SizedLaws
import Derived.ProofKit
namespace Go.Proofs.Ytlilojpnhmfnaaa
open Go.ChangeShapes Go.WideShapes Go.RowKit Go.Deep Go.Joins

/-- nothing in the datum passes the reach -/
def Wt {H : Type} (t : TypeId) (d : DataW H) : Prop := ∀ x ∈ d.weights Try.prog t, x ≤ reachBytes

theorem Wt.each {H : Type} {ts : List TypeId} {ds : List (DataW H)} (h : (DataW.weightsEach Try.prog ts ds).all (· ≤ reachBytes) = true) {j : Nat} {t : TypeId} {d : DataW H} (ht : ts[j]? = some t) (hd : ds[j]? = some d) : Wt t d := fun x hx => by
  have := List.all_eq_true.1 h _ (DataW.weights_mem_each ht hd x hx)
  simpa using this
theorem Wt.field {H : Type} {t : TypeId} {fs : Array Field} {parts : List (DataW H)} (hs : Try.prog.underlying t = some (.struct fs)) (h : Wt t (.agg parts)) {j : Nat} {ft : TypeId} {d : DataW H} (ht : (fs.toList.map (·.type))[j]? = some ft) (hd : parts[j]? = some d) : Wt ft d := fun x hx =>
  h x (by simp only [DataW.weights, hs]; exact DataW.weights_mem_each ht hd x hx)
theorem weights_all {H : Type} {e : TypeId} : ∀ {l : List (DataW H)} {d : DataW H}, d ∈ l → ∀ x ∈ d.weights Try.prog e, x ∈ DataW.weightsAll Try.prog e l := by
  intro l
  induction l with
  | nil => intro d h; simp at h
  | cons a l ih =>
    intro d h x hx
    simp only [DataW.weightsAll, List.mem_append]
    rcases List.mem_cons.1 h with rfl | h
    · exact .inl hx
    · exact .inr (ih h x hx)
theorem Wt.elem {H : Type} {t e : TypeId} {elems spare : List (DataW H)} (hs : Try.prog.underlying t = some (.slice e)) (h : Wt t (.slice elems spare)) {d : DataW H} (hd : d ∈ elems) : Wt e d := fun x hx =>
  h x (by simp only [DataW.weights, hs, List.mem_cons, List.mem_append]; exact .inr (.inl (weights_all hd x hx)))
theorem Wt.len {H : Type} {t e : TypeId} {elems spare : List (DataW H)} (hs : Try.prog.underlying t = some (.slice e)) (h : Wt t (.slice elems spare)) : (elems.length + spare.length) * Try.prog.bytesOf e ≤ reachBytes :=
  h _ (by simp only [DataW.weights, hs, List.mem_cons, true_or])

section
variable {H : Type} {enc : TypeId × Value → H} {w : World} {base : Nat} {spare : Nat → Bool} {held : Bool}

theorem cell_blk {w : World} {p : Addr} {v : Value} (h : w.cell? p = some v) : p.block < w.heap.size := by
  unfold World.cell? at h
  cases hb : w.heap[p.block]? with
  | none => rw [hb] at h; simp at h
  | some o => exact (Array.getElem?_eq_some_iff.1 hb).1

theorem Try.cells3 : Try.prog.cellsOf 3 = 1 := by kernel_rfl
theorem Try.bytes3 : Try.prog.bytesOf 3 = 8 := by kernel_rfl
theorem Try.bytes26 : Try.prog.bytesOf 26 = 24 := by kernel_rfl
theorem Try.bytes70 : Try.prog.bytesOf 70 = 32 := by kernel_rfl
theorem Try.cells26 : Try.prog.cellsOf 26 = 1 := by kernel_rfl
theorem Try.cells70 : Try.prog.cellsOf 70 = 4 := by kernel_rfl

/-- a slice of numbers -/
theorem open_st {fuel : Nat} {v : Value} {x : DataW H × List MemPlace} (h : DataW.trod enc Try.prog w base spare held fuel 26 [v] = some x) (hw : Wt 26 x.1) : ∃ a n c xs, v = .slice a n c ∧ Ints w a n xs := by
  rcases open_ints Try.underlying26 Try.underlying3 Try.cells3 h with ⟨hcs, _⟩ | ⟨a, len, cap, zs, hcs, _, hl, hm, hz, hx, hcell, hwz⟩
  · simp at hcs
    exact ⟨none, 0, 0, [], hcs, rfl, by omega, fun j hj => by omega⟩
  · simp at hcs
    subst hcs
    have hlz : len ≤ zs.length := by rw [hz]; split <;> omega
    have hb := by
      have h1 := hw
      rw [hx] at h1
      have := h1.len Try.underlying26
      rw [Try.bytes3] at this
      simp only [lits, List.length_map, List.length_take, List.length_drop, reachBytes] at this
      exact this
    refine ⟨some a, len, cap, zs.take len, rfl, by simp; omega, by omega, fun j hj => ?_⟩
    have hc := hcell j (by omega)
    refine ⟨a, rfl, ?_, ?_⟩
    · have := cell_blk hc; rwa [add_block] at this
    · rw [hc]; simp [hj, List.getD_eq_getElem?_getD]

/-- choose a list -/
theorem list_of {α : Type} {P : Nat → α → Prop} (d : α) : ∀ n, (∀ j, j < n → ∃ x, P j x) → ∃ L : List α, L.length = n ∧ ∀ j, j < n → P j (L[j]?.getD d) := by
  intro n
  induction n with
  | zero => intro _; exact ⟨[], rfl, fun j hj => by omega⟩
  | succ n ih =>
    intro h
    obtain ⟨L, hl, hL⟩ := ih (fun j hj => h j (by omega))
    obtain ⟨x, hx⟩ := h n (by omega)
    refine ⟨L ++ [x], by simp [hl], fun j hj => ?_⟩
    by_cases e : j = n
    · subst e; rw [← hl]; simpa [hl] using hx
    · rw [List.getElem?_append_left (by omega)]; exact hL j (by omega)

/-- a slice of slices of numbers -/
theorem open_rs {fuel : Nat} {v : Value} {x : DataW H × List MemPlace} (h : DataW.trod enc Try.prog w base spare held fuel 22 [v] = some x) (hw : Wt 22 x.1) : ∃ a n c L, v = .slice a n c ∧ RowsAt w a n L := by
  rcases open_slice Try.underlying22 h with ⟨hcs, _⟩ | ⟨a, len, cap, m, n, D, Pl, hcs, hb, hl, hm, hmm, hx, hi⟩
  · simp at hcs
    exact ⟨none, 0, 0, [], hcs, rfl, by omega, fun j hj => by omega⟩
  · simp at hcs
    subst hcs
    have hlm : len ≤ m := by rw [hmm]; split <;> omega
    have hw1 := hw
    rw [hx] at hw1
    have hlen := hw1.len Try.underlying22
    rw [Try.bytes26] at hlen
    simp only [List.length_map, List.length_range, reachBytes] at hlen
    obtain ⟨L, hL1, hL2⟩ := list_of (P := fun j xs => ∃ a' n' c', w.cell? (a.add j) = some (.slice a' n' c') ∧ Ints w a' n' xs) [] len (fun j hj => by
      obtain ⟨cs', hc, ht'⟩ := hi j (by omega)
      rw [Try.cells26, Nat.mul_one] at hc
      obtain ⟨_, hcl, hat⟩ := World.cells?_some hc
      match cs', hcl with
      | [v0], _ =>
        have hcell := hat 0 (by omega)
        have hwj : Wt 26 (D j) := hw1.elem Try.underlying22 (List.mem_map.2 ⟨j, List.mem_range.2 hj, rfl⟩)
        obtain ⟨a', n', c', xs, rfl, hI⟩ := open_st ht' hwj
        refine ⟨xs, a', n', c', ?_, hI⟩
        have e : (a.add j).add 0 = a.add j := by rw [Go.Deep.add_add]; rfl
        rw [e] at hcell
        simpa using hcell)
    refine ⟨some a, len, cap, L, rfl, hL1, by omega, fun j hj => ?_⟩
    obtain ⟨a', n', c', h1, h2⟩ := hL2 j hj
    exact ⟨a, a', n', c', rfl, by have := cell_blk h1; rwa [add_block] at this, h1, h2⟩

theorem four {α : Type} {l : List α} (h : l.length = 4) : ∃ a b c d, l = [a, b, c, d] := by
  match l, h with
  | [a, b, c, d], _ => exact ⟨a, b, c, d, rfl⟩

/-- a slice of clashes -/
theorem open_cl {fuel : Nat} {v : Value} {x : DataW H × List MemPlace} (h : DataW.trod enc Try.prog w base spare held fuel 23 [v] = some x) (hw : Wt 23 x.1) : ∃ a n c C, v = .slice a n c ∧ ClAt w a n C := by
  rcases open_slice Try.underlying23 h with ⟨hcs, _⟩ | ⟨a, len, cap, m, n, D, Pl, hcs, hb, hl, hm, hmm, hx, hi⟩
  · simp at hcs
    exact ⟨none, 0, 0, [], hcs, rfl, by omega, fun j hj => by omega⟩
  · simp at hcs
    subst hcs
    have hlm : len ≤ m := by rw [hmm]; split <;> omega
    have hw1 := hw
    rw [hx] at hw1
    have hlen := hw1.len Try.underlying23
    rw [Try.bytes70] at hlen
    simp only [List.length_map, List.length_range, reachBytes] at hlen
    obtain ⟨C, hC1, hC2⟩ := list_of (P := fun j (c : Cl) => w.cell? (a.add (j * 4)) = some (.int .i64 c.a) ∧ w.cell? ((a.add (j * 4)).add 1) = some (.int .i64 c.va) ∧ w.cell? ((a.add (j * 4)).add 2) = some (.int .i64 c.b) ∧ w.cell? ((a.add (j * 4)).add 3) = some (.int .i64 c.vb)) default len (fun j hj => by
      obtain ⟨cs', hc, ht'⟩ := hi j (by omega)
      rw [Try.cells70] at hc
      obtain ⟨_, hcl, hat⟩ := World.cells?_some hc
      obtain ⟨ys, n', hn', hy, hlen', hyl, hf⟩ := DataW.trod_struct Try.underlying70 ht'
      have hyl4 : ys.length = 4 := by simpa using hyl
      obtain ⟨c0, c1, c2, c3, rfl⟩ := four hcl
      obtain ⟨y0, y1, y2, y3, rfl⟩ := four hyl4
      · have f0 := hf 0 _ rfl
        have f1 := hf 1 _ rfl
        have f2 := hf 2 _ rfl
        have f3 := hf 3 _ rfl
        simp [Try.cells3] at f0 f1 f2 f3
        obtain ⟨i0, e0, _⟩ := DataW.trod_int Try.underlying3 f0
        obtain ⟨i1, e1, _⟩ := DataW.trod_int Try.underlying3 f1
        obtain ⟨i2, e2, _⟩ := DataW.trod_int Try.underlying3 f2
        obtain ⟨i3, e3, _⟩ := DataW.trod_int Try.underlying3 f3
        simp at e0 e1 e2 e3
        subst e0 e1 e2 e3
        exact ⟨⟨i0, i1, i2, i3⟩, hat 0 (by omega), hat 1 (by omega), hat 2 (by omega), hat 3 (by omega)⟩)
    refine ⟨some a, len, cap, C, rfl, hC1, by omega, fun j hj => ?_⟩
    obtain ⟨h0, h1, h2, h3⟩ := hC2 j hj
    exact ⟨a, rfl, by have := cell_blk h0; rwa [add_block] at this, h0, h1, h2, h3⟩

set_option maxRecDepth 100000 in
/-- a fleet -/
theorem open_fl {r : Reach} {b0 : Nat} {v : Value} {d : DataW H} {p : List MemPlace} (hv : Value.okWide Try.prog w r b0 25 v) (h : DataW.Trod enc Try.prog w base spare held 25 v d p) (hw : Wt 25 d) :
    ∃ ta tn tc ca cn cc f, v = .agg #[.slice ta tn tc, .slice ca cn cc] ∧ FlAt w ta tn ca cn f := by
  obtain ⟨v0, v1, y0, y1, n, rfl, rfl, _, h0, h1⟩ := open_agg2 Try.underlying25 (by kernel_rfl) (by kernel_rfl) hv h
  obtain ⟨ta, tn, tc, T, rfl, hT⟩ := open_rs h0 (hw.field Try.underlying25 (j := 0) (ft := 22) (by simp) (by simp))
  obtain ⟨ca, cn, cc, C, rfl, hC⟩ := open_cl h1 (hw.field Try.underlying25 (j := 1) (ft := 23) (by simp) (by simp))
  exact ⟨ta, tn, tc, ca, cn, cc, ⟨T, C⟩, rfl, hT, hC⟩

set_option maxRecDepth 100000 in
/-- a trip -/
theorem open_tr {r : Reach} {b0 : Nat} {v : Value} {d : DataW H} {p : List MemPlace} (hv : Value.okWide Try.prog w r b0 28 v) (h : DataW.Trod enc Try.prog w base spare held 28 v d p) (hw : Wt 28 d) :
    ∃ a n c b m k xs ys, v = .agg #[.slice a n c, .slice b m k] ∧ Ints w a n xs ∧ Ints w b m ys := by
  obtain ⟨v0, v1, y0, y1, n, rfl, rfl, _, h0, h1⟩ := open_agg2 Try.underlying28 (by kernel_rfl) (by kernel_rfl) hv h
  obtain ⟨a, n, c, xs, rfl, hx⟩ := open_st h0 (hw.field Try.underlying28 (j := 0) (ft := 26) (by simp) (by simp))
  obtain ⟨b, m, k, ys, rfl, hy⟩ := open_st h1 (hw.field Try.underlying28 (j := 1) (ft := 26) (by simp) (by simp))
  exact ⟨a, n, c, b, m, k, xs, ys, rfl, hx, hy⟩

set_option maxRecDepth 100000 in
/-- a packet -/
theorem open_pk {r : Reach} {b0 : Nat} {v : Value} {d : DataW H} {p : List MemPlace} (hv : Value.okWide Try.prog w r b0 46 v) (h : DataW.Trod enc Try.prog w base spare held 46 v d p) (hw : Wt 46 d) :
    ∃ c n data tg, v = .agg #[.int .i64 c, .int .i64 n, .string data, .int .i64 tg] ∧ data.size < 1152921504606846976 := by
  obtain ⟨v0, v1, v2, v3, y0, y1, y2, y3, n, rfl, rfl, _, h0, h1, h2, h3⟩ := open_agg4 Try.underlying46 (by kernel_rfl) (by kernel_rfl) hv h
  obtain ⟨i0, e0, _⟩ := DataW.trod_int Try.underlying3 h0
  obtain ⟨i1, e1, _⟩ := DataW.trod_int Try.underlying3 h1
  obtain ⟨s2, e2, hx2, _⟩ := DataW.trod_string Try.underlying9 h2
  obtain ⟨i3, e3, _⟩ := DataW.trod_int Try.underlying3 h3
  simp at e0 e1 e2 e3
  subst e0 e1 e2 e3
  refine ⟨i0, i1, s2, i3, rfl, ?_⟩
  have hw2 : Wt 9 y2.1 := hw.field Try.underlying46 (j := 2) (ft := 9) (by simp) (by simp)
  rw [hx2] at hw2
  have := hw2 s2.data.toList.length (by simp [DataW.weights])
  simp [reachBytes] at this
  omega
end
end Go.Proofs.Ytlilojpnhmfnaaa
