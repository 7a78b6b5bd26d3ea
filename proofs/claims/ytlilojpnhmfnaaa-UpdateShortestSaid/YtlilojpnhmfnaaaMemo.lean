/- A map keyed by states: what a lookup and a store do. -/
import Derived.Test.YtlilojpnhmfnaaaClone
import Derived.Test.YtlilojpnhmfnaaaRange
import Derived.WideKeyArr
import Derived.MapKept
namespace Go.Proofs.Ytlilojpnhmfnaaa
open Go.RowKit

theorem Try.akey : WideMaps.ArrKey Try.prog 89 3 6 := ⟨Try.underlying89, by kernel_rfl, by kernel_rfl, by kernel_rfl⟩

/-- a state as a key -/
def keyV (s : List Int) : Value := .agg #[.int .i64 (s[0]?.getD 0), .int .i64 (s[1]?.getD 0), .int .i64 (s[2]?.getD 0), .int .i64 (s[3]?.getD 0), .int .i64 (s[4]?.getD 0), .int .i64 (s[5]?.getD 0)]

/-- its numbers are small -/
def Small (s : List Int) : Prop := ∀ c : Nat, 0 ≤ s[c]?.getD 0 ∧ s[c]?.getD 0 ≤ 3

theorem keyLits_six (a0 a1 a2 a3 a4 a5 : Int) (h0 : (Lit.int .i64 a0).wf = true) (h1 : (Lit.int .i64 a1).wf = true) (h2 : (Lit.int .i64 a2).wf = true) (h3 : (Lit.int .i64 a3).wf = true) (h4 : (Lit.int .i64 a4).wf = true) (h5 : (Lit.int .i64 a5).wf = true) :
    ∃ l, keyOf Try.prog 89 (.agg #[.int .i64 a0, .int .i64 a1, .int .i64 a2, .int .i64 a3, .int .i64 a4, .int .i64 a5]) = some l := by
  unfold keyOf
  rw [Try.underlying89]
  simp only
  rw [if_pos (by kernel_rfl)]
  have hs : ∃ m, Try.prog.types.size = m + 1 := ⟨Try.prog.types.size - 1, by kernel_rfl⟩
  obtain ⟨m, hm⟩ := hs
  rw [hm]
  have c1 : Try.prog.cellsOf 89 = 6 := by kernel_rfl
  have c2 : Try.prog.cellsOf 3 = 1 := by kernel_rfl
  simp [Program.keyLits, Try.underlying89, Try.underlying3, c1, c2, Value.cells, List.range, List.range.loop, h0, h1, h2, h3, h4, h5]

theorem keyOf_keyV {s : List Int} (h : Small s) : ∃ l, keyOf Try.prog 89 (keyV s) = some l := by
  have hw : ∀ c : Nat, (Lit.int .i64 (s[c]?.getD 0)).wf = true := fun c => by
    have := h c; simp [Lit.wf, IntKind.min, IntKind.max, IntKind.signed, IntKind.bits]; omega
  exact keyLits_six _ _ _ _ _ _ (hw 0) (hw 1) (hw 2) (hw 3) (hw 4) (hw 5)

theorem keyV_inj {s t : List Int} (hl : s.length = t.length) (h6 : s.length ≤ 6) (h : keyV s = keyV t) : s = t := by
  unfold keyV at h
  injection h with h
  simp at h
  obtain ⟨h0, h1, h2, h3, h4, h5⟩ := h
  apply List.ext_getElem? 
  intro i
  by_cases hi : i < s.length
  · have hg : s[i]?.getD 0 = t[i]?.getD 0 := by
      have : i = 0 ∨ i = 1 ∨ i = 2 ∨ i = 3 ∨ i = 4 ∨ i = 5 := by omega
      rcases this with rfl | rfl | rfl | rfl | rfl | rfl <;> assumption
    have hi' : i < t.length := by omega
    simp [hi, hi'] at hg ⊢
    exact hg
  · rw [List.getElem?_eq_none (by omega), List.getElem?_eq_none (by omega)]

/-- block m is a map whose keys are states, and whose values are good for them -/
def Memo (W : World) (m : Nat) (G : List Int → Value → Prop) : Prop := ∃ es clk, W.heap[m]? = some (.map es clk) ∧ (∀ e ∈ es.toList, ∃ s, e.key = keyV s ∧ Small s ∧ G s e.val) ∧ es.toList.Pairwise (fun x y => x.key ≠ y.key)

theorem Memo.lt {W : World} {m : Nat} {G : List Int → Value → Prop} (h : Memo W m G) : m < W.heap.size := by
  obtain ⟨es, clk, hb, _⟩ := h
  exact (Array.getElem?_eq_some_iff.1 hb).1
theorem Memo.mono {W W' : World} {m : Nat} {G G' : List Int → Value → Prop} (h : Memo W m G) (hb : W'.heap[m]? = W.heap[m]?) (hG : ∀ s v, G s v → G' s v) : Memo W' m G' := by
  obtain ⟨es, clk, hm, hall, hpw⟩ := h
  exact ⟨es, clk, hb.trans hm, fun e he => by obtain ⟨s, h1, h2, h3⟩ := hall e he; exact ⟨s, h1, h2, hG _ _ h3⟩, hpw⟩

/-- a lookup: a value that is good for the state, or none -/
theorem memo_lookup {W : World} {m t e : Nat} {G : List Int → Value → Prop} {z : Value} {s : List Int} (ht : Try.prog.underlying t = some (.map 89 e)) (hz : (zeroValue e).run Try.prog W = .ok z W) (h : Memo W m G) (hs : Small s) :
    (∃ v, (Instr.lookup t (.map (some m)) (keyV s) true).run Try.prog W = .ok (.tuple #[v, .bool true]) W ∧ ∃ s', keyV s' = keyV s ∧ Small s' ∧ G s' v) ∨ (Instr.lookup t (.map (some m)) (keyV s) true).run Try.prog W = .ok (.tuple #[z, .bool false]) W := by
  obtain ⟨es, clk, hb, hall, hpw⟩ := h
  obtain ⟨l, hl⟩ := keyOf_keyV hs
  have K := Try.akey.law
  rcases K.find W hl es.toList (fun e he => by obtain ⟨s', h1, h2, _⟩ := hall e he; rw [h1]; exact keyOf_keyV h2) with ⟨h1, h2⟩ | ⟨j, e0, h1, h2, h3⟩
  · exact .inr (by simp [Instr.lookup, run_underlying ht, MapKept.run_getObj_map hb, K.check W _ hl, h1, hz, Result.andThen])
  · have hm0 : e0 ∈ es.toList := List.mem_of_getElem? h2
    obtain ⟨s', k1, k2, k3⟩ := hall e0 hm0
    exact .inl ⟨e0.val, by simp [Instr.lookup, run_underlying ht, MapKept.run_getObj_map hb, K.check W _ hl, h1, Result.andThen], s', by rw [← k1, h3], k2, k3⟩

/-- a store of a value that is good for the state -/
theorem memo_store {W : World} {m t e : Nat} {G : List Int → Value → Prop} {v : Value} {s : List Int} (ht : Try.prog.underlying t = some (.map 89 e)) (h : Memo W m G) (hs : Small s) (hG : G s v) :
    ∃ o, (Instr.mapUpdate t (.map (some m)) (keyV s) v).run Try.prog W = .ok () (W.putObj m o) ∧ Memo (W.putObj m o) m G := by
  obtain ⟨es, clk, hb, hall, hpw⟩ := h
  obtain ⟨l, hl⟩ := keyOf_keyV hs
  have K := Try.akey.law
  have hlt : m < W.heap.size := (Array.getElem?_eq_some_iff.1 hb).1
  have hset : ∀ o, (setObj m o).run Try.prog W = .ok () (W.putObj m o) := fun o => by
    simp [setObj, Sem.run, hb, World.putObj]
  rcases K.find W hl es.toList (fun e he => by obtain ⟨s', h1, h2, _⟩ := hall e he; rw [h1]; exact keyOf_keyV h2) with ⟨h1, h2⟩ | ⟨j, e0, h1, h2, h3⟩
  · refine ⟨_, by simp [Instr.mapUpdate, run_underlying ht, MapKept.run_getObj_map hb, K.check W _ hl, h1, Result.andThen, hset], es.push { key := keyV s, val := v, born := clk }, clk + 1, World.putObj_heap_same hlt, ?_, ?_⟩
    rotate_left
    · rw [Array.toList_push, List.pairwise_append]
      exact ⟨hpw, by simp, fun x hx y hy => by simp at hy; subst hy; exact h2 x hx⟩
    intro e he
    simp at he
    rcases he with he | he
    · exact hall e (by simpa using he)
    · subst he; exact ⟨s, rfl, hs, hG⟩
  · have hj : es[j]? = some e0 := by simpa using h2
    have hst := K.stays W hl
    refine ⟨_, by simp [Instr.mapUpdate, run_underlying ht, MapKept.run_getObj_map hb, K.check W _ hl, h1, Result.andThen, hset, hj, h3, hst], es.modify j fun e => { e with key := keyV s, val := v }, clk, World.putObj_heap_same hlt, ?_, ?_⟩
    rotate_left
    · have hmap : (es.modify j fun e => { e with key := keyV s, val := v }).toList.map (·.key) = es.toList.map (·.key) := by
        apply List.ext_getElem?
        intro i
        rw [List.getElem?_map, List.getElem?_map, Array.toList_modify, List.getElem?_modify]
        by_cases hji : j = i
        · subst hji; simp [hj, h3]
        · simp [hji]
      have h4 := (List.pairwise_map (f := fun e : MapEntry => e.key) (R := fun a b => a ≠ b)).2 hpw
      rw [← hmap] at h4
      exact List.pairwise_map.1 h4
    intro e he
    rw [List.mem_iff_getElem?] at he
    obtain ⟨i, hi⟩ := he
    rw [Array.toList_modify, List.getElem?_modify] at hi
    by_cases hji : j = i
    · simp [hji] at hi
      obtain ⟨x, _, rfl⟩ := hi
      exact ⟨s, rfl, hs, hG⟩
    · simp [hji] at hi
      exact hall e (List.mem_of_getElem? (by simpa using hi))
theorem pairwise_same {es : List MapEntry} (h : es.Pairwise (fun x y => x.key ≠ y.key)) {x y : MapEntry} (hx : x ∈ es) (hy : y ∈ es) (hk : x.key = y.key) : x = y := by
  induction es with
  | nil => simp at hx
  | cons a l ih =>
    rw [List.pairwise_cons] at h
    rcases List.mem_cons.1 hx with rfl | hx'
    · rcases List.mem_cons.1 hy with rfl | hy'
      · rfl
      · exact absurd hk (h.1 y hy')
    · rcases List.mem_cons.1 hy with rfl | hy'
      · exact absurd hk.symm (h.1 x hx')
      · exact ih h.2 hx' hy'
end Go.Proofs.Ytlilojpnhmfnaaa
