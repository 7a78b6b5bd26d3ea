/- The example: Example and works. -/
import Derived.Test.YtlilojpnhmfnaaaEx
namespace Go.Proofs.Ytlilojpnhmfnaaa
open Go.RowKit

def ExPost (w : World) (e : Ending) (w' : World) : Prop := ∃ ta tc ca cc, e = .returned (.agg #[.slice ta 3 tc, .slice ca 2 cc]) ∧ FlAt w' ta 3 ca 2 exF ∧ Gr w w'

theorem heap_alloc_at (w : World) (o : Obj) (k : Nat) : (w.alloc o).heap[k]? = if k = w.heap.size then some o else w.heap[k]? := by
  by_cases h : k = w.heap.size
  · subst h; rw [if_pos rfl]; exact World.alloc_heap_new w o
  · rw [if_neg h]
    by_cases h2 : k < w.heap.size
    · exact Below.heap_alloc w o k h2
    · rw [Array.getElem?_eq_none (by simp; omega), Array.getElem?_eq_none (by omega)]
theorem cell_at {w : World} {b j : Nat} {cs : Array Value} {t : TypeId} {fr : Nat × Nat} {v : Value} (h : w.heap[b]? = some (.cells cs t fr)) (hv : cs[j]? = some v) : w.cell? ⟨b, j, none⟩ = some v := by
  unfold World.cell?
  simp only [h]
  exact hv
/-- a block of numbers reads as a list -/
theorem ints_at {w : World} {b : Nat} {t : TypeId} {fr : Nat × Nat} {xs : List Int} (h : w.heap[b]? = some (.cells (xs.map (Value.int .i64)).toArray t fr)) (hl : xs.length < 1152921504606846976) : Ints w (some ⟨b, 0, none⟩) xs.length xs := by
  refine ⟨rfl, hl, fun j hj => ⟨⟨b, 0, none⟩, rfl, (Array.getElem?_eq_some_iff.1 h).1, ?_⟩⟩
  have e : ((⟨b, 0, none⟩ : Addr).add j) = ⟨b, j, none⟩ := by
    unfold Addr.add; split
    · subst_vars; rfl
    · simp
  rw [e]
  exact cell_at h (by simp [hj])
theorem rows3 {w : World} {B : Nat} {t : TypeId} {fr : Nat × Nat} {a1 a2 a3 : Option Addr} {n1 c1 n2 c2 n3 c3 : Nat} {x1 x2 x3 : List Int} (h : w.heap[B]? = some (.cells #[.slice a1 n1 c1, .slice a2 n2 c2, .slice a3 n3 c3] t fr)) (h1 : Ints w a1 n1 x1) (h2 : Ints w a2 n2 x2) (h3 : Ints w a3 n3 x3) : RowsAt w (some ⟨B, 0, none⟩) 3 [x1, x2, x3] := by
  have hB := (Array.getElem?_eq_some_iff.1 h).1
  refine ⟨rfl, by omega, fun j hj => ?_⟩
  match j, hj with
  | 0, _ => exact ⟨_, a1, n1, c1, rfl, hB, cell_at h rfl, h1⟩
  | 1, _ => exact ⟨_, a2, n2, c2, rfl, hB, cell_at h rfl, h2⟩
  | 2, _ => exact ⟨_, a3, n3, c3, rfl, hB, cell_at h rfl, h3⟩

theorem ex_fleet {w : World} {b : Nat} (h1 : w.heap[b + 1]? = some (.cells #[.int .i64 5, .int .i64 8] 3)) (h2 : w.heap[b + 1 + 1]? = some (.cells #[.int .i64 4] 3)) (h3 : w.heap[b + 1 + 1 + 1]? = some (.cells #[.int .i64 6] 3))
    (h4 : w.heap[b + 1 + 1 + 1 + 1]? = some (.cells #[.slice (some ⟨b + 1, 0, none⟩) 2 2, .slice (some ⟨b + 1 + 1, 0, none⟩) 1 1, .slice (some ⟨b + 1 + 1 + 1, 0, none⟩) 1 1] 26))
    (h5 : w.heap[b + 1 + 1 + 1 + 1 + 1]? = some (.cells #[.int .i64 0, .int .i64 1, .int .i64 1, .int .i64 0, .int .i64 0, .int .i64 2, .int .i64 2, .int .i64 0] 70)) :
    FlAt w (some ⟨b + 1 + 1 + 1 + 1, 0, none⟩) 3 (some ⟨b + 1 + 1 + 1 + 1 + 1, 0, none⟩) 2 exF := by
  refine ⟨rows3 h4 (ints_at (xs := [5, 8]) h1 (by simp)) (ints_at (xs := [4]) h2 (by simp)) (ints_at (xs := [6]) h3 (by simp)), rfl, by omega, fun j hj => ?_⟩
  have hB := (Array.getElem?_eq_some_iff.1 h5).1
  match j, hj with
  | 0, _ => exact ⟨_, rfl, hB, cell_at h5 rfl, cell_at h5 rfl, cell_at h5 rfl, cell_at h5 rfl⟩
  | 1, _ => exact ⟨_, rfl, hB, cell_at h5 rfl, cell_at h5 rfl, cell_at h5 rfl, cell_at h5 rfl⟩

set_option maxHeartbeats 1000000 in
theorem example_any (w : World) : Calls Try.prog 46 #[] w (ExPost w) := by
  go_enter Try.func46, Try.ntmps46
  go_wp2_with fail
  refine bodyPost_ret (v := .agg #[.slice (some ⟨w.heap.size + 1 + 1 + 1 + 1, 0, none⟩) 3 3, .slice (some ⟨w.heap.size + 1 + 1 + 1 + 1 + 1, 0, none⟩) 2 2]) (by simp [results, Try.results46, go_sem]) rfl ⟨_, _, _, _, rfl, ?_, (((((Gr.alloc _ _).allocR _).allocR _).allocR _).allocR _).allocR _⟩
  refine ex_fleet ?_ ?_ ?_ ?_ ?_ <;> simp only [heap_alloc_at, World.size_alloc] <;> simp
end Go.Proofs.Ytlilojpnhmfnaaa
