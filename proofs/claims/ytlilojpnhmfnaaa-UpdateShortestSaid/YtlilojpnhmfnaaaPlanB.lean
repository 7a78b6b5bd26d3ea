/- The planner: best, up to its memo. -/
import Derived.Test.YtlilojpnhmfnaaaPlanA
namespace Go.Proofs.Ytlilojpnhmfnaaa
open Go.RowKit

/-- region 6 of best: a new block for what the memo holds -/
structure R6 (w6 : World) (v0 v1 v2 v3 : Value) (done : Nat → Bool) (W : World) : Prop where
  gr : Gr w6 W
  sz : done 9 = false → W.heap.size = w6.heap.size
  fz : done 9 = true → ∀ j, W.frozen? ⟨w6.heap.size, j, none⟩ = false
  ce : done 9 = true → done 10 = false → W.cell? ⟨w6.heap.size, 0, none⟩ = some (.int .i64 0) ∧ W.cell? ⟨w6.heap.size, 1, none⟩ = some (.int .i64 0) ∧ W.cell? ⟨w6.heap.size, 2, none⟩ = some (.slice none 0 0) ∧ W.cell? ⟨w6.heap.size, 3, none⟩ = some (.bool false)
  st : done 10 = true → W.cell? ⟨w6.heap.size, 0, none⟩ = some v0 ∧ W.cell? ⟨w6.heap.size, 1, none⟩ = some v1 ∧ W.cell? ⟨w6.heap.size, 2, none⟩ = some v2 ∧ W.cell? ⟨w6.heap.size, 3, none⟩ = some v3

theorem R6.start (w6 : World) (v0 v1 v2 v3 : Value) : R6 w6 v0 v1 v2 v3 (fun _ => false) w6.drew := ⟨Gr.drew _, fun _ => rfl, (fun h => by cases h), (fun h => by cases h), (fun h => by cases h)⟩
theorem R6.quiet {w6 W : World} {v0 v1 v2 v3 : Value} {done : Nat → Bool} (h : R6 w6 v0 v1 v2 v3 done W) {i : Nat} (h9 : 9 ≠ i) (h10 : 10 ≠ i) : R6 w6 v0 v1 v2 v3 (upd done i) W := by
  refine ⟨h.gr, ?_, ?_, ?_, ?_⟩ <;> simp only [upd_ne h9, upd_ne h10]
  · exact h.sz
  · exact h.fz
  · exact h.ce
  · exact h.st
theorem R6.alloc {w6 W : World} {v0 v1 v2 v3 : Value} {done : Nat → Bool} (h : R6 w6 v0 v1 v2 v3 done W) (hsz : W.heap.size = w6.heap.size) (h10 : done 10 = false) :
    R6 w6 v0 v1 v2 v3 (upd done 9) (W.alloc (.cells #[.int .i64 0, .int .i64 0, .slice none 0 0, .bool false] 79)) := by
  refine ⟨h.gr.allocR _, (fun h => by rw [upd_self] at h; cases h), fun _ j => by rw [← hsz]; exact frozen_new, fun _ _ => ?_, (fun h => by rw [upd_ne (by decide), h10] at h; cases h)⟩
  rw [← hsz]
  exact ⟨cell_new rfl, cell_new rfl, cell_new rfl, cell_new rfl⟩
theorem setCell4 {w : World} {b : Nat} {x0 x1 x2 x3 : Value} (h0 : w.cell? ⟨b, 0, none⟩ = some x0) (h1 : w.cell? ⟨b, 1, none⟩ = some x1) (h2 : w.cell? ⟨b, 2, none⟩ = some x2) (h3 : w.cell? ⟨b, 3, none⟩ = some x3) (v0 v1 v2 v3 : Value) (W' : World)
    (hW : W' = (((w.setCell ⟨b, 0, none⟩ v0).setCell ⟨b, 1, none⟩ v1).setCell ⟨b, 2, none⟩ v2).setCell ⟨b, 3, none⟩ v3) :
    W'.cell? ⟨b, 0, none⟩ = some v0 ∧ W'.cell? ⟨b, 1, none⟩ = some v1 ∧ W'.cell? ⟨b, 2, none⟩ = some v2 ∧ W'.cell? ⟨b, 3, none⟩ = some v3 ∧ (∀ j, W'.frozen? ⟨b, j, none⟩ = w.frozen? ⟨b, j, none⟩) ∧ W'.heap.size = w.heap.size ∧ (∀ a, a ≠ b → W'.heap[a]? = w.heap[a]?) := by
  subst hW
  refine ⟨?_, ?_, ?_, ?_, ?_, ?_, ?_⟩
  · simp [go_sem, h0]
  · simp [go_sem, h1]
  · simp [go_sem, h2]
  · simp [go_sem, h3]
  · intro j; simp
  · simp
  · intro a ha
    rw [Below.heap_setCell _ _ _ _ ha, Below.heap_setCell _ _ _ _ ha, Below.heap_setCell _ _ _ _ ha, Below.heap_setCell _ _ _ _ ha]
theorem R6.stored {w6 W : World} {v0 v1 v2 v3 : Value} {done : Nat → Bool} (h : R6 w6 v0 v1 v2 v3 done W) (h9 : done 9 = true) (h10 : done 10 = false) :
    R6 w6 v0 v1 v2 v3 (upd done 10) ((((W.setCell ⟨w6.heap.size, 0, none⟩ v0).setCell ⟨w6.heap.size, 1, none⟩ v1).setCell ⟨w6.heap.size, 2, none⟩ v2).setCell ⟨w6.heap.size, 3, none⟩ v3) := by
  obtain ⟨z0, z1, z2, z3⟩ := h.ce h9 h10
  obtain ⟨s0, s1, s2, s3, s4, s5, s6⟩ := setCell4 z0 z1 z2 z3 v0 v1 v2 v3 _ rfl
  refine ⟨(((h.gr.setCell (Nat.le_refl _) _).setCell (Nat.le_refl _) _).setCell (Nat.le_refl _) _).setCell (Nat.le_refl _) _, (fun h => by rw [upd_ne (by decide), h9] at h; cases h), fun _ j => by rw [s4]; exact h.fz h9 j, (fun _ h => by rw [upd_self] at h; cases h), fun _ => ⟨s0, s1, s2, s3⟩⟩

theorem StOk.small {f : Fl} {s : List Int} (hok : FlOk f) (h : StOk f s) : Small s := fun c => by
  by_cases hc : c < f.times.length
  · have h1 := h.ver c hc
    have h2 := hok.row c hc
    omega
  · rw [List.getElem?_eq_none (by rw [h.len]; omega)]; simp

/-- the boxes of best behind its key -/
structure BKey (q : PP) (X : Nat → Prop) (W w : World) (a : Option Addr) (c : Nat) (kb : Nat) (s : List Int) : Prop where
  loc : BLoc q W w a c
  inv : PInv q X w
  is : Ints w a q.n s
  kge : W.heap.size + 1 + 1 < kb
  k0 : w.cell? ⟨kb, 0, none⟩ = some (.int .i64 (s[0]?.getD 0))
  k1 : w.cell? ⟨kb, 1, none⟩ = some (.int .i64 (s[1]?.getD 0))
  k2 : w.cell? ⟨kb, 2, none⟩ = some (.int .i64 (s[2]?.getD 0))
  k3 : w.cell? ⟨kb, 3, none⟩ = some (.int .i64 (s[3]?.getD 0))
  k4 : w.cell? ⟨kb, 4, none⟩ = some (.int .i64 (s[4]?.getD 0))
  k5 : w.cell? ⟨kb, 5, none⟩ = some (.int .i64 (s[5]?.getD 0))
  kf : ∀ j, w.frozen? ⟨kb, j, none⟩ = false

theorem BKey.then {q : PP} {X : Nat → Prop} {W w w' : World} {a : Option Addr} {c kb : Nat} {s : List Int} (h : BKey q X W w a c kb s) (g : Gr w w') : BKey q X W w' a c kb s :=
  ⟨h.loc.then g, h.inv.gr g, h.is.gr g, h.kge, (g.cell (lt_cell h.k0)).trans h.k0, (g.cell (lt_cell h.k1)).trans h.k1, (g.cell (lt_cell h.k2)).trans h.k2, (g.cell (lt_cell h.k3)).trans h.k3, (g.cell (lt_cell h.k4)).trans h.k4, (g.cell (lt_cell h.k5)).trans h.k5, fun j => (g.frozen (p := ⟨kb, j, none⟩) (show kb < w.heap.size from lt_cell (p := ⟨kb, 0, none⟩) h.k0)).trans (h.kf j)⟩

theorem BKey.of {q : PP} {X : Nat → Prop} {W w : World} {a : Option Addr} {c : Nat} {s : List Int} (hL : BLoc q W w a c) (hI : PInv q X w) (hs : Ints w a q.n s) :
    BKey q X W (w.alloc (.cells #[.int .i64 (s[0]?.getD 0), .int .i64 (s[1]?.getD 0), .int .i64 (s[2]?.getD 0), .int .i64 (s[3]?.getD 0), .int .i64 (s[4]?.getD 0), .int .i64 (s[5]?.getD 0)] 89)) a c w.heap.size s :=
  ⟨hL.then (Gr.alloc _ _), hI.gr (Gr.alloc _ _), hs.gr (Gr.alloc _ _), lt_cell hL.b40, cell_new rfl, cell_new rfl, cell_new rfl, cell_new rfl, cell_new rfl, cell_new rfl, fun _ => frozen_new⟩

theorem Try.zero79 (w : World) : (zeroValue 79).run Try.prog w = .ok (.agg #[.int .i64 0, .int .i64 0, .slice none 0 0, .bool false]) w := by kernel_rfl

/-- what a lookup in the memo gives -/
theorem best_lookup {q : PP} (H : PHyp q) {X : Nat → Prop} {s : List Int} {w : World} (hI : PInv q X w) (hst : StOk q.f s) (hl : s.length = q.n) :
    ∃ (st ti : Int) (xa : Option Addr) (xk xc : Nat) (xb b : Bool), (∀ W : World, W.heap[q.m]? = w.heap[q.m]? → (Instr.lookup 75 (.map (some q.m)) (.agg #[.int .i64 (s[0]?.getD 0), .int .i64 (s[1]?.getD 0), .int .i64 (s[2]?.getD 0), .int .i64 (s[3]?.getD 0), .int .i64 (s[4]?.getD 0), .int .i64 (s[5]?.getD 0)]) true).run Try.prog W = .ok (.tuple #[.agg #[.int .i64 st, .int .i64 ti, .slice xa xk xc, .bool xb], .bool b]) W) ∧
      (b = true → RestV X w (.agg #[.int .i64 st, .int .i64 ti, .slice xa xk xc, .bool xb]) (bestV q.f q.to q.bu s)) := by
  obtain ⟨es, clk, hb, hall, hpw⟩ := hI.memo
  have hsm := hst.small H.ok
  obtain ⟨l, hlk⟩ := keyOf_keyV hsm
  have K := Try.akey.law
  have hkeys : ∀ e ∈ es.toList, ∃ l, keyOf Try.prog 89 e.key = some l := fun e he => by obtain ⟨s', h1, h2, _⟩ := hall e he; rw [h1]; exact keyOf_keyV h2
  rcases K.find w hlk es.toList hkeys with ⟨h1, h2⟩ | ⟨j, e0, h1, h2, h3⟩
  · refine ⟨0, 0, none, 0, 0, false, false, fun W hW => ?_, fun h => by cases h⟩
    rcases K.find W hlk es.toList hkeys with ⟨h1', h2'⟩ | ⟨j', e0', h1', h2', h3'⟩
    · have hbW := hW.trans hb
      show (Instr.lookup 75 (.map (some q.m)) (keyV s) true).run Try.prog W = _
      simp [Instr.lookup, run_underlying Try.underlying75, MapKept.run_getObj_map hbW, K.check W _ hlk, h1']
    · exact absurd h3' (h2 e0' (List.mem_of_getElem? h2'))
  · have hm0 : e0 ∈ es.toList := List.mem_of_getElem? h2
    obtain ⟨s', k1, k2, k3, k4⟩ := hall e0 hm0
    have hss : s' = s := keyV_inj (by rw [k3, hl]) (by rw [k3, H.nt]; exact H.ok.n6) (by rw [← k1, h3])
    subst hss
    obtain ⟨a, k, c, hv, hi, h3t⟩ := k4
    refine ⟨_, _, _, _, _, _, true, fun W hW => ?_, fun _ => ⟨a, k, c, rfl, hi, h3t⟩⟩
    rcases K.find W hlk es.toList hkeys with ⟨h1', h2'⟩ | ⟨j', e0', h1', h2', h3'⟩
    · exact absurd h3 (h2' e0 hm0)
    · have hm0' : e0' ∈ es.toList := List.mem_of_getElem? h2'
      have hbW := hW.trans hb
      show (Instr.lookup 75 (.map (some q.m)) (keyV s') true).run Try.prog W = _
      simp [Instr.lookup, run_underlying Try.underlying75, MapKept.run_getObj_map hbW, K.check W _ hlk, h1', Result.andThen]
      rw [pairwise_same hpw hm0' hm0 (by rw [h3', h3]), hv]
end Go.Proofs.Ytlilojpnhmfnaaa
