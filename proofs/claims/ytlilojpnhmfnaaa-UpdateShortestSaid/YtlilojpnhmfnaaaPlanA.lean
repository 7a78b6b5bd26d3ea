/- The planner: its words, and best where the state is the end, or not below it. -/
import Derived.Test.YtlilojpnhmfnaaaBest
import Derived.Test.YtlilojpnhmfnaaaRangeS
import Derived.Deep.QuietTactic
import Derived.BigQuiet
namespace Go.Proofs.Ytlilojpnhmfnaaa
set_option linter.unusedVariables false
open Go.RowKit

theorem Ints.nil (W : World) : Ints W none 0 [] := ⟨rfl, by omega, fun j hj => by omega⟩
/-- a rest in memory; the next state lies in no block of X -/
def RestV (X : Nat → Prop) (W : World) (v : Value) (r : Rs) : Prop := ∃ a k c, v = .agg #[.int .i64 r.steps, .int .i64 r.time, .slice a k c, .bool r.is] ∧ Ints W a k r.nxt ∧ ∀ ad, a = some ad → ¬ X ad.block ∧ Is3 W ad.block
theorem RestV.only {X S : Nat → Prop} {W W' : World} {v : Value} {r : Rs} (h : RestV X W v r) (g : Only S W W') (hn : NoCells S W) : RestV X W' v r := by
  obtain ⟨a, k, c, h1, h2, h3⟩ := h
  exact ⟨a, k, c, h1, h2.only g hn, fun ad e => ⟨(h3 ad e).1, (h3 ad e).2.onlyN g hn⟩⟩
/-- the blocks of X may turn -/
theorem RestV.onlyX {X S : Nat → Prop} {W W' : World} {v : Value} {r : Rs} (h : RestV X W v r) (g : Only S W W') (hs : ∀ b, S b → X b) : RestV X W' v r := by
  obtain ⟨a, k, c, h1, h2, h3⟩ := h
  exact ⟨a, k, c, h1, h2.onlyAt g (fun ad e hS => (h3 ad e).1 (hs _ hS)), fun ad e => ⟨(h3 ad e).1, (h3 ad e).2.only g (fun hS => (h3 ad e).1 (hs _ hS))⟩⟩
theorem RestV.gr {X : Nat → Prop} {W W' : World} {v : Value} {r : Rs} (h : RestV X W v r) (g : Gr W W') : RestV X W' v r := by
  obtain ⟨a, k, c, h1, h2, h3⟩ := h
  exact ⟨a, k, c, h1, h2.gr g, fun ad e => ⟨(h3 ad e).1, (h3 ad e).2.gr g⟩⟩
theorem RestV.wide {X X' : Nat → Prop} {W : World} {v : Value} {r : Rs} (h : RestV X W v r) (hx : ∀ b, b < W.heap.size → X' b → X b) : RestV X' W v r := by
  obtain ⟨a, k, c, h1, h2, h3⟩ := h
  exact ⟨a, k, c, h1, h2, fun ad e => ⟨fun hX => (h3 ad e).1 (hx _ (h3 ad e).2.lt hX), (h3 ad e).2⟩⟩

/-- the planner's data -/
structure PP where
  bp : Nat
  m : Nat
  ta : Option Addr
  tn : Nat
  tc : Nat
  ca : Option Addr
  cn : Nat
  cc : Nat
  toa : Option Addr
  toc : Nat
  n : Nat
  f : Fl
  to : List Int
  bu : Int

structure PInv (q : PP) (X : Nat → Prop) (W : World) : Prop where
  c0 : W.cell? ⟨q.bp, 0, none⟩ = some (.slice q.ta q.tn q.tc)
  c1 : W.cell? ⟨q.bp, 1, none⟩ = some (.slice q.ca q.cn q.cc)
  c2 : W.cell? ⟨q.bp, 2, none⟩ = some (.slice q.toa q.n q.toc)
  c3 : W.cell? ⟨q.bp, 3, none⟩ = some (.int .i64 q.bu)
  c4 : W.cell? ⟨q.bp, 4, none⟩ = some (.map (some q.m))
  fl : FlAt W q.ta q.tn q.ca q.cn q.f
  ito : Ints W q.toa q.n q.to
  memo : Memo W q.m (fun s v => s.length = q.n ∧ RestV X W v (bestV q.f q.to q.bu s))

structure PHyp (q : PP) : Prop where
  ok : FlOk q.f
  sto : StOk q.f q.to
  nt : q.n = q.f.times.length

theorem PInv.noc {q : PP} {X : Nat → Prop} {W : World} (h : PInv q X W) : NoCells (fun b => b = q.m) W := by
  obtain ⟨es, clk, hb, _, _⟩ := h.memo
  intro b cs t fr e
  subst e
  rw [hb]; intro h; cases h

theorem PInv.of {q : PP} {X : Nat → Prop} {W W' : World} {S : Nat → Prop} (h : PInv q X W) (g : Only S W W') (hn : NoCells S W) (hm : Memo W' q.m (fun s v => s.length = q.n ∧ RestV X W' v (bestV q.f q.to q.bu s))) : PInv q X W' :=
  ⟨g.cellN hn h.c0, g.cellN hn h.c1, g.cellN hn h.c2, g.cellN hn h.c3, g.cellN hn h.c4, h.fl.only g hn, h.ito.only g hn, hm⟩
theorem PInv.gr {q : PP} {X : Nat → Prop} {W W' : World} (h : PInv q X W) (g : Gr W W') : PInv q X W' :=
  ⟨(g.cell (lt_cell h.c0)).trans h.c0, (g.cell (lt_cell h.c1)).trans h.c1, (g.cell (lt_cell h.c2)).trans h.c2, (g.cell (lt_cell h.c3)).trans h.c3, (g.cell (lt_cell h.c4)).trans h.c4, h.fl.gr g, h.ito.gr g,
    h.memo.mono (g.below.block _ h.memo.lt) (fun s v hv => ⟨hv.1, hv.2.gr g⟩)⟩

theorem PInv.wide {q : PP} {X X' : Nat → Prop} {W : World} (h : PInv q X W) (hx : ∀ b, b < W.heap.size → X' b → X b) : PInv q X' W :=
  ⟨h.c0, h.c1, h.c2, h.c3, h.c4, h.fl, h.ito, h.memo.mono rfl (fun _ _ hv => ⟨hv.1, hv.2.wide hx⟩)⟩

theorem frozen_new {w : World} {cs : Array Value} {t : TypeId} {j : Nat} : (w.alloc (.cells cs t)).frozen? ⟨w.heap.size, j, none⟩ = false := by
  have := World.alloc_heap_new w (.cells cs t)
  unfold World.frozen?
  simp only [this]
  simp

/-- three new blocks of cells -/
structure Three (W w3 : World) (A B C : Array Value) : Prop where
  gr : Gr W w3
  sz : w3.heap.size = W.heap.size + 1 + 1 + 1
  a : ∀ j v, A[j]? = some v → w3.cell? ⟨W.heap.size, j, none⟩ = some v
  b : ∀ j v, B[j]? = some v → w3.cell? ⟨W.heap.size + 1, j, none⟩ = some v
  c : ∀ j v, C[j]? = some v → w3.cell? ⟨W.heap.size + 1 + 1, j, none⟩ = some v
  fc : ∀ j, w3.frozen? ⟨W.heap.size + 1 + 1, j, none⟩ = false
  fa : ∀ j, w3.frozen? ⟨W.heap.size, j, none⟩ = false
  fb : ∀ j, w3.frozen? ⟨W.heap.size + 1, j, none⟩ = false
theorem three (W : World) (A B C : Array Value) (t1 t2 t3 : TypeId) : Three W (((W.alloc (.cells A t1)).alloc (.cells B t2)).alloc (.cells C t3)) A B C := by
  have s1 : (W.alloc (.cells A t1)).heap.size = W.heap.size + 1 := by simp
  have s2 : ((W.alloc (.cells A t1)).alloc (.cells B t2)).heap.size = W.heap.size + 1 + 1 := by simp
  have g2 := (Gr.alloc (W.alloc (.cells A t1)) (.cells B t2)).allocR (.cells C t3)
  have g3 := Gr.alloc ((W.alloc (.cells A t1)).alloc (.cells B t2)) (.cells C t3)
  refine ⟨((Gr.alloc _ _).allocR _).allocR _, by simp, fun j v h => ?_, fun j v h => ?_, fun j v h => ?_, fun j => ?_, fun j => ?_, fun j => ?_⟩
  · exact (g2.cell (by simp)).trans (cell_new h)
  · rw [← s1]; exact (g3.cell (by simp)).trans (cell_new h)
  · rw [← s2]; exact cell_new h
  · rw [← s2]; exact frozen_new
  · exact (g2.frozen (by simp)).trans frozen_new
  · rw [← s1]; exact (g3.frozen (by simp)).trans frozen_new

def BPost (q : PP) (X : Nat → Prop) (W : World) (s : List Int) (e : Ending) (W' : World) : Prop := ∃ v, e = .returned v ∧ RestV X W' v (bestV q.f q.to q.bu s) ∧ PInv q X W' ∧ Only (fun b => b = q.m) W W'

/-- the boxes of a call of best -/
structure BLoc (q : PP) (W w : World) (a : Option Addr) (c : Nat) : Prop where
  gr : Gr W w
  b2 : w.cell? ⟨W.heap.size, 0, none⟩ = some (.pointer (some ⟨q.bp, 0, none⟩))
  b3 : w.cell? ⟨W.heap.size + 1, 0, none⟩ = some (.slice a q.n c)
  b40 : w.cell? ⟨W.heap.size + 1 + 1, 0, none⟩ = some (.int .i64 0)
  b41 : w.cell? ⟨W.heap.size + 1 + 1, 1, none⟩ = some (.int .i64 0)
  b42 : w.cell? ⟨W.heap.size + 1 + 1, 2, none⟩ = some (.slice none 0 0)
  b43 : w.cell? ⟨W.heap.size + 1 + 1, 3, none⟩ = some (.bool false)
  f40 : w.frozen? ⟨W.heap.size + 1 + 1, 0, none⟩ = false
  f41 : w.frozen? ⟨W.heap.size + 1 + 1, 1, none⟩ = false
  f42 : w.frozen? ⟨W.heap.size + 1 + 1, 2, none⟩ = false
  f43 : w.frozen? ⟨W.heap.size + 1 + 1, 3, none⟩ = false
  f2 : w.frozen? ⟨W.heap.size, 0, none⟩ = false
  f3 : w.frozen? ⟨W.heap.size + 1, 0, none⟩ = false
theorem BLoc.start (q : PP) (W : World) (a : Option Addr) (c : Nat) : BLoc q W (((W.alloc (.cells #[.pointer (some ⟨q.bp, 0, none⟩)] 74)).alloc (.cells #[.slice a q.n c] 26)).alloc (.cells #[.int .i64 0, .int .i64 0, .slice none 0 0, .bool false] 79)) a c := by
  have h3 := three W #[.pointer (some ⟨q.bp, 0, none⟩)] #[.slice a q.n c] #[.int .i64 0, .int .i64 0, .slice none 0 0, .bool false] 74 26 79
  exact ⟨h3.gr, h3.a 0 _ rfl, h3.b 0 _ rfl, h3.c 0 _ rfl, h3.c 1 _ rfl, h3.c 2 _ rfl, h3.c 3 _ rfl, h3.fc 0, h3.fc 1, h3.fc 2, h3.fc 3, h3.fa 0, h3.fb 0⟩
theorem BLoc.then {q : PP} {W w w' : World} {a : Option Addr} {c : Nat} (h : BLoc q W w a c) (g : Gr w w') : BLoc q W w' a c :=
  ⟨h.gr.trans g, (g.cell (lt_cell h.b2)).trans h.b2, (g.cell (lt_cell h.b3)).trans h.b3, (g.cell (lt_cell h.b40)).trans h.b40, (g.cell (lt_cell h.b41)).trans h.b41, (g.cell (lt_cell h.b42)).trans h.b42, (g.cell (lt_cell h.b43)).trans h.b43,
    (g.frozen (lt_cell h.b40)).trans h.f40, (g.frozen (lt_cell h.b41)).trans h.f41, (g.frozen (lt_cell h.b42)).trans h.f42, (g.frozen (lt_cell h.b43)).trans h.f43, (g.frozen (lt_cell h.b2)).trans h.f2, (g.frozen (lt_cell h.b3)).trans h.f3⟩

/-- what is stored into the result -/
theorem BLoc.store {q : PP} {W w : World} {a : Option Addr} {c : Nat} (h : BLoc q W w a c) (v0 v1 v2 v3 : Value) :
    Gr W ((((w.setCell ⟨W.heap.size + 1 + 1, 0, none⟩ v0).setCell ⟨W.heap.size + 1 + 1, 1, none⟩ v1).setCell ⟨W.heap.size + 1 + 1, 2, none⟩ v2).setCell ⟨W.heap.size + 1 + 1, 3, none⟩ v3) :=
  (((h.gr.setCell (by simp only; omega) v0).setCell (by simp only; omega) v1).setCell (by simp only; omega) v2).setCell (by simp only; omega) v3

theorem drewN_some (w : World) (n : Nat) : ∃ w4, w.drewN n = w4 ∧ Gr w w4 := ⟨_, rfl, Gr.drewN _ _⟩

set_option maxRecDepth 100000 in
set_option maxHeartbeats 1000000 in
theorem best_end (q : PP) (H : PHyp q) (X : Nat → Prop) (s : List Int) (W : World) (a : Option Addr) (c : Nat) (hI : PInv q X W) (hs : Ints W a q.n s) (he : s = q.to) :
    Calls Try.prog 49 #[.pointer (some ⟨q.bp, 0, none⟩), .slice a q.n c] W (BPost q X W s) := by
  have hv : Hid (bestV q.f q.to q.bu s = Rs.fin) := Lib.hid (by rw [bestV_eq (by rw [he]), if_pos he])
  have hde : Hid (decide (s = q.to) = true) := Lib.hid (by simpa using he)
  clear he
  have hL := BLoc.start q W a c
  obtain ⟨w3, hw3⟩ : ∃ w3, ((W.alloc (.cells #[.pointer (some ⟨q.bp, 0, none⟩)] 74)).alloc (.cells #[.slice a q.n c] 26)).alloc (.cells #[.int .i64 0, .int .i64 0, .slice none 0 0, .bool false] 79) = w3 := ⟨_, rfl⟩
  rw [hw3] at hL
  have hI3 := hI.gr hL.gr
  have hs3 := hs.gr hL.gr
  have hc2 := hI3.c2
  have b2 := hL.b2
  have b3 := hL.b3
  have heq : ∀ k, Hid (Calls Try.prog 50 #[.slice a q.n c, .slice q.toa q.n q.toc] (w3.drewN k) fun e w' => e = .returned (.bool true) ∧ ∃ m, w' = (w3.drewN k).drewN m) := fun k => Lib.hid (by
    have := equal_any a q.toa q.n c q.n q.toc s q.to (w3.drewN k) (hs3.gr (Gr.drewN _ _)) (hI3.ito.gr (Gr.drewN _ _))
    rw [hde.out] at this
    exact this)
  have HEQ := Lib.hid heq
  clear heq
  go_enter Try.func49, Try.ntmps49
  go_wp2_with fail
  clear hw3
  go_quiet ((go_at_call 50; exact Calls.quiet_of (HEQ.out _).out))
  obtain ⟨w4, hw4, g4⟩ := drewN_some w3 nq
  rw [hw4]
  clear hw4
  have hL4 := hL.then g4
  have b40 := hL4.b40
  have b41 := hL4.b41
  have b42 := hL4.b42
  have b43 := hL4.b43
  have f40 := hL4.f40
  have f41 := hL4.f41
  have f42 := hL4.f42
  have f43 := hL4.f43
  go_wp2_with fail
  have G := hL4.store
  exact bodyPost_ret (v := .agg #[.int .i64 0, .int .i64 0, .slice none 0 0, .bool true]) (by simp [results, Try.results49, go_sem, b40, b41, b42, b43]) rfl
    ⟨_, rfl, ⟨none, 0, 0, by rw [hv.out]; rfl, by rw [hv.out]; exact Ints.nil _, (fun ad h => by cases h)⟩, hI.gr (G _ _ _ _), (G _ _ _ _).only _⟩

set_option maxRecDepth 100000 in
set_option maxHeartbeats 1000000 in
theorem best_not (q : PP) (H : PHyp q) (X : Nat → Prop) (s : List Int) (W : World) (a : Option Addr) (c : Nat) (hI : PInv q X W) (hs : Ints W a q.n s) (he : ¬ s = q.to) (hna : aboveV q.to s = false) :
    Calls Try.prog 49 #[.pointer (some ⟨q.bp, 0, none⟩), .slice a q.n c] W (BPost q X W s) := by
  have hv : Hid (bestV q.f q.to q.bu s = Rs.no) := Lib.hid (by rw [bestV_eq (by rw [hs.len, hI.ito.len]), if_neg he, hna]; simp)
  have hde : Hid (decide (s = q.to) = false) := Lib.hid (by simpa using he)
  have hda := Lib.hid hna
  clear he hna
  have hL := BLoc.start q W a c
  obtain ⟨w3, hw3⟩ : ∃ w3, ((W.alloc (.cells #[.pointer (some ⟨q.bp, 0, none⟩)] 74)).alloc (.cells #[.slice a q.n c] 26)).alloc (.cells #[.int .i64 0, .int .i64 0, .slice none 0 0, .bool false] 79) = w3 := ⟨_, rfl⟩
  rw [hw3] at hL
  have hI3 := hI.gr hL.gr
  have hs3 := hs.gr hL.gr
  have hc2 := hI3.c2
  have b2 := hL.b2
  have b3 := hL.b3
  have heq : ∀ k, Hid (Calls Try.prog 50 #[.slice a q.n c, .slice q.toa q.n q.toc] (w3.drewN k) fun e w' => e = .returned (.bool false) ∧ ∃ m, w' = (w3.drewN k).drewN m) := fun k => Lib.hid (by
    have := equal_any a q.toa q.n c q.n q.toc s q.to (w3.drewN k) (hs3.gr (Gr.drewN _ _)) (hI3.ito.gr (Gr.drewN _ _))
    rw [hde.out] at this
    exact this)
  have HEQ := Lib.hid heq
  clear heq
  go_enter Try.func49, Try.ntmps49
  go_wp2_with fail
  clear hw3
  go_quiet ((go_at_call 50; exact Calls.quiet_of (HEQ.out _).out))
  obtain ⟨w4, hw4, g4⟩ := drewN_some w3 nq
  rw [hw4]
  clear hw4 b2 b3 hc2
  have hL4 := hL.then g4
  have hI4 := hI3.gr g4
  have hs4 := hs3.gr g4
  have hc2 := hI4.c2
  have b2 := hL4.b2
  have b3 := hL4.b3
  have hab : ∀ k, Hid (Calls Try.prog 55 #[.slice q.toa q.n q.toc, .slice a q.n c] (w4.drewN k) fun e w' => e = .returned (.bool false) ∧ ∃ m, w' = (w4.drewN k).drewN m) := fun k => Lib.hid (by
    have := above_any q.toa a q.n q.toc q.n c q.to s (w4.drewN k) (hI4.ito.gr (Gr.drewN _ _)) (hs4.gr (Gr.drewN _ _)) (Nat.le_refl _)
    rw [hda.out] at this
    exact this)
  have HAB := Lib.hid hab
  clear hab
  go_wp2_with fail
  go_quiet ((go_at_call 55; exact Calls.quiet_of (HAB.out _).out))
  obtain ⟨w5, hw5, g5⟩ := drewN_some w4 nq
  rw [hw5]
  clear hw5 b2 b3 hc2
  have hL5 := hL4.then g5
  have b40 := hL5.b40
  have b41 := hL5.b41
  have b42 := hL5.b42
  have b43 := hL5.b43
  have f40 := hL5.f40
  have f41 := hL5.f41
  have f42 := hL5.f42
  have f43 := hL5.f43
  go_wp2_with fail
  have G := hL5.store
  exact bodyPost_ret (v := .agg #[.int .i64 0, .int .i64 0, .slice none 0 0, .bool false]) (by simp [results, Try.results49, go_sem, b40, b41, b42, b43]) rfl
    ⟨_, rfl, ⟨none, 0, 0, by rw [hv.out]; rfl, by rw [hv.out]; exact Ints.nil _, (fun ad h => by cases h)⟩, hI.gr (G _ _ _ _), (G _ _ _ _).only _⟩
end Go.Proofs.Ytlilojpnhmfnaaa
