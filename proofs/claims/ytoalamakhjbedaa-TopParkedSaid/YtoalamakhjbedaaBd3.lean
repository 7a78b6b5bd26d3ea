/- Several texts of this claim in one file. (1) The block of a play, and the nodes that are collected. Nothing of the program is walked here. (2) Play in plain words: rows and energies. Nothing of the program is proved here. (3) Arguments that came in: a cluster, nudges, read off their data. (4) The play of a cluster: what a tick does, in plain words. Nothing of the program is proved here. (5) If nothing is lost, who is asked for is awake. Nothing of the program is proved here. (6) Whom nobody asks for, and who hears no noise, is asleep. Nothing of the program is proved here. (7) A map keyed by states of two numbers: what a lookup and a store do. Nothing of the program is walked here. (8) Regions that draw their order and store into small variables. Nothing of the program is proved here. (9) What noise can do to a node that is parked, in plain words. Nothing of the program is proved here. (10) Contracts: cmp.Compare, cmp.Or. (11) Contracts: refilled, start, and. -/
import Derived.Test.YtoalamakhjbedaaBd2
import Derived.Test.YtoalamakhjbedaaChecked
import Derived.Deep.Slices
import Derived.Deep.Fields
import Derived.ChangeSame
import Derived.Lib.SmallJoins
import Derived.SizedLaws
import Derived.ProofKit
import Derived.WideKeyArr
import Derived.MapKept
import Derived.Outline
namespace Go.Proofs.Ytoalamakhjbedaa
set_option linter.unusedSimpArgs false
set_option linter.unusedVariables false
section
set_option linter.unusedVariables false
open Go.RowKit
def PVal (gr hold : Int) (na : Option Addr) (n nc : Nat) (la : Option Addr) (m lc : Nat) (v : Value) : Nat → Value := fun k =>
  match k with
  | 0 => .int .i64 gr
  | 1 => .int .i64 hold
  | 2 => .slice na n nc
  | 3 => .slice la m lc
  | _ => v
theorem PVal_set (gr hold : Int) (na : Option Addr) (n nc : Nat) (la : Option Addr) (m lc : Nat) (v v2 : Value) : ∀ k, k < 5 → (fun j => if j = 4 then v2 else PVal gr hold na n nc la m lc v j) k = PVal gr hold na n nc la m lc v2 k := by
  intro k hk
  match k, hk with
  | 0, _ | 1, _ | 2, _ | 3, _ | 4, _ => rfl
theorem pval_new {W : World} {b : Nat} {t : TypeId} {gr hold : Int} {na : Option Addr} {n nc : Nat} {la : Option Addr} {m lc : Nat} {v : Value} (h : W.heap[b]? = some (.cells #[.int .i64 gr, .int .i64 hold, .slice na n nc, .slice la m lc, v] t)) : OwnP W b 5 (PVal gr hold na n nc la m lc v) :=
  ⟨_, _, h, by simp, fun k hk => by
    match k, hk with
    | 0, _ | 1, _ | 2, _ | 3, _ | 4, _ => rfl⟩
theorem ownP_zero {W : World} {b : Nat} {cs : Array Value} {t : TypeId} {val : Nat → Value} (h : W.heap[b]? = some (.cells cs t)) : OwnP W b 0 val := ⟨_, _, h, Nat.zero_le _, fun k hk => by omega⟩
/-- the cells of the nodes that are collected -/
def flatN (nd : List (List Int)) (i : Nat) : List Value := (List.range (i * 17)).map (NV (startS nd))
def row17 (nd : List (List Int)) (i : Nat) : List Value :=
  [.int .i64 (cv nd i 0), .int .i64 (cv nd i 1), .int .i64 (cv nd i 2), .int .i64 (cv nd i 3), .int .i64 (cv nd i 4), .int .i64 0, .int .i64 0, .int .i64 0, .int .i64 0, .int .i64 0, .int .i64 0, .int .i64 0, .int .i64 0, .int .i64 0, .int .i64 0, .int .i64 (cv nd i 3), .bool false]
theorem flatN_succ (nd : List (List Int)) (i : Nat) : flatN nd (i + 1) = flatN nd i ++ row17 nd i := by
  unfold flatN
  rw [Nat.add_mul, Nat.one_mul, List.range_add, List.map_append]
  congr 1
  rw [List.map_map]
  have e : (List.range 17).map (NV (startS nd) ∘ fun x => i * 17 + x) = [NV (startS nd) (i * 17 + 0), NV (startS nd) (i * 17 + 1), NV (startS nd) (i * 17 + 2), NV (startS nd) (i * 17 + 3), NV (startS nd) (i * 17 + 4), NV (startS nd) (i * 17 + 5), NV (startS nd) (i * 17 + 6), NV (startS nd) (i * 17 + 7), NV (startS nd) (i * 17 + 8), NV (startS nd) (i * 17 + 9), NV (startS nd) (i * 17 + 10), NV (startS nd) (i * 17 + 11), NV (startS nd) (i * 17 + 12), NV (startS nd) (i * 17 + 13), NV (startS nd) (i * 17 + 14), NV (startS nd) (i * 17 + 15), NV (startS nd) (i * 17 + 16)] := rfl
  rw [e, NV_int _ _ 0 (by decide), NV_int _ _ 1 (by decide), NV_int _ _ 2 (by decide), NV_int _ _ 3 (by decide), NV_int _ _ 4 (by decide), NV_int _ _ 5 (by decide), NV_int _ _ 6 (by decide), NV_int _ _ 7 (by decide), NV_int _ _ 8 (by decide), NV_int _ _ 9 (by decide), NV_int _ _ 10 (by decide), NV_int _ _ 11 (by decide), NV_int _ _ 12 (by decide), NV_int _ _ 13 (by decide), NV_int _ _ 14 (by decide), NV_int _ _ 15 (by decide), NV_bool]
  rfl
theorem flatN_at {nd : List (List Int)} {n j : Nat} {u : Value} (h : (flatN nd n)[j]? = some u) : u = NV (startS nd) j := by
  have hj := (List.getElem?_eq_some_iff.1 h).1
  unfold flatN at h hj
  rw [List.getElem?_map, List.getElem?_range (by simpa using hj)] at h
  simpa using h.symm
theorem Y.b03 {ρ : Operand → Value} {x y : Operand} {v z : Value} (h : ρ x = v) (k : ρ y = z) : [(0, x), (3, y)].map (fun p : Nat × Operand => (p.1, ρ p.2)) = [(0, v), (3, z)] := by simp [h, k]
theorem Try.bd104 (a b c d e f : Int) (W : World) : (Instr.build 104 #[(0, .agg #[.int .i64 a, .int .i64 b, .int .i64 c, .int .i64 d, .int .i64 e]), (3, .int .i64 f)]).run Try.prog W = .ok (.agg #[.int .i64 a, .int .i64 b, .int .i64 c, .int .i64 d, .int .i64 e, .int .i64 0, .int .i64 0, .int .i64 0, .int .i64 0, .int .i64 0, .int .i64 0, .int .i64 0, .int .i64 0, .int .i64 0, .int .i64 0, .int .i64 f, .bool false]) W := by kernel_rfl
theorem Try.bd101 (a b : Int) (na la : Option Addr) (n nc m lc : Nat) (W : World) : (Instr.build 101 #[(0, .agg #[.int .i64 a, .int .i64 b, .slice na n nc]), (1, .slice la m lc)]).run Try.prog W = .ok (.agg #[.int .i64 a, .int .i64 b, .slice na n nc, .slice la m lc, .slice none 0 0]) W := by kernel_rfl
theorem Try.bs99 (a b c d e f : Int) (W : World) : (Instr.buildSlice 99 1 #[(0, .agg #[.int .i64 a, .int .i64 b, .int .i64 c, .int .i64 d, .int .i64 e, .int .i64 0, .int .i64 0, .int .i64 0, .int .i64 0, .int .i64 0, .int .i64 0, .int .i64 0, .int .i64 0, .int .i64 0, .int .i64 0, .int .i64 f, .bool false])]).run Try.prog W = .ok (.slice (some ⟨W.heap.size, 0, none⟩) 1 1) (W.alloc (.cells #[.int .i64 a, .int .i64 b, .int .i64 c, .int .i64 d, .int .i64 e, .int .i64 0, .int .i64 0, .int .i64 0, .int .i64 0, .int .i64 0, .int .i64 0, .int .i64 0, .int .i64 0, .int .i64 0, .int .i64 0, .int .i64 f, .bool false] 104)) := by kernel_rfl
/-- what begin leaves -/
def Begun (wB W : World) (gr hold : Int) (na la : Option Addr) (n nc m lc : Nat) (l nd : List (List Int)) (bp : Nat) : Prop :=
  ∃ bn pa cap, PlE wB W bp bn gr hold na la pa n nc m lc cap l ∧ OwnP W bn (n * 17) (NV (startS nd))
end
section
set_option linter.unusedVariables false
open Go.RowKit
theorem OwnR.intsN {w : World} {B e n : Nat} {v : Value} {zs : List Int} (h : OwnR w B e 1 v n (zs.map (Value.int .i64))) (hn : zs.length = n) (hl : n < 1152921504606846976) : ∃ a c, v = .slice a n c ∧ Ints w a n zs ∧ ∀ ad, a = some ad → B ≤ ad.block ∧ ad.block < w.heap.size := by
  subst hn
  obtain ⟨a, c, rfl, hI⟩ := h.ints hl
  refine ⟨a, c, rfl, hI, fun ad e => ?_⟩
  subst e
  rcases h.shape with ⟨h1, _⟩ | ⟨g, c', h1, h2, h3⟩
  · cases h1
  · injection h1 with h1
    injection h1 with h1
    subst h1
    exact ⟨h2, h3⟩
theorem Ints.nil (w : World) : Ints w none 0 [] := ⟨rfl, by decide, fun j hj => by omega⟩
/-- a row of numbers in a block -/
def EV (f : Nat → Int) : Nat → Value := fun k => .int .i64 (f k)
theorem EV_up (f : Nat → Int) (i : Nat) (v : Int) : (fun k => if k = i then .int .i64 v else EV f k) = EV (fun k => if k = i then v else f k) := by
  funext k
  show (if k = i then Value.int .i64 v else Value.int .i64 (f k)) = Value.int .i64 (if k = i then v else f k)
  split <;> rfl
theorem ownP_ints {w : World} {b n : Nat} {f : Nat → Int} (h : OwnP w b n (EV f)) (hl : n < 1152921504606846976) : Ints w (some ⟨b, 0, none⟩) n ((List.range n).map f) :=
  ⟨by simp, hl, fun j hj => ⟨_, rfl, h.lt, by rw [addr_add0, h.cell hj]; simp [EV, hj]⟩⟩
theorem Try.mk34 (n : Nat) (w : World) (hn : n ≤ 16) : (Instr.makeSlice 34 (.int .i64 (n : Int)) (.int .i64 (n : Int))).run Try.prog w = .ok (.slice (some ⟨w.heap.size, 0, none⟩) n n) (w.alloc (.cells (List.replicate n (.int .i64 0)).toArray 3)) := by
  obtain rfl | rfl | rfl | rfl | rfl | rfl | rfl | rfl | rfl | rfl | rfl | rfl | rfl | rfl | rfl | rfl | rfl : n = 0 ∨ n = 1 ∨ n = 2 ∨ n = 3 ∨ n = 4 ∨ n = 5 ∨ n = 6 ∨ n = 7 ∨ n = 8 ∨ n = 9 ∨ n = 10 ∨ n = 11 ∨ n = 12 ∨ n = 13 ∨ n = 14 ∨ n = 15 ∨ n = 16 := by omega
  all_goals kernel_rfl
theorem zeros_own (w : World) (n : Nat) : OwnP (w.alloc (.cells (List.replicate n (.int .i64 0)).toArray 3)) w.heap.size n (EV (fun _ => 0)) :=
  ⟨_, _, World.alloc_heap_new _ _, by rw [List.size_toArray, List.length_replicate]; exact Nat.le_refl _, fun k hk => by rw [List.getElem?_toArray, List.getElem?_replicate, if_pos hk]; rfl⟩
/-- what a node takes in a tick with this row -/
def en1 (nd : List (List Int)) (row : Int) (j : Nat) : Int := if bitB row j then cv nd j 1 else cv nd j 2
def enS (nd : List (List Int)) (rows : List Int) (j : Nat) : Int := rows.foldl (fun a r => a + en1 nd r j) 0
def enP (nd : List (List Int)) (row : Int) (i : Nat) (f : Nat → Int) : Nat → Int := fun j => if j < i then f j + en1 nd row j else f j
theorem enS_take {nd : List (List Int)} {rows : List Int} {k : Nat} (h : k < rows.length) (j : Nat) : enS nd (rows.take (k + 1)) j = enS nd (rows.take k) j + en1 nd (rows[k]?.getD 0) j := by
  unfold enS
  rw [List.take_succ_eq_append_getElem h, List.foldl_append, List.getElem?_eq_getElem h]
  rfl
theorem enP_zero (nd : List (List Int)) (row : Int) (f : Nat → Int) : enP nd row 0 f = f := by
  funext j; unfold enP; rw [if_neg (by omega)]
theorem enP_succ (nd : List (List Int)) (row : Int) (i : Nat) (f : Nat → Int) {v : Int} (h : v = en1 nd row i) : (fun k => if k = i then enP nd row i f i + v else enP nd row i f k) = enP nd row (i + 1) f := by
  funext j
  unfold enP
  by_cases e : j = i
  · subst e; rw [if_pos rfl, if_neg (by omega), if_pos (by omega), h]
  · rw [if_neg e]
    by_cases e2 : j < i
    · rw [if_pos e2, if_pos (by omega)]
    · rw [if_neg e2, if_neg (by omega)]
theorem enP_at (nd : List (List Int)) (row : Int) (i : Nat) (f : Nat → Int) : enP nd row i f i = f i := by unfold enP; rw [if_neg (by omega)]
theorem en1_bd {gr hold : Int} {nd : List (List Int)} (h : CluOk gr hold nd) {j : Nat} (hj : j < nd.length) (r : Int) : 0 ≤ en1 nd r j ∧ en1 nd r j ≤ 10000 := by
  have h1 := h.awk j hj
  have h2 := h.asl j hj
  unfold en1
  split <;> omega
theorem enS_bd {gr hold : Int} {nd : List (List Int)} (h : CluOk gr hold nd) {j : Nat} (hj : j < nd.length) : ∀ (rows : List Int), 0 ≤ enS nd rows j ∧ enS nd rows j ≤ rows.length * 10000 := by
  intro rows
  have gen : ∀ (rows : List Int) (a : Int), a ≤ rows.foldl (fun a r => a + en1 nd r j) a ∧ rows.foldl (fun a r => a + en1 nd r j) a ≤ a + rows.length * 10000 := by
    intro rows
    induction rows with
    | nil => intro a; simp
    | cons r rows ih =>
      intro a
      have h1 := ih (a + en1 nd r j)
      have h2 := en1_bd h hj r
      simp only [List.foldl_cons, List.length_cons]
      omega
  have := gen rows 0
  unfold enS
  omega
theorem SOk.start {gr hold : Int} {nd : List (List Int)} (h : CluOk gr hold nd) : SOk nd.length (startS nd) := by
  refine ⟨fun i hi => ?_, fun i hi => ?_, fun i hi j h1 h2 => ?_⟩
  · have := h.bud i hi
    show 0 ≤ cv nd i 3 ∧ cv nd i 3 ≤ 1000
    omega
  · exact h.ref i hi
  · unfold startS
    have hb := h.bud i hi
    split
    · omega
    · split <;> omega
def playR (gr hold : Int) (nd : List (List Int)) (t : Int) (l : List (List Int)) : PR := runFrom hold gr.toNat nd.length l (startS nd) t.toNat
def playRows (gr hold : Int) (nd : List (List Int)) (t : Int) (l : List (List Int)) : List Int := if playE gr hold nd t l = 0 then (playR gr hold nd t l).rows else []
def playAsk (gr hold : Int) (nd : List (List Int)) (t : Int) (l : List (List Int)) : List Int := if playE gr hold nd t l = 0 then (playR gr hold nd t l).asked else []
def playEn (gr hold : Int) (nd : List (List Int)) (t : Int) (l : List (List Int)) : List Int := if playE gr hold nd t l = 0 then (List.range nd.length).map (enS nd (playR gr hold nd t l).rows) else []
end
section
open Go.ChangeShapes Go.WideShapes Go.RowKit Go.Deep Go.Joins

/-- nothing in the datum passes the reach -/
def Wt {H : Type} (t : TypeId) (d : DataW H) : Prop := ∀ x ∈ d.weights Try.prog t, x ≤ reachBytes

theorem Wt.each {H : Type} {ts : List TypeId} {ds : List (DataW H)} (h : (DataW.weightsEach Try.prog ts ds).all (· ≤ reachBytes) = true) {j : Nat} {t : TypeId} {d : DataW H} (ht : ts[j]? = some t) (hd : ds[j]? = some d) : Wt t d := fun x hx => by
  have := List.all_eq_true.1 h _ (DataW.weights_mem_each ht hd x hx)
  simpa using this
theorem Wt.field {H : Type} {t : TypeId} {fs : Array Field} {parts : List (DataW H)} (hs : Try.prog.underlying t = some (.struct fs)) (h : Wt t (.agg parts)) {j : Nat} {ft : TypeId} {d : DataW H} (ht : (fs.toList.map (·.type))[j]? = some ft) (hd : parts[j]? = some d) : Wt ft d := fun x hx =>
  h x (by simp only [DataW.weights, hs]; exact DataW.weights_mem_each ht hd x hx)
theorem Wt.len {H : Type} {t e : TypeId} {elems spare : List (DataW H)} (hs : Try.prog.underlying t = some (.slice e)) (h : Wt t (.slice elems spare)) : (elems.length + spare.length) * Try.prog.bytesOf e ≤ reachBytes :=
  h _ (by simp only [DataW.weights, hs, List.mem_cons, true_or])

section
variable {H : Type} {enc : TypeId × Value → H} {w : World} {base : Nat} {spare : Nat → Bool} {held : Bool}

theorem cell_blk {w : World} {p : Addr} {v : Value} (h : w.cell? p = some v) : p.block < w.heap.size := by
  unfold World.cell? at h
  cases hb : w.heap[p.block]? with
  | none => rw [hb] at h; simp at h
  | some o => exact (Array.getElem?_eq_some_iff.1 hb).1

theorem Try.cells3 : Try.prog.cellsOf 3 = 1 := by kernel_rfl
theorem Try.cells31 : Try.prog.cellsOf 31 = 5 := by kernel_rfl
theorem Try.cells33 : Try.prog.cellsOf 33 = 4 := by kernel_rfl
theorem Try.bytes31 : Try.prog.bytesOf 31 = 40 := by kernel_rfl
theorem Try.bytes33 : Try.prog.bytesOf 33 = 32 := by kernel_rfl
/-- choose a list -/
theorem list_of {α : Type} {P : Nat → α → Prop} (d : α) : ∀ n, (∀ j, j < n → ∃ x, P j x) → ∃ L : List α, L.length = n ∧ ∀ j, j < n → P j (L[j]?.getD d) := by
  intro n
  induction n with
  | zero => intro _; exact ⟨[], rfl, fun j hj => by omega⟩
  | succ n ih =>
    intro h
    obtain ⟨L, hl, hL⟩ := ih (fun j hj => h j (by omega))
    obtain ⟨x, hx⟩ := h n (by omega)
    refine ⟨L ++ [x], by simp [hl], fun j hj => ?_⟩
    by_cases e : j = n
    · subst e; rw [← hl]; simpa [hl] using hx
    · rw [List.getElem?_append_left (by omega)]; exact hL j (by omega)

theorem four {α : Type} {l : List α} (h : l.length = 4) : ∃ a b c d, l = [a, b, c, d] := by
  match l, h with
  | [a, b, c, d], _ => exact ⟨a, b, c, d, rfl⟩

theorem five {α : Type} {l : List α} (h : l.length = 5) : ∃ a b c d e, l = [a, b, c, d, e] := by
  match l, h with
  | [a, b, c, d, e], _ => exact ⟨a, b, c, d, e, rfl⟩
/-- a slice of structures of 5 numbers -/
theorem open_s22 {fuel : Nat} {v : Value} {x : DataW H × List MemPlace} (h : DataW.trod enc Try.prog w base spare held fuel 22 [v] = some x) (hw : Wt 22 x.1) : ∃ a n c L, v = .slice a n c ∧ StAt w 5 a n L := by
  rcases open_slice Try.underlying22 h with ⟨hcs, _⟩ | ⟨a, len, cap, m, n, D, Pl, hcs, hb, hl, hm, hmm, hx, hi⟩
  · simp at hcs
    exact ⟨none, 0, 0, [], hcs, rfl, by omega, fun j hj => by omega⟩
  · simp at hcs
    subst hcs
    have hlm : len ≤ m := by rw [hmm]; split <;> omega
    have hw1 := hw
    rw [hx] at hw1
    have hlen := hw1.len Try.underlying22
    rw [Try.bytes31] at hlen
    simp only [List.length_map, List.length_range, reachBytes] at hlen
    obtain ⟨C, hC1, hC2⟩ := list_of (P := fun j (c : List Int) => c.length = 5 ∧ ∀ r, r < 5 → w.cell? ((a.add (j * 5)).add r) = some (.int .i64 (c[r]?.getD 0))) [] len (fun j hj => by
      obtain ⟨cs', hc, ht'⟩ := hi j (by omega)
      rw [Try.cells31] at hc
      obtain ⟨_, hcl, hat⟩ := World.cells?_some hc
      obtain ⟨ys, n', hn', hy, hlen', hyl, hf⟩ := DataW.trod_struct Try.underlying31 ht'
      have hyl4 : ys.length = 5 := by simpa using hyl
      obtain ⟨c0, c1, c2, c3, c4, rfl⟩ := five hcl
      obtain ⟨y0, y1, y2, y3, y4, rfl⟩ := five hyl4
      have f0 := hf 0 _ rfl
      have f1 := hf 1 _ rfl
      have f2 := hf 2 _ rfl
      have f3 := hf 3 _ rfl
      have f4 := hf 4 _ rfl
      simp [Try.cells3] at f0 f1 f2 f3 f4
      obtain ⟨i0, e0, _⟩ := DataW.trod_int Try.underlying3 f0
      obtain ⟨i1, e1, _⟩ := DataW.trod_int Try.underlying3 f1
      obtain ⟨i2, e2, _⟩ := DataW.trod_int Try.underlying3 f2
      obtain ⟨i3, e3, _⟩ := DataW.trod_int Try.underlying3 f3
      obtain ⟨i4, e4, _⟩ := DataW.trod_int Try.underlying3 f4
      simp at e0 e1 e2 e3 e4
      subst e0 e1 e2 e3 e4
      exact ⟨[i0, i1, i2, i3, i4], rfl, fun r hr => by
        match r, hr with
        | 0, _ => exact hat 0 (by omega)
        | 1, _ => exact hat 1 (by omega)
        | 2, _ => exact hat 2 (by omega)
        | 3, _ => exact hat 3 (by omega)
        | 4, _ => exact hat 4 (by omega)⟩)
    refine ⟨some a, len, cap, C, rfl, hC1, by omega, fun j hj => ?_⟩
    obtain ⟨h0, h1⟩ := hC2 j hj
    exact ⟨a, rfl, by have := cell_blk (h1 0 (by decide)); rwa [add_block, add_block] at this, h0, h1⟩

/-- a slice of structures of 4 numbers -/
theorem open_s25 {fuel : Nat} {v : Value} {x : DataW H × List MemPlace} (h : DataW.trod enc Try.prog w base spare held fuel 25 [v] = some x) (hw : Wt 25 x.1) : ∃ a n c L, v = .slice a n c ∧ StAt w 4 a n L := by
  rcases open_slice Try.underlying25 h with ⟨hcs, _⟩ | ⟨a, len, cap, m, n, D, Pl, hcs, hb, hl, hm, hmm, hx, hi⟩
  · simp at hcs
    exact ⟨none, 0, 0, [], hcs, rfl, by omega, fun j hj => by omega⟩
  · simp at hcs
    subst hcs
    have hlm : len ≤ m := by rw [hmm]; split <;> omega
    have hw1 := hw
    rw [hx] at hw1
    have hlen := hw1.len Try.underlying25
    rw [Try.bytes33] at hlen
    simp only [List.length_map, List.length_range, reachBytes] at hlen
    obtain ⟨C, hC1, hC2⟩ := list_of (P := fun j (c : List Int) => c.length = 4 ∧ ∀ r, r < 4 → w.cell? ((a.add (j * 4)).add r) = some (.int .i64 (c[r]?.getD 0))) [] len (fun j hj => by
      obtain ⟨cs', hc, ht'⟩ := hi j (by omega)
      rw [Try.cells33] at hc
      obtain ⟨_, hcl, hat⟩ := World.cells?_some hc
      obtain ⟨ys, n', hn', hy, hlen', hyl, hf⟩ := DataW.trod_struct Try.underlying33 ht'
      have hyl4 : ys.length = 4 := by simpa using hyl
      obtain ⟨c0, c1, c2, c3, rfl⟩ := four hcl
      obtain ⟨y0, y1, y2, y3, rfl⟩ := four hyl4
      have f0 := hf 0 _ rfl
      have f1 := hf 1 _ rfl
      have f2 := hf 2 _ rfl
      have f3 := hf 3 _ rfl
      simp [Try.cells3] at f0 f1 f2 f3
      obtain ⟨i0, e0, _⟩ := DataW.trod_int Try.underlying3 f0
      obtain ⟨i1, e1, _⟩ := DataW.trod_int Try.underlying3 f1
      obtain ⟨i2, e2, _⟩ := DataW.trod_int Try.underlying3 f2
      obtain ⟨i3, e3, _⟩ := DataW.trod_int Try.underlying3 f3
      simp at e0 e1 e2 e3
      subst e0 e1 e2 e3
      exact ⟨[i0, i1, i2, i3], rfl, fun r hr => by
        match r, hr with
        | 0, _ => exact hat 0 (by omega)
        | 1, _ => exact hat 1 (by omega)
        | 2, _ => exact hat 2 (by omega)
        | 3, _ => exact hat 3 (by omega)⟩)
    refine ⟨some a, len, cap, C, rfl, hC1, by omega, fun j hj => ?_⟩
    obtain ⟨h0, h1⟩ := hC2 j hj
    exact ⟨a, rfl, by have := cell_blk (h1 0 (by decide)); rwa [add_block, add_block] at this, h0, h1⟩

set_option maxRecDepth 100000 in
/-- a cluster -/
theorem open_clu {r : Reach} {b0 : Nat} {v : Value} {d : DataW H} {p : List MemPlace} (hv : Value.okWide Try.prog w r b0 24 v) (h : DataW.Trod enc Try.prog w base spare held 24 v d p) (hw : Wt 24 d) :
    ∃ gr hold na n nc nd, v = .agg #[.int .i64 gr, .int .i64 hold, .slice na n nc] ∧ StAt w 5 na n nd := by
  obtain ⟨v0, v1, v2, y0, y1, y2, n, rfl, rfl, _, h0, h1, h2⟩ := open_agg3 Try.underlying24 (by kernel_rfl) (by kernel_rfl) hv h
  obtain ⟨i0, e0, _⟩ := DataW.trod_int Try.underlying3 h0
  obtain ⟨i1, e1, _⟩ := DataW.trod_int Try.underlying3 h1
  simp at e0 e1
  subst e0 e1
  obtain ⟨na, n, nc, nd, rfl, hnd⟩ := open_s22 h2 (hw.field Try.underlying24 (j := 2) (ft := 22) (by simp) (by simp))
  exact ⟨i0, i1, na, n, nc, nd, rfl, hnd⟩
theorem okWide_sl {P : Program} {t e : TypeId} {r : Reach} {b0 : Nat} {v : Value} (ht : P.underlying t = some (.slice e)) (h : Value.okWide P w r b0 t v) : v.cells.toList = [v] := by
  simp only [Value.okWide, ht, Cell.okWide] at h
  cases v <;> simp_all [Cell.ok, Value.cells]
set_option maxRecDepth 100000 in
/-- nudges -/
theorem open_nus {r : Reach} {b0 : Nat} {v : Value} {d : DataW H} {p : List MemPlace} (hv : Value.okWide Try.prog w r b0 25 v) (h : DataW.Trod enc Try.prog w base spare held 25 v d p) (hw : Wt 25 d) :
    ∃ la m lc l, v = .slice la m lc ∧ StAt w 4 la m l := by
  obtain ⟨fuel, hf⟩ := h
  have hvs := okWide_sl Try.underlying25 hv
  rw [hvs] at hf
  exact open_s25 (x := (d, p)) hf hw
end
end
section
set_option linter.unusedVariables false
open Go.RowKit

theorem foldl_keep {σ α : Type} {f : σ → α → σ} {P : σ → Prop} : ∀ (L : List α) (s : σ), P s → (∀ x ∈ L, ∀ s, P s → P (f s x)) → P (L.foldl f s)
  | [], s, h, _ => h
  | x :: L, s, h, hf => foldl_keep L (f s x) (hf x (by simp) s h) (fun y hy => hf y (by simp [hy]))

section
variable {hold : Int} {gr n : Nat} {l : List (List Int)} {s : PS}
/-- what askS, disturbS, sendS and passS leave alone -/
theorem askX_ne (x : List Int) {a j : Nat} (h : j ≠ 5) : askX s x a j = s a j := by
  unfold askX askA
  split
  · rw [up_ne _ _ (.inr h), up_ne _ _ (.inr h)]
  · rw [up_ne _ _ (.inr h)]
theorem askS_ne (t : Int) {a j : Nat} (h : j ≠ 5) : askS l t s a j = s a j :=
  foldl_keep (P := fun z : PS => z a j = s a j) _ _ rfl (fun x _ z hz => by rw [askX_ne x h]; exact hz)
theorem refill_ne (t : Int) {a j k : Nat} (h : j ≠ 15) : itN (refill1 t) k s a j = s a j :=
  itN_keep (P := fun z : PS => z a j = s a j) rfl k (fun i z _ hz => by
    unfold refill1
    split
    · rw [up_ne _ _ (.inr h)]; exact hz
    · exact hz)
theorem noise_ne (L : List (List Int)) {a j : Nat} (h : j ≠ 15) (h2 : j ≠ 14) : L.foldl (noiseX hold) s a j = s a j :=
  foldl_keep (P := fun z : PS => z a j = s a j) _ _ rfl (fun x _ z hz => by
    unfold noiseX
    split
    · rw [up_ne _ _ (.inr h2), up_ne _ _ (.inr h)]; exact hz
    · exact hz)
theorem disturb_ne (t : Int) {a j : Nat} (h : j ≠ 15) (h2 : j ≠ 14) : disturbS hold l n t s a j = s a j := by
  unfold disturbS; rw [noise_ne _ h h2, refill_ne t h]
theorem sendS_lo {lost : Nat → Nat → Bool} {k i j : Nat} (h : j < 6 ∨ 15 ≤ j) (hg : gr ≤ 9) : sendS hold gr k lost s i j = s i j := by
  unfold sendS
  exact itN_keep (P := fun z : PS => z i j = s i j) rfl k (fun q z _ hz => by rw [send3_lo h hg]; exact hz)
theorem send_ne14 {lost : Nat → Nat → Bool} {k i : Nat} (hg : gr ≤ 8) : sendS hold gr k lost s i 14 = s i 14 := by
  unfold sendS
  refine itN_keep (P := fun z : PS => z i 14 = s i 14) rfl k (fun q z _ hz => ?_)
  unfold send3
  refine itN_keep (P := fun z : PS => z i 14 = s i 14) hz k (fun q2 z _ hz => ?_)
  unfold send2
  refine itN_keep (P := fun z : PS => z i 14 = s i 14) hz gr (fun g z hg2 hz => ?_)
  unfold send1
  split
  · rw [up_ne _ _ (by omega)]; exact hz
  · exact hz
/-- whether a node is awake in a tick: one of its timers runs -/
def anyB (p : Nat → Bool) : Nat → Bool
  | 0 => false
  | m + 1 => anyB p m || p m
theorem anyB_iff {p : Nat → Bool} : ∀ {m : Nat}, anyB p m = true ↔ ∃ k, k < m ∧ p k = true
  | 0 => by simp [anyB]
  | m + 1 => by
    simp only [anyB, Bool.or_eq_true, anyB_iff (m := m)]
    constructor
    · rintro (⟨k, h, h'⟩ | h)
      · exact ⟨k, by omega, h'⟩
      · exact ⟨m, by omega, h⟩
    · rintro ⟨k, h, h'⟩
      by_cases e : k = m
      · subst e; exact .inr h'
      · exact .inl ⟨k, by omega, h'⟩
def awB (s : PS) (i : Nat) : Bool := anyB (fun k => decide (0 < s i (6 + k))) 9
theorem awB_iff {s : PS} {i : Nat} : awB s i = true ↔ ∃ k, k < 9 ∧ 0 < s i (6 + k) := by
  unfold awB; rw [anyB_iff]; simp
theorem passN_part (i : Nat) : ∀ m, m ≤ 9 → (itN (pass1 i) m (up s i 16 0) i 16 = if anyB (fun k => decide (0 < s i (6 + k))) m then 1 else 0) ∧
    (∀ k, k < 9 → itN (pass1 i) m (up s i 16 0) i (6 + k) = if k < m ∧ 0 < s i (6 + k) then s i (6 + k) - 1 else s i (6 + k))
  | 0, _ => ⟨by rw [itN_zero, up_same]; rfl, fun k hk => by rw [itN_zero, up_ne _ _ (by omega), if_neg (by omega)]⟩
  | m + 1, hm => by
    obtain ⟨h1, h2⟩ := passN_part i m (by omega)
    rw [itN_succ]
    have h3 := h2 m (by omega)
    rw [if_neg (by omega)] at h3
    generalize itN (pass1 i) m (up s i 16 0) = z at *
    by_cases hp : 0 < s i (6 + m)
    · rw [pass1_pos (by rw [h3]; exact hp)]
      refine ⟨?_, fun k hk => ?_⟩
      · rw [up_ne _ _ (by omega), up_same]; simp [anyB, hp]
      · by_cases e : k = m
        · subst e; rw [up_same, h3, if_pos ⟨by omega, hp⟩]
        · rw [up_ne _ _ (by omega), up_ne _ _ (by omega), h2 k hk]
          by_cases e2 : k < m ∧ 0 < s i (6 + k)
          · rw [if_pos e2, if_pos ⟨by omega, e2.2⟩]
          · rw [if_neg e2, if_neg (by omega)]
    · rw [pass1_neg (by rw [h3]; exact hp)]
      refine ⟨?_, fun k hk => ?_⟩
      · rw [h1]; simp [anyB, hp]
      · rw [h2 k hk]
        by_cases e2 : k < m ∧ 0 < s i (6 + k)
        · rw [if_pos e2, if_pos ⟨by omega, e2.2⟩]
        · rw [if_neg e2, if_neg]
          rintro ⟨h, h'⟩
          by_cases ek : k = m
          · subst ek; exact hp h'
          · exact e2 ⟨by omega, h'⟩
theorem passN_aw (i : Nat) : passN i s i 16 = if awB s i then 1 else 0 := by
  have := (passN_part (s := s) i 9 (Nat.le_refl _)).1
  unfold passN awB
  exact this
theorem passN_tm (i : Nat) {k : Nat} (hk : k < 9) : passN i s i (6 + k) = if 0 < s i (6 + k) then s i (6 + k) - 1 else s i (6 + k) := by
  have := (passN_part (s := s) i 9 (Nat.le_refl _)).2 k hk
  unfold passN
  rw [this]
  by_cases e : 0 < s i (6 + k) <;> simp [e, hk]
theorem passN_ne {i a j : Nat} (h : a ≠ i ∨ j < 6 ∨ j = 15) : passN i s a j = s a j := by
  unfold passN
  exact itN_keep (P := fun z : PS => z a j = s a j) (up_ne _ _ (by omega)) 9 (fun k z hk hz => by rw [pass1_hi (by omega)]; exact hz)
theorem awB_congr {s z : PS} {i : Nat} (h : ∀ j, s i j = z i j) : awB s i = awB z i := by
  unfold awB
  simp only [h]
/-- the nodes that are awake: as a number -/
theorem pass_part : ∀ m, m ≤ 62 → (∀ a j, m ≤ a → (itN pass2 m (s, 0)).1 a j = s a j) ∧ (∀ a, a < m → ∀ j, (itN pass2 m (s, 0)).1 a j = passN a s a j) ∧
    (∃ R : Nat, (itN pass2 m (s, 0)).2 = R ∧ R < 2 ^ m ∧ ∀ i, i < m → R.testBit i = awB s i)
  | 0, _ => ⟨fun _ _ _ => rfl, fun a h => absurd h (Nat.not_lt_zero _), 0, rfl, by decide, fun i h => absurd h (Nat.not_lt_zero _)⟩
  | m + 1, hm => by
    obtain ⟨h1, h2, R, h3, h4, h5⟩ := pass_part m (by omega)
    rw [itN_succ]
    generalize itN pass2 m (s, 0) = z at *
    have hz : ∀ j, passN m z.1 m j = passN m s m j := fun j => by
      by_cases ej : j < 6 ∨ j = 15
      · rw [passN_ne (.inr ej), passN_ne (.inr ej), h1 m j (Nat.le_refl _)]
      · by_cases e16 : j = 16
        · subst e16; rw [passN_aw, passN_aw, awB_congr (fun j => h1 m j (Nat.le_refl _))]
        · by_cases e9 : j < 15
          · have e : j = 6 + (j - 6) := by omega
            rw [e, passN_tm m (by omega), passN_tm m (by omega), h1 m _ (Nat.le_refl _)]
          · have hk : ∀ q : PS, passN m q m j = q m j := fun q => by
              unfold passN
              exact itN_keep (P := fun z : PS => z m j = q m j) (up_ne _ _ (by omega)) 9 (fun k z hk hz => by rw [pass1_hi (by omega)]; exact hz)
            rw [hk, hk, h1 m j (Nat.le_refl _)]
    refine ⟨fun a j ha => ?_, fun a ha j => ?_, ?_⟩
    · show passN m z.1 a j = s a j
      rw [passN_ne (.inl (by omega))]; exact h1 a j (by omega)
    · show passN m z.1 a j = passN a s a j
      by_cases e : a = m
      · subst e; exact hz j
      · rw [passN_ne (.inl e)]; exact h2 a (by omega) j
    · show ∃ R : Nat, (if passN m z.1 m 16 = 0 then z.2 else orV z.2 (shlV 1 m)) = R ∧ _
      rw [hz 16, passN_aw, h3]
      have hp : (2 : Nat) ^ m < 2 ^ 63 := Nat.pow_lt_pow_right (by decide) (by omega)
      have hp1 : (2 : Nat) ^ m * 2 = 2 ^ (m + 1) := (Nat.pow_succ 2 m).symm
      cases ha : awB s m with
      | false =>
        refine ⟨R, by simp, by omega, fun i hi => ?_⟩
        by_cases e : i = m
        · subst e; rw [ha]; exact Nat.testBit_lt_two_pow h4
        · exact h5 i (by omega)
      | true =>
        have h2p : (2 : Nat) ^ 63 = 9223372036854775808 := by decide
        refine ⟨R ||| 2 ^ m, ?_, Nat.or_lt_two_pow (by omega) (by omega), fun i hi => ?_⟩
        · rw [if_neg (by decide), shl_nat (by omega), or_nat (by omega) (by omega)]
        · rw [Nat.testBit_or, Nat.testBit_two_pow]
          by_cases e : i = m
          · subst e; simp [ha]
          · rw [h5 i (by omega)]; simp [Ne.symm e]
theorem passS_st {a : Nat} (hn : n ≤ 62) (ha : a < n) (j : Nat) : (passS n s).1 a j = passN a s a j := (pass_part n hn).2.1 a ha j
theorem passS_row (hn : n ≤ 62) : ∃ R : Nat, (passS n s).2 = R ∧ R < 2 ^ n ∧ ∀ i, i < n → R.testBit i = awB s i := (pass_part n hn).2.2
theorem passS_bit {i : Nat} (hn : n ≤ 62) (hi : i < n) : bitB (passS n s).2 i = awB s i := by
  obtain ⟨R, h1, h2, h3⟩ := passS_row (s := s) hn
  have hp : (2 : Nat) ^ n < 2 ^ 63 := Nat.pow_lt_pow_right (by decide) (by omega)
  rw [h1, bit_nat (by have h2p : (2 : Nat) ^ 63 = 9223372036854775808 := by decide
                      omega), h3 i hi]
end
/-- the state of a play before a tick, behind its asking, its noise, its sending -/
def askT (hold : Int) (gr n : Nat) (l : List (List Int)) (s : PS) (t : Nat) : PS := askS l t (runFrom hold gr n l s t).s
def disT (hold : Int) (gr n : Nat) (l : List (List Int)) (s : PS) (t : Nat) : PS := disturbS hold l n t (askT hold gr n l s t)
def sndT (hold : Int) (gr n : Nat) (l : List (List Int)) (s : PS) (t : Nat) : PS := sendS hold gr n (lostF l t) (disT hold gr n l s t)
section
variable {hold : Int} {gr n : Nat} {l : List (List Int)} {s : PS}
theorem run_succ (t : Nat) : runFrom hold gr n l s (t + 1) = ⟨(passS n (sndT hold gr n l s t)).1, (runFrom hold gr n l s t).asked ++ [asksG n (askT hold gr n l s t)], (runFrom hold gr n l s t).rows ++ [(passS n (sndT hold gr n l s t)).2]⟩ := rfl
theorem run_at {k : Nat} : ∀ t, k < t → (runFrom hold gr n l s t).asked[k]? = some (asksG n (askT hold gr n l s k)) ∧ (runFrom hold gr n l s t).rows[k]? = some (passS n (sndT hold gr n l s k)).2
  | 0, h => by omega
  | t + 1, h => by
    rw [run_succ]
    have hl := runFrom_len (hold := hold) (gr := gr) (n := n) (l := l) (s := s) t
    by_cases e : k = t
    · subst e
      constructor
      · show (_ ++ [_])[_]? = _
        rw [List.getElem?_append_right (by omega), hl.1, Nat.sub_self]; rfl
      · show (_ ++ [_])[_]? = _
        rw [List.getElem?_append_right (by omega), hl.2, Nat.sub_self]; rfl
    · have ih := run_at (k := k) t (by omega)
      constructor
      · show (_ ++ [_])[_]? = _
        rw [List.getElem?_append_left (by omega)]; exact ih.1
      · show (_ ++ [_])[_]? = _
        rw [List.getElem?_append_left (by omega)]; exact ih.2
theorem run_st {a : Nat} (hn : n ≤ 62) (ha : a < n) (t j : Nat) : (runFrom hold gr n l s (t + 1)).s a j = passN a (sndT hold gr n l s t) a j := passS_st hn ha j
/-- what a node is made of stays -/
theorem run_lo (hg : gr ≤ 8) (hn : n ≤ 62) {a j : Nat} (ha : a < n) (hj : j < 5) : ∀ t, (runFrom hold gr n l s t).s a j = s a j
  | 0 => rfl
  | t + 1 => by
    rw [run_st hn ha, passN_ne (.inr (.inl (by omega)))]
    show sendS hold gr n _ _ a j = _
    rw [sendS_lo (.inl (by omega)) (by omega)]
    show disturbS hold l n t _ a j = _
    rw [disturb_ne _ (by omega) (by omega)]
    show askS l t _ a j = _
    rw [askS_ne _ (by omega), run_lo hg hn ha hj t]
theorem askT_lo (hg : gr ≤ 8) (hn : n ≤ 62) {a j : Nat} (ha : a < n) (hj : j < 5) (t : Nat) : askT hold gr n l s t a j = s a j := by
  show askS l t _ a j = _
  rw [askS_ne _ (by omega), run_lo hg hn ha hj]
theorem disT_lo (hg : gr ≤ 8) (hn : n ≤ 62) {a j : Nat} (ha : a < n) (hj : j < 5) (t : Nat) : disT hold gr n l s t a j = s a j := by
  show disturbS hold l n t _ a j = _
  rw [disturb_ne _ (by omega) (by omega), askT_lo hg hn ha hj]
theorem disT_ask {a : Nat} (t : Nat) : disT hold gr n l s t a 5 = askT hold gr n l s t a 5 := disturb_ne _ (by omega) (by omega)
end
/-- what a node asks for is a set of groups -/
def AskOk (s : PS) : Prop := ∀ i, ∃ A : Nat, s i 5 = A ∧ A < 256
theorem AskOk.up {s : PS} (h : AskOk s) {i : Nat} {v : Int} (hv : ∃ A : Nat, v = A ∧ A < 256) : AskOk (up s i 5 v) := fun a => by
  by_cases e : a = i
  · subst e; rw [up_same]; exact hv
  · rw [up_ne _ _ (.inl e)]; exact h a
theorem ask_or {v g : Int} (hv : ∃ A : Nat, v = A ∧ A < 256) (h0 : 0 ≤ g) (h8 : g < 8) : ∃ A : Nat, orV v (shlV 1 g) = A ∧ A < 256 := by
  obtain ⟨A, rfl, hA⟩ := hv
  obtain ⟨k, rfl⟩ : ∃ k : Nat, g = k := ⟨g.toNat, by omega⟩
  have h2 : 2 ^ k < 2 ^ 8 := Nat.pow_lt_pow_right (by decide) (by omega)
  have h3 : (2 : Nat) ^ 8 = 256 := by decide
  exact ⟨A ||| 2 ^ k, by rw [shl_nat (by omega), or_nat (by omega) (by omega)], Nat.or_lt_two_pow (n := 8) (by omega) (by omega)⟩
theorem ask_anot {v g : Int} (hv : ∃ A : Nat, v = A ∧ A < 256) (h0 : 0 ≤ g) (h8 : g < 8) : ∃ A : Nat, anotV v (shlV 1 g) = A ∧ A < 256 := by
  obtain ⟨A, rfl, hA⟩ := hv
  obtain ⟨k, rfl⟩ : ∃ k : Nat, g = k := ⟨g.toNat, by omega⟩
  have h2 : 2 ^ k < 2 ^ 8 := Nat.pow_lt_pow_right (by decide) (by omega)
  have h3 : (2 : Nat) ^ 8 = 256 := by decide
  rw [shl_nat (by omega)]
  obtain ⟨c, h1, h2, _⟩ := anot_nat (a := A) (b := 2 ^ k) (by omega) (by omega)
  exact ⟨c, h1, by omega⟩
theorem AskOk.askX {s : PS} (h : AskOk s) {x : List Int} (h0 : 0 ≤ nv x 3) (h8 : nv x 3 < 8) : AskOk (askX s x) := by
  have h1 : AskOk (askA s x) := h.up (ask_or (h _) h0 h8)
  unfold Go.Proofs.Ytoalamakhjbedaa.askX
  split
  · exact h1.up (ask_anot (h1 _) h0 h8)
  · exact h1
/-- the valid nudges of a play -/
def NuAll (gr : Int) (nd : List (List Int)) (t : Int) (l : List (List Int)) : Prop := ∀ x ∈ l, NuOk gr nd t x
theorem NuAll.args {gr t u : Int} {nd l : List (List Int)} (h : NuAll gr nd t l) (h8 : gr ≤ 8) {x : List Int} (hx : x ∈ picks l u [1, 2]) : 0 ≤ nv x 3 ∧ nv x 3 < 8 := by
  obtain ⟨h1, h2⟩ := List.mem_filter.1 hx
  unfold pickB at h2
  simp at h2
  have := (h x h1).ask h2.2
  omega
theorem AskOk.askS {s : PS} (h : AskOk s) {gr t u : Int} {nd l : List (List Int)} (hl : NuAll gr nd t l) (h8 : gr ≤ 8) : AskOk (askS l u s) :=
  foldl_keep (P := AskOk) _ _ h (fun x hx z hz => hz.askX (hl.args h8 hx).1 (hl.args h8 hx).2)
section
variable {hold : Int} {g n : Nat} {l : List (List Int)} {s : PS}
theorem AskOk.run {gr t : Int} {nd : List (List Int)} (h : AskOk s) (hl : NuAll gr nd t l) (h8 : gr ≤ 8) (hg : g ≤ 8) (hn : n ≤ 62) : ∀ k i, i < n → ∃ A : Nat, (runFrom hold g n l s k).s i 5 = A ∧ A < 256
  | 0, i, _ => h i
  | k + 1, i, hi => by
    rw [run_st hn hi, passN_ne (.inr (.inl (by omega)))]
    show ∃ A : Nat, sendS hold g n _ _ i 5 = A ∧ _
    rw [sendS_lo (.inl (by omega)) (by omega), disT_ask]
    have ih := AskOk.run h hl h8 hg hn k
    have h2 : AskOk (fun a j => if a < n then (runFrom hold g n l s k).s a j else 0) := fun a => by
      by_cases e : a < n
      · simp only [e, if_true]; exact ih a e
      · simp only [e, if_false]; exact ⟨0, rfl, by decide⟩
    have h3 : ∀ a, a < n → askT hold g n l s k a 5 = Go.Proofs.Ytoalamakhjbedaa.askS l k (fun a j => if a < n then (runFrom hold g n l s k).s a j else 0) a 5 := by
      unfold askT Go.Proofs.Ytoalamakhjbedaa.askS
      generalize picks l k [1, 2] = L
      have gen : ∀ (L : List (List Int)) (z y : PS), (∀ a, a < n → ∀ j, z a j = y a j) → ∀ a, a < n → ∀ j, L.foldl Go.Proofs.Ytoalamakhjbedaa.askX z a j = L.foldl Go.Proofs.Ytoalamakhjbedaa.askX y a j := by
        intro L
        induction L with
        | nil => exact fun z y h => h
        | cons x L ih =>
          intro z y h
          refine ih _ _ (fun a ha j => ?_)
          have ha2 : ∀ a, a < n → ∀ j, askA z x a j = askA y x a j := fun a ha j => by
            unfold askA Go.Proofs.Ytoalamakhjbedaa.up
            by_cases e : a = (nv x 2).toNat ∧ j = 5
            · rw [if_pos e, if_pos e, h _ (by omega)]
            · rw [if_neg e, if_neg e, h a ha]
          unfold Go.Proofs.Ytoalamakhjbedaa.askX
          split
          · unfold Go.Proofs.Ytoalamakhjbedaa.up
            by_cases e : a = (nv x 2).toNat ∧ j = 5
            · rw [if_pos e, if_pos e, ha2 _ (by omega)]
            · rw [if_neg e, if_neg e, ha2 a ha]
          · exact ha2 a ha j
      exact fun a ha => gen L _ _ (fun a ha j => by simp [ha]) a ha 5
    rw [h3 i hi]
    exact (h2.askS hl h8) i
end
end
section
set_option linter.unusedVariables false
open Go.RowKit

theorem asks_nat {n : Nat} {s : PS} (h : ∀ i, i < n → ∃ A : Nat, s i 5 = A ∧ A < 256) : ∀ m, m ≤ n → ∃ A : Nat, itN (fun i a => orV a (s i 5)) m 0 = A ∧ A < 256 ∧ ∀ b, A.testBit b = true ↔ ∃ j, j < m ∧ (s j 5).toNat.testBit b = true
  | 0, _ => ⟨0, rfl, by decide, fun b => by simp⟩
  | m + 1, hm => by
    obtain ⟨A, h1, h2, h3⟩ := asks_nat h m (by omega)
    obtain ⟨B, h4, h5⟩ := h m (by omega)
    refine ⟨A ||| B, ?_, Nat.or_lt_two_pow (n := 8) (by omega) (by omega), fun b => ?_⟩
    · rw [itN_succ, h1, h4, or_nat (by omega) (by omega)]
    · rw [Nat.testBit_or, Bool.or_eq_true, h3 b]
      constructor
      · rintro (⟨j, hj, hb⟩ | hb)
        · exact ⟨j, by omega, hb⟩
        · exact ⟨m, by omega, by rw [h4]; simpa using hb⟩
      · rintro ⟨j, hj, hb⟩
        by_cases e : j = m
        · subst e; rw [h4] at hb; exact .inr (by simpa using hb)
        · exact .inl ⟨j, by omega, hb⟩
theorem and_bit {a b : Nat} (ha : a < 9223372036854775808) (hb : b < 9223372036854775808) : andV a b ≠ 0 ↔ ∃ k, a.testBit k = true ∧ b.testBit k = true := by
  rw [and_nat ha hb]
  constructor
  · intro h
    refine Classical.byContradiction fun hn => h ?_
    have : a &&& b = 0 := Nat.eq_of_testBit_eq fun i => by
      rw [Nat.testBit_and, Nat.zero_testBit]
      cases h1 : a.testBit i <;> cases h2 : b.testBit i <;> try rfl
      exact absurd ⟨i, h1, h2⟩ hn
    rw [this]; rfl
  · rintro ⟨k, h1, h2⟩ h
    have h3 : a &&& b = 0 := by omega
    have h4 := Nat.testBit_and a b k
    rw [h3, h1, h2, Nat.zero_testBit] at h4
    cases h4
theorem and_bitB {a b k : Nat} (ha : a < 9223372036854775808) (hb : b < 9223372036854775808) : bitB (andV a b) k = (a.testBit k && b.testBit k) := by
  rw [and_nat ha hb, bit_nat (Nat.lt_of_le_of_lt Nat.and_le_left ha), Nat.testBit_and]
/-- the groups of a node, as a number -/
theorem CluOk.groups {gr hold : Int} {nd : List (List Int)} (h : CluOk gr hold nd) {i : Nat} (hi : i < nd.length) : ∃ G : Nat, cv nd i 0 = G ∧ G < 256 ∧ ∀ b, G.testBit b = true → b < gr.toNat := by
  have h1 := h.gro i hi
  have hg1 := h.g1
  have hg8 := h.g8
  obtain ⟨g, rfl⟩ : ∃ g : Nat, gr = g := ⟨gr.toNat, by omega⟩
  rw [shl_nat (by omega)] at h1
  obtain ⟨G, hG⟩ : ∃ G : Nat, cv nd i 0 = G := ⟨(cv nd i 0).toNat, by omega⟩
  rw [hG] at h1 ⊢
  have h2 : (2 : Nat) ^ g ≤ 2 ^ 8 := Nat.pow_le_pow_right (by decide) (by omega)
  have h3 : (2 : Nat) ^ 8 = 256 := by decide
  refine ⟨G, rfl, by omega, fun b hb => ?_⟩
  refine Classical.byContradiction fun hn => ?_
  have hbg : g ≤ b := by
    have : ((g : Nat) : Int).toNat = g := rfl
    omega
  have h4 : G < 2 ^ b := Nat.lt_of_lt_of_le (by omega : G < 2 ^ g) (Nat.pow_le_pow_right (by decide) hbg)
  rw [Nat.testBit_lt_two_pow h4] at hb
  cases hb
theorem playOk_nus {gr hold t : Int} {nd l : List (List Int)} (h : PlayOk gr hold nd t l) : NuAll gr nd t l := fun x hx => by
  obtain ⟨i, hi, rfl⟩ := List.getElem_of_mem hx
  have := h.nu i hi
  rwa [List.getElem?_eq_getElem hi] at this
theorem startS_askOk (nd : List (List Int)) : AskOk (startS nd) := fun i => ⟨0, rfl, by decide⟩
section
variable {gr hold t : Int} {nd l : List (List Int)}
theorem play_ask (hE : playE gr hold nd t l = 0) {k : Nat} (hk : k < t.toNat) : (playAsk gr hold nd t l)[k]?.getD 0 = asksG nd.length (askT hold gr.toNat nd.length l (startS nd) k) := by
  unfold playAsk playR
  rw [if_pos hE, (run_at (hold := hold) (gr := gr.toNat) (n := nd.length) (l := l) (s := startS nd) t.toNat hk).1]; rfl
theorem play_row (hE : playE gr hold nd t l = 0) {k : Nat} (hk : k < t.toNat) : (playRows gr hold nd t l)[k]?.getD 0 = (passS nd.length (sndT hold gr.toNat nd.length l (startS nd) k)).2 := by
  unfold playRows playR
  rw [if_pos hE, (run_at (hold := hold) (gr := gr.toNat) (n := nd.length) (l := l) (s := startS nd) t.toNat hk).2]; rfl
theorem play_bit (hE : playE gr hold nd t l = 0) {k i : Nat} (hk : k < t.toNat) (hi : i < nd.length) : bitB ((playRows gr hold nd t l)[k]?.getD 0) i = awB (sndT hold gr.toNat nd.length l (startS nd) k) i := by
  have hok := playE_ok hE
  have := hok.c.n16
  rw [play_row hE hk, passS_bit (by omega) hi]
theorem askT_ok (hE : playE gr hold nd t l = 0) (k : Nat) {i : Nat} (hi : i < nd.length) : ∃ A : Nat, askT hold gr.toNat nd.length l (startS nd) k i 5 = A ∧ A < 256 := by
  have hok := playE_ok hE
  have hn := hok.c.n16
  have hg8 := hok.c.g8
  have h := (startS_askOk nd).run (hold := hold) (playOk_nus hok) hg8 (g := gr.toNat) (n := nd.length) (by omega) (by omega) (k + 1) i hi
  rw [run_st (by omega) hi, passN_ne (.inr (.inl (by omega)))] at h
  have e : sndT hold gr.toNat nd.length l (startS nd) k i 5 = askT hold gr.toNat nd.length l (startS nd) k i 5 := by
    show sendS hold gr.toNat nd.length _ _ i 5 = _
    rw [sendS_lo (.inl (by omega)) (by omega), disT_ask]
  rwa [e] at h
theorem playRows_len (hE : playE gr hold nd t l = 0) : (playRows gr hold nd t l).length = t.toNat := by
  unfold playRows playR; rw [if_pos hE]; exact (runFrom_len t.toNat).2
theorem playEn_len (hE : playE gr hold nd t l = 0) : (playEn gr hold nd t l).length = nd.length := by
  unfold playEn; rw [if_pos hE]; simp
end
end
section
set_option linter.unusedVariables false
open Go.RowKit
section
variable {hold : Int} {gr n : Nat} {l : List (List Int)} {s z : PS}
theorem send1_bd {lost : Nat → Nat → Bool} {a c g i j : Nat} (h : s i (6 + j) ≤ hold) : send1 hold lost a c g s i (6 + j) ≤ hold := by
  unfold send1
  split
  · by_cases e : i = c ∧ 6 + j = 6 + g
    · rw [e.1, e.2, up_same]; exact Int.le_refl _
    · rw [up_ne _ _ (by omega)]; exact h
  · exact h
theorem sendS_bd {lost : Nat → Nat → Bool} {k i j : Nat} (h : s i (6 + j) ≤ hold) : sendS hold gr k lost s i (6 + j) ≤ hold :=
  itN_keep (P := fun z : PS => z i (6 + j) ≤ hold) h k (fun a z _ hz => itN_keep (P := fun z : PS => z i (6 + j) ≤ hold) hz k (fun c z _ hz => itN_keep (P := fun z : PS => z i (6 + j) ≤ hold) hz gr (fun g z _ hz => send1_bd hz)))
theorem disturb_bd {k : Int} {i j : Nat} (hj : j < 9) (h : s i (6 + j) ≤ hold) : disturbS hold l n k s i (6 + j) ≤ hold := by
  unfold disturbS
  refine foldl_keep (P := fun z : PS => z i (6 + j) ≤ hold) _ _ (by rw [refill_ne _ (by omega)]; exact h) (fun x _ z hz => ?_)
  unfold noiseX
  split
  · by_cases e : i = (nv x 2).toNat ∧ 6 + j = 14
    · rw [e.1, e.2, up_same]; exact Int.le_refl _
    · rw [up_ne _ _ (by omega), up_ne _ _ (by omega)]; exact hz
  · exact hz
theorem tm_bd (hh : 1 ≤ hold) (hn : n ≤ 62) {i : Nat} (hi : i < n) {j : Nat} (hj : j < 9) (h0 : s i (6 + j) ≤ hold - 1) : ∀ k, (runFrom hold gr n l s k).s i (6 + j) ≤ hold - 1
  | 0 => h0
  | k + 1 => by
    have ih := tm_bd hh hn hi hj h0 k
    rw [run_st hn hi, passN_tm i hj]
    have h1 : sndT hold gr n l s k i (6 + j) ≤ hold := sendS_bd (disturb_bd hj (by
      show askS l k _ i (6 + j) ≤ hold
      rw [askS_ne _ (by omega)]; omega))
    split <;> omega
/-- a send that reaches nobody -/
theorem send_none {lost : Nat → Nat → Bool} {i : Nat} (hg : gr ≤ 8) (h : ∀ a, a < n → ∀ g, g < gr → bitB (andV (s a 5) (s i 0)) g = false) (j : Nat) : sendS hold gr n lost s i (6 + j) = s i (6 + j) := by
  let P : PS → Prop := fun z => z i (6 + j) = s i (6 + j) ∧ (∀ a, z a 5 = s a 5) ∧ z i 0 = s i 0
  have p1 : ∀ (a c d : Nat) (z : PS), a < n → d < gr → P z → P (send1 hold lost a c d z) := fun a c d z ha hd hz => by
    refine ⟨?_, fun b => by rw [send1_lo (.inl (by omega)) (by omega)]; exact hz.2.1 b, by rw [send1_lo (.inl (by omega)) (by omega)]; exact hz.2.2⟩
    unfold send1
    split
    · rename_i hc
      by_cases e : i = c
      · subst e
        rw [hz.2.1, hz.2.2, h a ha d hd] at hc
        exact absurd hc.2 (by decide)
      · rw [up_ne _ _ (.inl e)]; exact hz.1
    · exact hz.1
  have : P (sendS hold gr n lost s) := itN_keep (P := P) ⟨rfl, fun _ => rfl, rfl⟩ n (fun a z ha hz => itN_keep (P := P) hz n (fun c z _ hz => itN_keep (P := P) hz gr (fun d z hd hz => p1 a c d z ha hd hz)))
  exact this.1
end
section
variable {gr hold t : Int} {nd l : List (List Int)}
end
end
section
set_option linter.unusedVariables false
open Go.RowKit
theorem Try.klaw72 : WideMaps.KeyLaw Try.prog 72 := Go.deep_law (m := 2) (by omega) (by kernel_rfl) (by kernel_rfl) (by kernel_rfl)
/-- a state as a key -/
def keyS (t x : Int) : Value := .agg #[.int .i64 t, .int .i64 x]
def SmallS (t x : Int) : Prop := 0 ≤ t ∧ t ≤ 1000000 ∧ 0 ≤ x ∧ x ≤ 1000000
theorem keyOf_keyS {t x : Int} (h : SmallS t x) : ∃ l, keyOf Try.prog 72 (keyS t x) = some l := by
  have h0 : (Lit.int .i64 t).wf = true := by obtain ⟨_, _, _, _⟩ := h; simp [Lit.wf, IntKind.min, IntKind.max, IntKind.signed, IntKind.bits]; omega
  have h1 : (Lit.int .i64 x).wf = true := by obtain ⟨_, _, _, _⟩ := h; simp [Lit.wf, IntKind.min, IntKind.max, IntKind.signed, IntKind.bits]; omega
  unfold keyOf keyS
  rw [Try.underlying72]
  simp only
  rw [if_pos (by kernel_rfl)]
  have hs : ∃ m, Try.prog.types.size = m + 1 := ⟨Try.prog.types.size - 1, by kernel_rfl⟩
  obtain ⟨m, hm⟩ := hs
  rw [hm]
  have c1 : Try.prog.cellsOf 72 = 2 := by kernel_rfl
  have c2 : Try.prog.cellsOf 3 = 1 := by kernel_rfl
  simp [Program.keyLits, Try.underlying72, Try.underlying3, c1, c2, Value.cells, List.range, List.range.loop, h0, h1]
theorem keyS_inj {t x u y : Int} (h : keyS t x = keyS u y) : t = u ∧ x = y := by
  unfold keyS at h
  injection h with h
  simpa using h
/-- block m is a map whose keys are states, and whose values are good for them -/
def Memo (W : World) (m : Nat) (G : Int → Int → Value → Prop) : Prop := ∃ es clk, W.heap[m]? = some (.map es clk) ∧ ∀ e ∈ es.toList, ∃ t x, e.key = keyS t x ∧ SmallS t x ∧ G t x e.val
theorem Memo.lt {W : World} {m : Nat} {G : Int → Int → Value → Prop} (h : Memo W m G) : m < W.heap.size := by
  obtain ⟨es, clk, hb, _⟩ := h
  exact (Array.getElem?_eq_some_iff.1 hb).1
theorem Memo.only {S : Nat → Prop} {W W' : World} {m : Nat} {G : Int → Int → Value → Prop} (h : Memo W m G) (g : Only S W W') (hs : ¬ S m) : Memo W' m G := by
  have hlt := h.lt
  obtain ⟨es, clk, hm, hall⟩ := h
  exact ⟨es, clk, (g.block m hlt hs).trans hm, hall⟩
theorem Memo.gr {W W' : World} {m : Nat} {G : Int → Int → Value → Prop} (h : Memo W m G) (g : Gr W W') : Memo W' m G := h.only (g.only (fun _ => False)) (fun h => h)
theorem memo_new {W : World} {m : Nat} {G : Int → Int → Value → Prop} (h : W.heap[m]? = some (.map #[] 0)) : Memo W m G := ⟨_, _, h, fun e he => by simp at he⟩
/-- a store of a value that is good for the state -/
theorem memo_store {W : World} {m t e : Nat} {G : Int → Int → Value → Prop} {v : Value} {a x : Int} (ht : Try.prog.underlying t = some (.map 72 e)) (h : Memo W m G) (hs : SmallS a x) (hG : G a x v) :
    ∃ W', (Instr.mapUpdate t (.map (some m)) (keyS a x) v).run Try.prog W = .ok () W' ∧ Memo W' m G ∧ Only (fun b => b = m) W W' := by
  obtain ⟨es, clk, hb, hall⟩ := h
  obtain ⟨l, hl⟩ := keyOf_keyS hs
  have K := Try.klaw72
  have hlt : m < W.heap.size := (Array.getElem?_eq_some_iff.1 hb).1
  have hset : ∀ o, (setObj m o).run Try.prog W = .ok () (W.putObj m o) := fun o => by
    simp [setObj, Sem.run, hb, World.putObj]
  rcases K.find W hl es.toList (fun e he => by obtain ⟨t', x', h1, h2, _⟩ := hall e he; rw [h1]; exact keyOf_keyS h2) with ⟨h1, h2⟩ | ⟨j, e0, h1, h2, h3⟩
  · refine ⟨W.putObj m (.map (es.push { key := keyS a x, val := v, born := clk }) (clk + 1)), by simp [Instr.mapUpdate, run_underlying ht, MapKept.run_getObj_map hb, K.check W _ hl, h1, Result.andThen, hset], ⟨es.push { key := keyS a x, val := v, born := clk }, clk + 1, World.putObj_heap_same hlt, ?_⟩, putObj_only _ _ _⟩
    intro e he
    simp at he
    rcases he with he | he
    · exact hall e (by simpa using he)
    · subst he; exact ⟨a, x, rfl, hs, hG⟩
  · have hj : es[j]? = some e0 := by simpa using h2
    have hst := K.stays W hl
    refine ⟨W.putObj m (.map (es.modify j fun e => { e with key := keyS a x, val := v }) clk), by simp [Instr.mapUpdate, run_underlying ht, MapKept.run_getObj_map hb, K.check W _ hl, h1, Result.andThen, hset, hj, h3, hst], ⟨es.modify j fun e => { e with key := keyS a x, val := v }, clk, World.putObj_heap_same hlt, ?_⟩, putObj_only _ _ _⟩
    intro e he
    rw [List.mem_iff_getElem?] at he
    obtain ⟨i, hi⟩ := he
    rw [Array.toList_modify, List.getElem?_modify] at hi
    by_cases hji : j = i
    · simp [hji] at hi
      obtain ⟨x', _, rfl⟩ := hi
      exact ⟨a, x, rfl, hs, hG⟩
    · simp [hji] at hi
      exact hall e (List.mem_of_getElem? (by simpa using hi))
end
section
set_option linter.unusedVariables false
open Go.RowKit
namespace X
variable {P : Program} {W W' : World} {o : Oper} {ρ : Operand → Value}
theorem lk {t : TypeId} {x y : Operand} {b : Bool} {p q v : Value} (ho : o.op = .lookup t x y b) (hx : ρ x = p) (hy : ρ y = q) (hr : (Instr.lookup t p q b).run P W = .ok v W) : (execOp ρ o).run P W = .ok (.value v) W := by
  unfold execOp; rw [ho]; simp only [hx, hy]; exact run_v hr
theorem mu {t : TypeId} {x y z : Operand} {p q v : Value} (ho : o.op = .mapUpdate t x y z) (hx : ρ x = p) (hy : ρ y = q) (hz : ρ z = v) (hr : (Instr.mapUpdate t p q v).run P W = .ok () W') : (execOp ρ o).run P W = .ok .skip W' := by
  unfold execOp; rw [ho]; simp only [hx, hy, hz]; exact run_u hr
theorem mm {t : TypeId} (ho : o.op = .makeMap t none) : (execOp ρ o).run P W = .ok (.value (.map (some W.heap.size))) (W.alloc (.map #[] 0)) := by
  unfold execOp; rw [ho]; exact run_v (run_makeMap t W)
end X
/-- a lookup in some worlds that hold the same map -/
theorem memo_look {W : World} {m t e : Nat} {gf : Int → Int → Value} {z : Value} {a x : Int} (ht : Try.prog.underlying t = some (.map 72 e)) (hz : ∀ W, (zeroValue e).run Try.prog W = .ok z W) (h : Memo W m (fun t x v => v = gf t x)) (hs : SmallS a x) :
    ∃ b : Bool, ∀ W', W'.heap[m]? = W.heap[m]? → (Instr.lookup t (.map (some m)) (keyS a x) true).run Try.prog W' = .ok (.tuple #[if b then gf a x else z, .bool b]) W' := by
  obtain ⟨es, clk, hb, hall⟩ := h
  obtain ⟨l, hl⟩ := keyOf_keyS hs
  have K := Try.klaw72
  have hk : ∀ e ∈ es.toList, ∃ l, keyOf Try.prog 72 e.key = some l := fun e he => by
    obtain ⟨t', x', h1, h2, _⟩ := hall e he
    rw [h1]; exact keyOf_keyS h2
  have hv : ∀ e ∈ es.toList, e.key = keyS a x → e.val = gf a x := fun e he hek => by
    obtain ⟨t', x', k1, k2, k3⟩ := hall e he
    obtain ⟨rfl, rfl⟩ := keyS_inj (k1.symm.trans hek)
    exact k3
  rcases K.find W hl es.toList hk with ⟨h1, h2⟩ | ⟨j, e0, h1, h2, h3⟩
  · refine ⟨false, fun W' hW => ?_⟩
    have hb' := hW.trans hb
    rcases K.find W' hl es.toList hk with ⟨g1, g2⟩ | ⟨j, e0, g1, g2, g3⟩
    · simp [Instr.lookup, run_underlying ht, MapKept.run_getObj_map hb', K.check W' _ hl, g1, hz, Result.andThen]
    · exact absurd g3 (h2 e0 (List.mem_of_getElem? g2))
  · have hm0 : e0 ∈ es.toList := List.mem_of_getElem? h2
    refine ⟨true, fun W' hW => ?_⟩
    have hb' := hW.trans hb
    rcases K.find W' hl es.toList hk with ⟨g1, g2⟩ | ⟨j', e1, g1, g2, g3⟩
    · exact absurd h3 (g2 e0 hm0)
    · have := hv e1 (List.mem_of_getElem? g2) g3
      simp [Instr.lookup, run_underlying ht, MapKept.run_getObj_map hb', K.check W' _ hl, g1, this, Result.andThen]
theorem Try.zero69 (W : World) : (zeroValue 69).run Try.prog W = .ok (.agg #[.int .i64 0, .int .i64 0]) W := by kernel_rfl
theorem Try.bd72 (a b : Int) (W : World) : (Instr.build 72 #[(0, .int .i64 a), (1, .int .i64 b)]).run Try.prog W = .ok (.agg #[.int .i64 a, .int .i64 b]) W := by kernel_rfl
theorem Try.bd69 (a b : Int) (W : World) : (Instr.build 69 #[(0, .int .i64 a), (1, .int .i64 b)]).run Try.prog W = .ok (.agg #[.int .i64 a, .int .i64 b]) W := by kernel_rfl
theorem Try.bd69a (a : Int) (W : World) : (Instr.build 69 #[(0, .int .i64 a)]).run Try.prog W = .ok (.agg #[.int .i64 a, .int .i64 0]) W := by kernel_rfl
theorem Try.bd69b (W : World) : (Instr.build 69 #[]).run Try.prog W = .ok (.agg #[.int .i64 0, .int .i64 0]) W := by kernel_rfl
theorem Try.bd110 (a b c d e f g : Int) (m : Nat) (W : World) : (Instr.build 110 #[(0, .agg #[.int .i64 a, .int .i64 b, .int .i64 c, .int .i64 d, .int .i64 e]), (1, .int .i64 f), (2, .int .i64 g), (3, .map (some m))]).run Try.prog W = .ok (.agg #[.int .i64 a, .int .i64 b, .int .i64 c, .int .i64 d, .int .i64 e, .int .i64 f, .int .i64 g, .map (some m)]) W := by kernel_rfl
theorem Y.bd0 {ρ : Operand → Value} : ([] : List (Nat × Operand)).map (fun p : Nat × Operand => (p.1, ρ p.2)) = [] := rfl
theorem Y.bd1 {ρ : Operand → Value} {x : Operand} {v : Value} (h : ρ x = v) : [(0, x)].map (fun p : Nat × Operand => (p.1, ρ p.2)) = [(0, v)] := by simp [h]
theorem Y.bd2 {ρ : Operand → Value} {x y : Operand} {v z : Value} (h : ρ x = v) (k : ρ y = z) : [(0, x), (1, y)].map (fun p : Nat × Operand => (p.1, ρ p.2)) = [(0, v), (1, z)] := by simp [h, k]
theorem Y.bd4 {ρ : Operand → Value} {x y a b : Operand} {v z c d : Value} (h : ρ x = v) (k : ρ y = z) (ha : ρ a = c) (hb : ρ b = d) : [(0, x), (1, y), (2, a), (3, b)].map (fun p : Nat × Operand => (p.1, ρ p.2)) = [(0, v), (1, z), (2, c), (3, d)] := by simp [h, k, ha, hb]
/-- a new slice of two numbers -/
def Y.MP.two (x y : Int) : Y.MP := ⟨fun v W => ∃ b, v = .slice (some ⟨b, 0, none⟩) 2 2 ∧ W.cell? ⟨b, 0, none⟩ = some (.int .i64 x) ∧ W.cell? ⟨b, 1, none⟩ = some (.int .i64 y),
  fun _ _ _ ⟨b, h1, h2, h3⟩ g => ⟨b, h1, (g.cell (lt_cell h2)).trans h2, (g.cell (lt_cell h3)).trans h3⟩⟩
/-- a variable's cells -/
def VL (l : List Value) : Nat → Value := fun k => l.getD k undef
theorem VL_set0 (x y z : Value) : ∀ k, k < 2 → (fun j => if j = 0 then z else VL [x, y] j) k = VL [z, y] k := by
  intro k hk
  match k, hk with
  | 0, _ | 1, _ => rfl
theorem ownP_box {W : World} {b : Nat} {vs : List Value} {t : TypeId} (h : W.heap[b]? = some (.cells vs.toArray t)) : OwnP W b vs.length (VL vs) :=
  ⟨_, _, h, by simp, fun k hk => by simp [VL, hk]⟩
theorem ownP_2 {W : World} {b : Nat} {x y : Value} {t : TypeId} (h : W.heap[b]? = some (.cells #[x, y] t)) : OwnP W b 2 (VL [x, y]) := ownP_box (vs := [x, y]) h
/-- a struct of two that is written -/
theorem OwnP.st2 {P : Program} {W : World} {b : Nat} {val : Nat → Value} {t : TypeId} {x y : Value} (h : OwnP W b 2 val) (hS : ∀ W, (sizeOf t).run P W = .ok 2 W) (h1 : x.oneCell' = true) (h2 : y.oneCell' = true) :
    ∃ W', (Instr.storeAt t (.pointer (some ⟨b, 0, none⟩)) (.agg #[x, y])).run P W = .ok () W' ∧ OwnP W' b 2 (VL [x, y]) ∧ Only (fun z => z = b) W W' := by
  have hs1 := run_store P W ⟨b, 0, none⟩ x .plain h1
  rw [h.cell (k := 0) (by decide), h.fz] at hs1
  simp only [Bool.false_eq_true, if_false] at hs1
  have hA := h.set (k := 0) x
  have hs2 := run_store P (W.setCell ⟨b, 0, none⟩ x) ⟨b, 1, none⟩ y .plain h2
  rw [hA.cell (k := 1) (by decide), hA.fz] at hs2
  simp only [Bool.false_eq_true, if_false] at hs2
  have hB := hA.set (k := 1) y
  refine ⟨(W.setCell ⟨b, 0, none⟩ x).setCell ⟨b, 1, none⟩ y, ?_, hB.congr (fun k hk => ?_), (Y.set_only _ _ _ _).trans (Y.set_only _ _ _ _)⟩
  · have e0 : (⟨b, 0, none⟩ : Addr).add 0 = ⟨b, 0, none⟩ := rfl
    have e1 : (⟨b, 0, none⟩ : Addr).add 1 = ⟨b, 1, none⟩ := rfl
    simp [Instr.storeAt, storeVar, Instr.sureAddr, hS, Value.cells, storeCells, e0, e1, hs1, hs2, go_sem]
  · match k, hk with
    | 0, _ | 1, _ => rfl
/-- two variables of two cells that a region writes -/
structure RT2 (w : World) (b1 s1 b2 s2 : Nat) (o1 n1 o2 n2 : Nat → Value) (done : Nat → Bool) (u : Nat → Value) (W : World) : Prop where
  o : Only (fun b => b = b1 ∨ b = b2) w W
  p1 : done s1 = false → OwnP W b1 2 o1
  q1 : done s1 = true → OwnP W b1 2 n1
  p2 : done s2 = false → OwnP W b2 2 o2
  q2 : done s2 = true → OwnP W b2 2 n2
section
variable {w W W' : World} {b1 s1 b2 s2 i : Nat} {o1 n1 o2 n2 : Nat → Value} {done : Nat → Bool} {u : Nat → Value} {v : Value}
theorem RT2.start {u : Nat → Value} (g : Gr w W) (h1 : OwnP w b1 2 o1) (h2 : OwnP w b2 2 o2) : RT2 w b1 s1 b2 s2 o1 n1 o2 n2 (fun _ => false) u W :=
  ⟨g.only _, fun _ => h1.gr g, fun h => by simp at h, fun _ => h2.gr g, fun h => by simp at h⟩
theorem RT2.grow (h : RT2 w b1 s1 b2 s2 o1 n1 o2 n2 done u W) (hi : (i == s1 || i == s2) = false) (g : Gr W W') : RT2 w b1 s1 b2 s2 o1 n1 o2 n2 (upd done i) (fun j => if j = i then v else u j) W' := by
  simp only [Bool.or_eq_false_iff, beq_eq_false_iff_ne] at hi
  have e1 := upd_ne (done := done) (Ne.symm hi.1)
  have e2 := upd_ne (done := done) (Ne.symm hi.2)
  exact ⟨h.o.thenGr g, fun k => (h.p1 (e1 ▸ k)).gr g, fun k => (h.q1 (e1 ▸ k)).gr g, fun k => (h.p2 (e2 ▸ k)).gr g, fun k => (h.q2 (e2 ▸ k)).gr g⟩
theorem RT2.quiet (h : RT2 w b1 s1 b2 s2 o1 n1 o2 n2 done u W) (hi : (i == s1 || i == s2) = false) : RT2 w b1 s1 b2 s2 o1 n1 o2 n2 (upd done i) (fun j => if j = i then v else u j) W := h.grow hi (Gr.refl _)
theorem RT2.st1 (h : RT2 w b1 s1 b2 s2 o1 n1 o2 n2 done u W) (hs : (s1 == s2) = false) (hb : ¬ b2 = b1) (hn : OwnP W' b1 2 n1) (g : Only (fun b => b = b1) W W') : RT2 w b1 s1 b2 s2 o1 n1 o2 n2 (upd done s1) (fun j => if j = s1 then v else u j) W' := by
  have e2 := upd_ne (done := done) (i := s1) (j := s2) (by intro e; simp [e] at hs)
  exact ⟨h.o.trans (g.mono' (fun i e => .inl e)), fun k => (by rw [upd_self] at k; cases k), fun _ => hn, fun k => (h.p2 (e2 ▸ k)).only g hb, fun k => (h.q2 (e2 ▸ k)).only g hb⟩
theorem RT2.st2 (h : RT2 w b1 s1 b2 s2 o1 n1 o2 n2 done u W) (hs : (s1 == s2) = false) (hb : ¬ b1 = b2) (hn : OwnP W' b2 2 n2) (g : Only (fun b => b = b2) W W') : RT2 w b1 s1 b2 s2 o1 n1 o2 n2 (upd done s2) (fun j => if j = s2 then v else u j) W' := by
  have e2 := upd_ne (done := done) (i := s2) (j := s1) (by intro e; simp [e] at hs)
  exact ⟨h.o.trans (g.mono' (fun i e => .inr e)), fun k => (h.p1 (e2 ▸ k)).only g hb, fun k => (h.q1 (e2 ▸ k)).only g hb, fun k => (by rw [upd_self] at k; cases k), fun _ => hn⟩
end
/-- a variable of two cells that a region makes (a) and writes (s), while blocks S turn and M is kept -/
structure RTk (w : World) (S : Nat → Prop) (M : World → Prop) (a s : Nat) (old new : Nat → Value) (done : Nat → Bool) (u : Nat → Value) (W : World) : Prop where
  o : Only S w W
  m : M W
  q : done a = true → ∃ b, u a = .pointer (some ⟨b, 0, none⟩) ∧ w.heap.size ≤ b ∧ (done s = false → OwnP W b 2 old) ∧ (done s = true → OwnP W b 2 new)
section
variable {w W W' : World} {S : Nat → Prop} {M : World → Prop} {a s i : Nat} {old new : Nat → Value} {done : Nat → Bool} {u : Nat → Value} {v : Value}
theorem RTk.start {u : Nat → Value} (g : Gr w W) (h : M W) : RTk w S M a s old new (fun _ => false) u W := ⟨g.only _, h, fun h => by simp at h⟩
theorem RTk.call (h : RTk w S M a s old new done u W) (hi : (i == a || i == s) = false) (hS : ∀ b, S b → b < w.heap.size) (g : Only S W W') (hm : M W') : RTk w S M a s old new (upd done i) (fun j => if j = i then v else u j) W' := by
  simp only [Bool.or_eq_false_iff, beq_eq_false_iff_ne] at hi
  have e1 := upd_ne (done := done) (Ne.symm hi.1)
  have e2 := upd_ne (done := done) (Ne.symm hi.2)
  refine ⟨h.o.trans g, hm, fun k => ?_⟩
  obtain ⟨b, h1, h2, h3, h4⟩ := h.q (e1 ▸ k)
  have hb : ¬ S b := fun e => by have := hS b e; omega
  exact ⟨b, by simpa [Ne.symm hi.1] using h1, h2, fun k => (h3 (e2 ▸ k)).only g hb, fun k => (h4 (e2 ▸ k)).only g hb⟩
theorem RTk.quiet (h : RTk w S M a s old new done u W) (hi : (i == a || i == s) = false) : RTk w S M a s old new (upd done i) (fun j => if j = i then v else u j) W := by
  simp only [Bool.or_eq_false_iff, beq_eq_false_iff_ne] at hi
  have e1 := upd_ne (done := done) (Ne.symm hi.1)
  have e2 := upd_ne (done := done) (Ne.symm hi.2)
  refine ⟨h.o, h.m, fun k => ?_⟩
  obtain ⟨b, h1, h2, h3, h4⟩ := h.q (e1 ▸ k)
  exact ⟨b, by simpa [Ne.symm hi.1] using h1, h2, fun k => h3 (e2 ▸ k), fun k => h4 (e2 ▸ k)⟩
theorem RTk.alloc (h : RTk w S M a s old new done u W) (has : (a == s) = false) (hs : done s = false) {b : Nat} (hb : w.heap.size ≤ b) (g : Gr W W') (hm : M W') (hn : OwnP W' b 2 old) : RTk w S M a s old new (upd done a) (fun j => if j = a then .pointer (some ⟨b, 0, none⟩) else u j) W' := by
  have e2 := upd_ne (done := done) (i := a) (j := s) (by intro e; simp [e] at has)
  exact ⟨h.o.thenGr g, hm, fun _ => ⟨b, by simp, hb, fun _ => hn, fun k => (by rw [e2, hs] at k; cases k)⟩⟩
theorem RTk.st (h : RTk w S M a s old new done u W) (has : (a == s) = false) {b : Nat} (hu : u a = .pointer (some ⟨b, 0, none⟩)) (hb : w.heap.size ≤ b) (hm : M W') (g : Only (fun x => x = b) W W') (hn : OwnP W' b 2 new) : RTk w S M a s old new (upd done s) (fun j => if j = s then v else u j) W' := by
  have hne : ¬ a = s := by intro e; simp [e] at has
  exact ⟨h.o.step g (.inr hb), hm, fun _ => ⟨b, by simpa [hne] using hu, hb, fun k => (by rw [upd_self] at k; cases k), fun _ => hn⟩⟩
end
/-- the cells of a node that is parked -/
def PqC (bq : Nat) (gq aw za bu re hold T : Int) (bm : Nat) : List (Addr × Value) :=
  [(⟨bq, 0, none⟩, .int .i64 gq), (⟨bq, 1, none⟩, .int .i64 aw), (⟨bq, 2, none⟩, .int .i64 za), (⟨bq, 3, none⟩, .int .i64 bu), (⟨bq, 4, none⟩, .int .i64 re), (⟨bq, 5, none⟩, .int .i64 hold), (⟨bq, 6, none⟩, .int .i64 T), (⟨bq, 7, none⟩, .map (some bm))]
def Pq (W : World) (bq : Nat) (gq aw za bu re hold T : Int) (bm : Nat) : Prop := RCells W (PqC bq gq aw za bu re hold T bm)
section
variable {W W' : World} {bq : Nat} {gq aw za bu re hold T : Int} {bm : Nat}
theorem Pq.lt (h : Pq W bq gq aw za bu re hold T bm) : bq < W.heap.size := lt_cell (RCells.at h 0 rfl)
theorem Pq.gr (h : Pq W bq gq aw za bu re hold T bm) (g : Gr W W') : Pq W' bq gq aw za bu re hold T bm := RCells.gr h g
theorem Pq.only {S : Nat → Prop} (h : Pq W bq gq aw za bu re hold T bm) (g : Only S W W') (hn : ¬ S bq) : Pq W' bq gq aw za bu re hold T bm := RCells.only h g (fun p hp e => hn (by
  have : p.1.block = bq := by simp only [PqC, List.mem_cons, List.not_mem_nil, or_false] at hp; rcases hp with rfl | rfl | rfl | rfl | rfl | rfl | rfl | rfl <;> rfl
  rw [← this]; exact e))
end
section
variable {P : Program} {A : Act} {W : World} {n : Nat} {L : List (Nat × Value)} {D : List Deferred} {fn : Func} {s s2 s3 b b2 : Nat} {t t2 : TypeId} {x y x2 y2 v3 : Value}
theorem Y.rc1 (F : Fr A n L D) (hr : fn.results = #[.cell s t]) (hA : (isAgg t).run P W = .ok true W) (hS : (sizeOf t).run P W = .ok 2 W) (hp : lookS L s = some (.pointer (some ⟨b, 0, none⟩))) (h : OwnP W b 2 (VL [x, y])) : (results fn A.tmps).run P W = .ok (.agg #[x, y]) W := by
  have e := F.look hp
  have hl : W.cell? ⟨b, 0, none⟩ = some x := h.cell (k := 0) (by decide)
  have hl' : W.cell? ⟨b, 1, none⟩ = some y := h.cell (k := 1) (by decide)
  simp [results, hr, e, asAddr, hl, hl', hA, hS, go_sem]
theorem Y.rcc2 (F : Fr A n L D) (hr : fn.results = #[.cell s t, .cell s2 t2]) (hA : (isAgg t).run P W = .ok true W) (hS : (sizeOf t).run P W = .ok 2 W) (hA2 : (isAgg t2).run P W = .ok true W) (hS2 : (sizeOf t2).run P W = .ok 2 W) (hp : lookS L s = some (.pointer (some ⟨b, 0, none⟩))) (hp2 : lookS L s2 = some (.pointer (some ⟨b2, 0, none⟩))) (h : OwnP W b 2 (VL [x, y])) (h2 : OwnP W b2 2 (VL [x2, y2])) :
    (results fn A.tmps).run P W = .ok (.tuple #[.agg #[x, y], .agg #[x2, y2]]) W := by
  have e := F.look hp
  have e2 := F.look hp2
  have hl : W.cell? ⟨b, 0, none⟩ = some x := h.cell (k := 0) (by decide)
  have hl' : W.cell? ⟨b, 1, none⟩ = some y := h.cell (k := 1) (by decide)
  have hl2 : W.cell? ⟨b2, 0, none⟩ = some x2 := h2.cell (k := 0) (by decide)
  have hl2' : W.cell? ⟨b2, 1, none⟩ = some y2 := h2.cell (k := 1) (by decide)
  simp [results, hr, e, e2, asAddr, hl, hl', hl2, hl2', hA, hS, hA2, hS2, go_sem]
theorem Y.rcc3 (F : Fr A n L D) (hr : fn.results = #[.cell s t, .cell s2 t2, .tmp s3]) (hA : (isAgg t).run P W = .ok true W) (hS : (sizeOf t).run P W = .ok 2 W) (hA2 : (isAgg t2).run P W = .ok true W) (hS2 : (sizeOf t2).run P W = .ok 2 W) (hp : lookS L s = some (.pointer (some ⟨b, 0, none⟩))) (hp2 : lookS L s2 = some (.pointer (some ⟨b2, 0, none⟩))) (h3 : lookS L s3 = some v3) (h : OwnP W b 2 (VL [x, y])) (h2 : OwnP W b2 2 (VL [x2, y2])) :
    (results fn A.tmps).run P W = .ok (.tuple #[.agg #[x, y], .agg #[x2, y2], v3]) W := by
  have e := F.look hp
  have e2 := F.look hp2
  have e3 := F.look h3
  have hl : W.cell? ⟨b, 0, none⟩ = some x := h.cell (k := 0) (by decide)
  have hl' : W.cell? ⟨b, 1, none⟩ = some y := h.cell (k := 1) (by decide)
  have hl2 : W.cell? ⟨b2, 0, none⟩ = some x2 := h2.cell (k := 0) (by decide)
  have hl2' : W.cell? ⟨b2, 1, none⟩ = some y2 := h2.cell (k := 1) (by decide)
  simp [results, hr, e, e2, e3, asAddr, hl, hl', hl2, hl2', hA, hS, hA2, hS2, go_sem]
end
end
section
set_option linter.unusedVariables false
open Go.RowKit
/-- -1, 0, 1 -/
def cmpI (x y : Int) : Int := if x < y then -1 else if y < x then 1 else 0
/-- the first of two that is not 0 -/
def orI (x y : Int) : Int := if x = 0 then y else x
/-- the numbers of a node: awake, asleep, budget, refill, hold, ticks -/
structure Nd where
  aw : Int
  za : Int
  bu : Int
  re : Int
  hold : Int
  T : Int
structure NdOk (p : Nd) : Prop where
  a0 : 0 ≤ p.za
  a1 : p.za ≤ p.aw
  a2 : p.aw ≤ 10000
  b0 : 0 ≤ p.bu
  b1 : p.bu ≤ 20
  r0 : 1 ≤ p.re
  r1 : p.re ≤ 1000
  h0 : 1 ≤ p.hold
  h1 : p.hold ≤ 103
  t0 : 0 ≤ p.T
  t1 : p.T ≤ 1001
def refV (p : Nd) (t x : Int) : Int := if 0 < t ∧ t % p.re = 0 then min (x + 1) p.bu else x
/-- tokens and energy, k ticks behind the tick in which noise wakes it -/
def wkV (p : Nd) (t a : Int) : Nat → Int × Int
  | 0 => (a - 1, p.aw)
  | k + 1 => (refV p (t + 1 + k) (wkV p t a k).1, (wkV p t a k).2 + (if t + 1 + k < t + p.hold then p.aw else p.za))
def wkN (p : Nd) (t : Int) : Nat := (min p.hold (p.T - 1 - t)).toNat
def add2 (a b : Int × Int) : Int × Int := (a.1 + b.1, a.2 + b.2)
def betB (x y : Int × Int) : Bool := decide (0 < orI (cmpI x.1 y.1) (cmpI y.2 x.2))
def pick2 (x y : Int × Int) : Int × Int := if betB x y then x else y
def bestF (p : Nd) : Nat → Int → Int → Int × Int
  | 0, _, _ => (0, 0)
  | f + 1, t, x =>
    if p.T ≤ t then (0, 0)
    else if refV p t x = 0 then add2 (bestF p f (t + 1) (refV p t x)) (p.za, 0)
    else pick2 (add2 (bestF p f (t + 1 + wkN p t) (wkV p t (refV p t x) (wkN p t)).1) ((wkV p t (refV p t x) (wkN p t)).2, 1)) (add2 (bestF p f (t + 1) (refV p t x)) (p.za, 0))
def bestV (p : Nd) (t x : Int) : Int × Int := bestF p (p.T - t).toNat t x
theorem bestF_eq (p : Nd) : ∀ (f f' : Nat) (t x : Int), (p.T - t).toNat ≤ f → (p.T - t).toNat ≤ f' → bestF p f t x = bestF p f' t x := by
  intro f
  induction f with
  | zero =>
    intro f' t x h h'
    cases f' with
    | zero => rfl
    | succ f' =>
      unfold bestF
      rw [if_pos (by omega)]
  | succ f ih =>
    intro f' t x h h'
    cases f' with
    | zero =>
      unfold bestF
      rw [if_pos (by omega)]
    | succ f' =>
      unfold bestF
      by_cases ht : p.T ≤ t
      · rw [if_pos ht, if_pos ht]
      · rw [if_neg ht, if_neg ht, ih f' (t + 1) _ (by omega) (by omega), ih f' (t + 1 + wkN p t) _ (by omega) (by omega)]
theorem bestV_done {p : Nd} {t : Int} (x : Int) (h : p.T ≤ t) : bestV p t x = (0, 0) := by
  unfold bestV
  rw [show (p.T - t).toNat = 0 by omega]
  rfl
theorem bestV_stay {p : Nd} {t x : Int} (h : t < p.T) (ha : refV p t x = 0) : bestV p t x = add2 (bestV p (t + 1) (refV p t x)) (p.za, 0) := by
  obtain ⟨f, hf⟩ : ∃ f, (p.T - t).toNat = f + 1 := ⟨(p.T - t).toNat - 1, by omega⟩
  unfold bestV
  rw [hf]
  conv => lhs; unfold bestF
  rw [if_neg (by omega), if_pos ha, bestF_eq p f (p.T - (t + 1)).toNat (t + 1) _ (by omega) (by omega)]
theorem bestV_wake {p : Nd} {t x : Int} (h : t < p.T) (ha : ¬ refV p t x = 0) : bestV p t x = pick2 (add2 (bestV p (t + 1 + wkN p t) (wkV p t (refV p t x) (wkN p t)).1) ((wkV p t (refV p t x) (wkN p t)).2, 1)) (add2 (bestV p (t + 1) (refV p t x)) (p.za, 0)) := by
  obtain ⟨f, hf⟩ : ∃ f, (p.T - t).toNat = f + 1 := ⟨(p.T - t).toNat - 1, by omega⟩
  unfold bestV
  rw [hf]
  conv => lhs; unfold bestF
  rw [if_neg (by omega), if_neg ha, bestF_eq p f (p.T - (t + 1)).toNat (t + 1) _ (by omega) (by omega), bestF_eq p f (p.T - (t + 1 + wkN p t)).toNat (t + 1 + wkN p t) _ (by omega) (by omega)]
theorem refV_bd {p : Nd} (h : NdOk p) {t x : Int} (h0 : 0 ≤ x) (h1 : x ≤ p.bu) : 0 ≤ refV p t x ∧ refV p t x ≤ p.bu := by
  have := h.b0
  unfold refV
  split
  · simp only [Int.min_def]; split <;> omega
  · omega
theorem wkV_bd {p : Nd} (h : NdOk p) {t a : Int} (h0 : 1 ≤ a) (h1 : a ≤ p.bu) : ∀ k, (0 ≤ (wkV p t a k).1 ∧ (wkV p t a k).1 ≤ p.bu) ∧ 0 ≤ (wkV p t a k).2 ∧ (wkV p t a k).2 ≤ (k + 1) * 10000 := by
  have := h.a0
  have := h.a1
  have := h.a2
  intro k
  induction k with
  | zero => simp only [wkV]; omega
  | succ k ih =>
    simp only [wkV]
    have hr := refV_bd h (t := t + 1 + k) ih.1.1 ih.1.2
    refine ⟨hr, ?_⟩
    split <;> omega
theorem refV_nn {p : Nd} (h : NdOk p) {t x : Int} (h0 : 0 ≤ x) (h1 : x ≤ 100000) : 0 ≤ refV p t x ∧ refV p t x ≤ 100000 := by
  have := h.b0
  have := h.b1
  unfold refV
  split
  · simp only [Int.min_def]; split <;> omega
  · omega
theorem wkV_bd2 {p : Nd} (h : NdOk p) {t a : Int} (h0 : 1 ≤ a) (h1 : a ≤ 100000) : ∀ k, (0 ≤ (wkV p t a k).1 ∧ (wkV p t a k).1 ≤ 100000) ∧ 0 ≤ (wkV p t a k).2 ∧ (wkV p t a k).2 ≤ (k + 1) * 10000 := by
  have := h.a0
  have := h.a1
  have := h.a2
  intro k
  induction k with
  | zero => simp only [wkV]; omega
  | succ k ih =>
    simp only [wkV]
    have hr := refV_nn h (t := t + 1 + k) ih.1.1 ih.1.2
    refine ⟨hr, ?_⟩
    split <;> omega
theorem wkN_eq {p : Nd} {t : Int} {q : Nat} (h0 : 1 ≤ p.hold) (h : (q : Int) ≤ wkN p t) (k : ¬ (t + 1 + q ≤ t + p.hold) ∨ ¬ (t + 1 + q < p.T)) : wkN p t = q := by
  unfold wkN at *
  simp only [Int.min_def] at *
  split at h <;> split <;> omega
theorem wkN_lt {p : Nd} {t : Int} {q : Nat} (h : t + 1 + q ≤ t + p.hold) (k : t + 1 + q < p.T) : ((q + 1 : Nat) : Int) ≤ wkN p t := by
  unfold wkN
  simp only [Int.min_def]
  split <;> omega
theorem wkN_hold {p : Nd} (h0 : 1 ≤ p.hold) (t : Int) : (wkN p t : Int) ≤ p.hold := by
  unfold wkN
  simp only [Int.min_def]
  split <;> omega
theorem wkN_bd {p : Nd} (h : NdOk p) {t : Int} (h0 : 0 ≤ t) (h1 : t < p.T) : t + 1 + wkN p t ≤ p.T ∧ (wkN p t : Int) ≤ p.hold := by
  have := h.h0
  unfold wkN
  simp only [Int.min_def]
  split <;> omega
theorem bestF_bd {p : Nd} (h : NdOk p) : ∀ (f : Nat) (t x : Int), 0 ≤ t → t ≤ p.T → 0 ≤ x → x ≤ p.bu → (0 ≤ (bestF p f t x).1 ∧ (bestF p f t x).1 ≤ (p.T - t) * 10000) ∧ 0 ≤ (bestF p f t x).2 ∧ (bestF p f t x).2 ≤ p.T - t := by
  have := h.a0
  have := h.a1
  have := h.a2
  intro f
  induction f with
  | zero => intro t x h0 h1 _ _; simp only [bestF]; omega
  | succ f ih =>
    intro t x h0 h1 hx0 hx1
    simp only [bestF]
    by_cases ht : p.T ≤ t
    · rw [if_pos ht]; simp only; omega
    · rw [if_neg ht]
      have hr := refV_bd h (t := t) hx0 hx1
      have hs := ih (t + 1) (refV p t x) (by omega) (by omega) hr.1 hr.2
      by_cases ha : refV p t x = 0
      · rw [if_pos ha]; simp only [add2]; omega
      · rw [if_neg ha]
        have hw := wkV_bd h (t := t) (a := refV p t x) (by omega) hr.2 (wkN p t)
        have hn := wkN_bd h h0 (by omega)
        have hy := ih (t + 1 + wkN p t) _ (by omega) hn.1 hw.1.1 hw.1.2
        unfold pick2
        split <;> simp only [add2] <;> omega
theorem bestV_bd {p : Nd} (h : NdOk p) {t x : Int} (h0 : 0 ≤ t) (hx0 : 0 ≤ x) (hx1 : x ≤ p.bu) : (0 ≤ (bestV p t x).1 ∧ (bestV p t x).1 ≤ 11000000) ∧ 0 ≤ (bestV p t x).2 ∧ (bestV p t x).2 ≤ 1001 := by
  have := h.t1
  by_cases ht : p.T ≤ t
  · rw [bestV_done _ ht]; simp
  · have := bestF_bd h (p.T - t).toNat t x h0 (by omega) hx0 hx1
    unfold bestV
    omega
end
section
set_option linter.unusedVariables false
open Go.RowKit
theorem isNaN_any (x : Int) (w : World) : Calls Try.prog 98 #[.int .i64 x] w fun e w' => e = .returned (.bool false) ∧ w = w' := by
  go_enter Try.func98, Try.ntmps98
  go_wp2
  go_ret
  exact ⟨by simp, rfl⟩

theorem compare_any (x y : Int) (w : World) : Calls Try.prog 86 #[.int .i64 x, .int .i64 y] w fun e w' => e = .returned (.int .i64 (cmpI x y)) ∧ w = w' := by
  by_cases h1 : x < y
  · have hc := Lib.hid (show cmpI x y = -1 by simp [cmpI, h1])
    go_enter Try.func86, Try.ntmps86
    go_wp2_with (go_at_call 98; refine (isNaN_any _ _).mono ?_; rintro e w' ⟨rfl, rfl⟩)
    go_ret
    exact ⟨by rw [hc.out]; rfl, rfl⟩
  · by_cases h2 : y < x
    · have hc := Lib.hid (show cmpI x y = 1 by simp [cmpI, h1, h2])
      go_enter Try.func86, Try.ntmps86
      go_wp2_with (go_at_call 98; refine (isNaN_any _ _).mono ?_; rintro e w' ⟨rfl, rfl⟩)
      go_ret
      exact ⟨by rw [hc.out]; rfl, rfl⟩
    · have hc := Lib.hid (show cmpI x y = 0 by simp [cmpI, h1, h2])
      go_enter Try.func86, Try.ntmps86
      go_wp2_with (go_at_call 98; refine (isNaN_any _ _).mono ?_; rintro e w' ⟨rfl, rfl⟩)
      go_ret
      exact ⟨by rw [hc.out]; rfl, rfl⟩

theorem or_any (ad : Addr) (c : Nat) (x y : Int) (w : World) (h0 : w.cell? (ad.add 0) = some (.int .i64 x)) (h1 : w.cell? (ad.add 1) = some (.int .i64 y)) : Calls Try.prog 85 #[.slice (some ad) 2 c] w fun e w' => e = .returned (.int .i64 (orI x y)) ∧ w = w' := by
  have hc : ∀ k : Nat, k < 2 → w.cell? (ad.add k) = some (.int .i64 (if k = 0 then x else y)) := fun k hk => by
    have : k = 0 ∨ k = 1 := by omega
    rcases this with rfl | rfl
    · simpa using h0
    · simpa using h1
  have HC := Lib.hid hc
  clear hc h0 h1
  go_enter Try.func85, Try.ntmps85
  go_wp2
  go_loop [8] (fun i => ∃ k : Nat, k ≤ 2 ∧ i = .int .i64 k ∧ (1 ≤ k → Hid (x = 0)) ∧ (2 ≤ k → Hid (y = 0))) (fun i => 2 - (intOf i).toNat)
  case atStart => exact ⟨0, by omega, rfl, by omega, by omega⟩
  case round =>
    obtain ⟨k, hk, rfl, hx, hy⟩ := hrel
    by_cases hlt : k < 2
    · have hcell := HC.out k hlt
      generalize hz : (if k = 0 then x else y) = z at hcell
      have HZ := Lib.hid hz
      clear hz
      cases hb : (z != 0) with
      | true =>
        go_wp2
        go_ret
        refine ⟨ret_int ?_, rfl⟩
        have hz0 : z ≠ 0 := by simpa using hb
        have := HZ.out
        have hk01 : k = 0 ∨ k = 1 := by omega
        rcases hk01 with rfl | rfl
        · simp at this; subst this; unfold orI; rw [if_neg hz0]
        · simp at this; subst this; unfold orI; rw [if_pos (hx (by omega)).out]
      | false =>
        go_wp2
        go_round
        case rel =>
          have hz0 : z = 0 := by simpa using hb
          have := HZ.out
          refine ⟨k + 1, by omega, by go_num, fun _ => Lib.hid ?_, fun h2 => Lib.hid ?_⟩
          · by_cases e : k = 0
            · simp [e] at this; omega
            · exact (hx (by omega)).out
          · have e : k = 1 := by omega
            simp [e] at this; omega
        case measure => simp [intOf]; omega
    · obtain rfl : k = 2 := by omega
      go_wp2
      go_ret
      have hx0 := (hx (by omega)).out
      have hy0 := (hy (by omega)).out
      exact ⟨ret_int (by simp [orI, hx0, hy0]), rfl⟩
end
section
open Go.RowKit

set_option maxRecDepth 100000 in
set_option maxHeartbeats 1000000 in
theorem refilled_any (bq bm : Nat) (gq : Int) (p : Nd) (t x : Int) (w : World) (hq : Pq w bq gq p.aw p.za p.bu p.re p.hold p.T bm) (h : NdOk p) (ht : 0 ≤ t ∧ t ≤ 100000) (hx : 0 ≤ x ∧ x ≤ 100000) :
  Calls Try.prog 77 #[Vp bq, .agg #[Vi t, Vi x]] w fun e w' => e = .returned (Vi (refV p t x)) ∧ Gr w w' := by
 have G := Gr.refl w
 have hC : RCells w (PqC bq gq p.aw p.za p.bu p.re p.hold p.T bm) := hq
 have hbq := hq.lt
 have ha0 := h.a0
 have ha1 := h.a1
 have ha2 := h.a2
 have hb0 := h.b0
 have hb1 := h.b1
 have hr0 := h.r0
 have hr1 := h.r1
 have hh0 := h.h0
 have hh1 := h.h1
 have ht0_ := h.t0
 have ht1_ := h.t1
 refine Y.calls 30 Try.func77 rfl rfl ?_
 intro ac F0
 have F : Fr ac 30 [(0, Vp bq), (1, .agg #[Vi t, Vi x])] := F0.sub _
 clear F0
 refine Y.seq ?_
 refine Y.lit (by kernel_rfl) ?_
 refine Y.pv F (X.box rfl (F.e 1 rfl) X.bx) ?_;clear F ac;intro ac F
 have hq3 : bq < w.heap.size := lt_cell (hC.at 0 rfl)
 have g := Gr.alloc w (.cells #[Vi t, Vi x] 72)
 have hb := heap_alloc_new w (.cells #[Vi t, Vi x] 72)
 have hbl : w.heap.size < (w.alloc (.cells #[Vi t, Vi x] 72)).heap.size := by simp
 have hC2 : RCells (w.alloc (.cells #[Vi t, Vi x] 72)) [(Ad bq 0, Vi gq), (Ad bq 1, Vi p.aw), (Ad bq 2, Vi p.za), (Ad bq 3, Vi p.bu), (Ad bq 4, Vi p.re), (Ad bq 5, Vi p.hold), (Ad bq 6, Vi p.T), (Ad bq 7, .map (some bm)), (Ad w.heap.size 0, Vi t), (Ad w.heap.size 1, Vi x)] := hC.box (b := w.heap.size) #[Vi t, Vi x] 72 rfl
 generalize w.alloc (.cells #[Vi t, Vi x] 72) = w4 at *
 replace G := G.trans g
 replace hC := hC2
 clear hC2
 replace hq := hq.gr g
 clear g hb hbl
 refine Y.pv F (X.assign rfl (X.kc (Vi 0) rfl)) ?_;clear F ac;intro ac F
 refine Y.nil ?_
 replace F : Fr ac 30 [(0, Vp bq), (1, .agg #[Vi t, Vi x]), (3, Vp w.heap.size), (4, Vi 0)] := F.sub _
 refine X.thenN ?_
 refine Y.seq ?_
 refine Y.seq ?_
 cases h5 : decide ((0 : Int) < t) with
 | false =>
  try rw [h5] at F
  have h5p : ¬ ((0 : Int) < t) := of_decide_eq_false h5
  refine Y.region F [some (Vp w.heap.size), some (Vi t), some (.bool false), some (.bool false), none, none, none, none, none, none, none, none, none, some (.bool false)] [] rfl ⟨by kernel_rfl, of_decide_eq_true (by kernel_rfl), by kernel_rfl, by kernel_rfl, by kernel_rfl⟩ ⟨?_, ?_, ?_, ?_, ?_, ?_, ?_, ?_, ?_, ?_, ?_, ?_, ?_, ?_, trivial⟩ ?_
  ·intro ac done u W Sx hR
   exact X.vl (X.field rfl (Sx.ev 3 (Vp w.heap.size)) (X.fld Try.underlying72 rfl (Try.siz3 _) rfl rfl)) hR.st0
  ·intro ac done u W Sx hR
   have g : Gr w4 W := hR.1
   exact X.vl (X.load rfl (Sx.ev 5 (Vp w.heap.size)) (X.ld1 (Try.agg3 _) ((hC.gr g).at 8 rfl))) hR.st0
  ·intro ac done u W Sx hR
   exact X.vl (X.binop rfl (Sx.ev 6 (Vi t)) (X.kc (Vi 0) rfl) (X.gtrI Try.underlying3 h5)) hR.st0
  ·intro ac done u W Sx hR
   exact X.vl (X.move rfl (Sx.ev 7 (.bool false))) hR.st0
  ·intro ac done u W Sx hR
   exact X.skip (X.w2 rfl (Sx.yl 3 8 false (by kernel_rfl) rfl rfl) rfl) rfl (hR.skip rfl)
  ·intro ac done u W Sx hR
   exact X.skip (X.w2 rfl (Sx.yl 3 8 false (by kernel_rfl) rfl rfl) rfl) rfl (hR.skip rfl)
  ·intro ac done u W Sx hR
   exact X.skip (X.w2 rfl (Sx.yl 3 8 false (by kernel_rfl) rfl rfl) rfl) rfl (hR.skip rfl)
  ·intro ac done u W Sx hR
   exact X.skip (X.w2 rfl (Sx.yl 3 8 false (by kernel_rfl) rfl rfl) rfl) rfl (hR.skip rfl)
  ·intro ac done u W Sx hR
   exact X.skip (X.w2 rfl (Sx.yl 3 8 false (by kernel_rfl) rfl rfl) rfl) rfl (hR.skip rfl)
  ·intro ac done u W Sx hR
   exact X.skip (X.w2 rfl (Sx.yl 3 8 false (by kernel_rfl) rfl rfl) rfl) rfl (hR.skip rfl)
  ·intro ac done u W Sx hR
   exact X.skip (X.w2 rfl (Sx.yl 3 8 false (by kernel_rfl) rfl rfl) rfl) rfl (hR.skip rfl)
  ·intro ac done u W Sx hR
   exact X.skip (X.w2 rfl (Sx.yl 3 8 false (by kernel_rfl) rfl rfl) rfl) rfl (hR.skip rfl)
  ·intro ac done u W Sx hR
   exact X.skip (X.w2 rfl (Sx.yl 3 8 false (by kernel_rfl) rfl rfl) rfl) rfl (hR.skip rfl)
  ·intro ac done u W Sx hR
   exact X.vl (X.pickF rfl (Sx.ev 8 (.bool false)) (X.kc (.bool false) rfl)) hR.st0
  intro ac u w6 hs hd hl ho hR
  have g : Gr w4 w6 := hR.1
  replace F : Fr ac 30 [(0, Vp bq), (1, .agg #[Vi t, Vi x]), (3, Vp w.heap.size), (4, Vi 0), (18, .bool false)] := X.fr hs hd hl _ (by kernel_rfl)
  clear hs hd hl ho hR
  replace G := G.trans g
  replace hC := hC.gr g
  replace hq := hq.gr g
  clear g
  refine X.thenN ?_
  refine Y.condF (F.e 18 rfl) ?_
  refine Y.skip ?_
  refine X.thenN ?_
  refine Y.seq ?_
  refine Y.lit (by kernel_rfl) ?_
  refine Y.pv F (X.field rfl (F.e 3 rfl) (X.fld Try.underlying72 rfl (Try.siz3 _) rfl rfl)) ?_;clear F ac;intro ac F
  refine Y.pv F (X.load rfl (F.e 28 rfl) (X.ld1 (Try.agg3 _) (hC.at 9 rfl))) ?_;clear F ac;intro ac F
  refine Y.pv F (X.assign rfl (F.e 29 rfl)) ?_;clear F ac;intro ac F
  refine Y.nil ?_
  replace F : Fr ac 30 [(0, Vp bq), (1, .agg #[Vi t, Vi x]), (3, Vp w.heap.size), (4, Vi x), (18, .bool false)] := F.sub _
  refine X.thenN ?_
  refine Y.ret ?_
  exact Y.ret0 (v := Vi x) F (Y.rs1 F rfl (by kernel_rfl)) ⟨by unfold refV; simp [h5p], G⟩
 | true =>
  try rw [h5] at F
  have h5p : ((0 : Int) < t) := of_decide_eq_true h5
  refine Y.region F [some (Vp w.heap.size), some (Vi t), some (.bool true), some (.bool true), some (Vp w.heap.size), some (Vi t), some (Vp bq), some (Vp bq), some (Vp bq), some (.pointer (some ⟨bq, 4, none⟩)), some (Vi p.re), some (Vi ((t : Int) % (p.re : Int))), some (.bool (((t : Int) % (p.re : Int) : Int) == 0)), some (.bool (((t : Int) % (p.re : Int) : Int) == 0))] [] rfl ⟨by kernel_rfl, of_decide_eq_true (by kernel_rfl), by kernel_rfl, by kernel_rfl, by kernel_rfl⟩ ⟨?_, ?_, ?_, ?_, ?_, ?_, ?_, ?_, ?_, ?_, ?_, ?_, ?_, ?_, trivial⟩ ?_
  ·intro ac done u W Sx hR
   exact X.vl (X.field rfl (Sx.ev 3 (Vp w.heap.size)) (X.fld Try.underlying72 rfl (Try.siz3 _) rfl rfl)) hR.st0
  ·intro ac done u W Sx hR
   have g : Gr w4 W := hR.1
   exact X.vl (X.load rfl (Sx.ev 5 (Vp w.heap.size)) (X.ld1 (Try.agg3 _) ((hC.gr g).at 8 rfl))) hR.st0
  ·intro ac done u W Sx hR
   exact X.vl (X.binop rfl (Sx.ev 6 (Vi t)) (X.kc (Vi 0) rfl) (X.gtrI Try.underlying3 h5)) hR.st0
  ·intro ac done u W Sx hR
   exact X.vl (X.move rfl (Sx.ev 7 (.bool true))) hR.st0
  ·intro ac done u W Sx hR
   exact X.val (X.w1 rfl (Sx.yl 3 8 true (by kernel_rfl) rfl rfl)) rfl (X.field rfl (Sx.ev 3 (Vp w.heap.size)) (X.fld Try.underlying72 rfl (Try.siz3 _) rfl rfl)) hR.st0
  ·intro ac done u W Sx hR
   have g : Gr w4 W := hR.1
   exact X.val (X.w1 rfl (Sx.yl 3 8 true (by kernel_rfl) rfl rfl)) rfl (X.load rfl (Sx.ev 9 (Vp w.heap.size)) (X.ld1 (Try.agg3 _) ((hC.gr g).at 8 rfl))) hR.st0
  ·intro ac done u W Sx hR
   exact X.val (X.w1 rfl (Sx.yl 3 8 true (by kernel_rfl) rfl rfl)) rfl (X.move rfl (Sx.ev 0 (Vp bq))) hR.st0
  ·intro ac done u W Sx hR
   exact X.val (X.w1 rfl (Sx.yl 3 8 true (by kernel_rfl) rfl rfl)) rfl (Y.nilC rfl (Sx.ev 11 (Vp bq))) hR.st0
  ·intro ac done u W Sx hR
   exact X.val (X.w1 rfl (Sx.yl 3 8 true (by kernel_rfl) rfl rfl)) rfl (X.field rfl (Sx.ev 12 (Vp bq)) (X.fld Try.underlying110 rfl (Try.siz31 _) rfl rfl)) hR.st0
  ·intro ac done u W Sx hR
   exact X.val (X.w1 rfl (Sx.yl 3 8 true (by kernel_rfl) rfl rfl)) rfl (X.field rfl (Sx.ev 13 (Vp bq)) (X.fld Try.underlying31 rfl (Try.siz3 _) rfl rfl)) hR.st0
  ·intro ac done u W Sx hR
   have g : Gr w4 W := hR.1
   exact X.val (X.w1 rfl (Sx.yl 3 8 true (by kernel_rfl) rfl rfl)) rfl (X.load rfl (Sx.ev 14 (.pointer (some ⟨bq, 4, none⟩))) (X.ld1 (Try.agg3 _) ((hC.gr g).at 4 rfl))) hR.st0
  ·intro ac done u W Sx hR
   exact X.val (X.w1 rfl (Sx.yl 3 8 true (by kernel_rfl) rfl rfl)) rfl (X.binop rfl (Sx.ev 10 (Vi t)) (Sx.ev 15 (Vi p.re)) (X.remI Try.underlying3 rfl (by omega) (by omega))) hR.st0
  ·intro ac done u W Sx hR
   exact X.val (X.w1 rfl (Sx.yl 3 8 true (by kernel_rfl) rfl rfl)) rfl (X.binop rfl (Sx.ev 16 (Vi ((t : Int) % (p.re : Int)))) (X.kc (Vi 0) rfl) (X.eqlI Try.underlying3 rfl)) hR.st0
  ·intro ac done u W Sx hR
   exact X.vl (X.pickT rfl (Sx.ev 8 (.bool true)) (Sx.ev 17 (.bool (((t : Int) % (p.re : Int) : Int) == 0)))) hR.st0
  intro ac u w7 hs hd hl ho hR
  have g : Gr w4 w7 := hR.1
  replace F : Fr ac 30 [(0, Vp bq), (1, .agg #[Vi t, Vi x]), (3, Vp w.heap.size), (4, Vi 0), (18, .bool (((t : Int) % (p.re : Int) : Int) == 0))] := X.fr hs hd hl _ (by kernel_rfl)
  clear hs hd hl ho hR
  replace G := G.trans g
  replace hC := hC.gr g
  replace hq := hq.gr g
  clear g
  refine X.thenN ?_
  cases h8 : (((t : Int) % (p.re : Int) : Int) == 0) with
  | false =>
   try rw [h8] at F
   have h8p : ¬ ((t : Int) % (p.re : Int) : Int) = 0 := by simpa using h8
   refine Y.condF (F.e 18 rfl) ?_
   refine Y.skip ?_
   refine X.thenN ?_
   refine Y.seq ?_
   refine Y.lit (by kernel_rfl) ?_
   refine Y.pv F (X.field rfl (F.e 3 rfl) (X.fld Try.underlying72 rfl (Try.siz3 _) rfl rfl)) ?_;clear F ac;intro ac F
   refine Y.pv F (X.load rfl (F.e 28 rfl) (X.ld1 (Try.agg3 _) (hC.at 9 rfl))) ?_;clear F ac;intro ac F
   refine Y.pv F (X.assign rfl (F.e 29 rfl)) ?_;clear F ac;intro ac F
   refine Y.nil ?_
   replace F : Fr ac 30 [(0, Vp bq), (1, .agg #[Vi t, Vi x]), (3, Vp w.heap.size), (4, Vi x), (18, .bool false)] := F.sub _
   refine X.thenN ?_
   refine Y.ret ?_
   exact Y.ret0 (v := Vi x) F (Y.rs1 F rfl (by kernel_rfl)) ⟨by unfold refV; simp [h5p, h8p], G⟩
  | true =>
   try rw [h8] at F
   have h8p : ((t : Int) % (p.re : Int) : Int) = 0 := by simpa using h8
   refine Y.condT (F.e 18 rfl) ?_
   refine Y.seq ?_
   refine Y.region F [some (.pointer (some ⟨w.heap.size, 1, none⟩)), some (Vi x), some (Vi ((x : Int) + 1)), some (Vp bq), some (Vp bq), some (Vp bq), some (.pointer (some ⟨bq, 3, none⟩)), some (Vi p.bu), some (Vi (min ((x : Int) + 1 : Int) (p.bu : Int))), some (Vi (min ((x : Int) + 1 : Int) (p.bu : Int)))] [] rfl ⟨by kernel_rfl, of_decide_eq_true (by kernel_rfl), by kernel_rfl, by kernel_rfl, by kernel_rfl⟩ ⟨?_, ?_, ?_, ?_, ?_, ?_, ?_, ?_, ?_, ?_, trivial⟩ ?_
   ·intro ac done u W Sx hR
    exact X.vl (X.field rfl (Sx.ev 3 (Vp w.heap.size)) (X.fld Try.underlying72 rfl (Try.siz3 _) rfl rfl)) hR.st0
   ·intro ac done u W Sx hR
    have g : Gr w7 W := hR.1
    exact X.vl (X.load rfl (Sx.ev 19 (.pointer (some ⟨w.heap.size, 1, none⟩))) (X.ld1 (Try.agg3 _) ((hC.gr g).at 9 rfl))) hR.st0
   ·intro ac done u W Sx hR
    exact X.vl (X.binop rfl (Sx.ev 20 (Vi x)) (X.kc (Vi 1) rfl) (X.addI Try.underlying3 rfl (by omega) (by omega))) hR.st0
   ·intro ac done u W Sx hR
    exact X.vl (X.move rfl (Sx.ev 0 (Vp bq))) hR.st0
   ·intro ac done u W Sx hR
    exact X.vl (Y.nilC rfl (Sx.ev 22 (Vp bq))) hR.st0
   ·intro ac done u W Sx hR
    exact X.vl (X.field rfl (Sx.ev 23 (Vp bq)) (X.fld Try.underlying110 rfl (Try.siz31 _) rfl rfl)) hR.st0
   ·intro ac done u W Sx hR
    exact X.vl (X.field rfl (Sx.ev 24 (Vp bq)) (X.fld Try.underlying31 rfl (Try.siz3 _) rfl rfl)) hR.st0
   ·intro ac done u W Sx hR
    have g : Gr w7 W := hR.1
    exact X.vl (X.load rfl (Sx.ev 25 (.pointer (some ⟨bq, 3, none⟩))) (X.ld1 (Try.agg3 _) ((hC.gr g).at 3 rfl))) hR.st0
   ·intro ac done u W Sx hR
    exact X.vl (Y.min2 rfl (Sx.ev 21 (Vi ((x : Int) + 1))) (Sx.ev 26 (Vi p.bu))) hR.st0
   ·intro ac done u W Sx hR
    exact X.vl (X.assign rfl (Sx.ev 27 (Vi (min ((x : Int) + 1 : Int) (p.bu : Int))))) hR.st0
   intro ac u w9 hs hd hl ho hR
   have g : Gr w7 w9 := hR.1
   replace F : Fr ac 30 [(0, Vp bq), (1, .agg #[Vi t, Vi x]), (3, Vp w.heap.size), (4, Vi (min ((x : Int) + 1 : Int) (p.bu : Int))), (18, .bool true)] := X.fr hs hd hl _ (by kernel_rfl)
   clear hs hd hl ho hR
   replace G := G.trans g
   replace hC := hC.gr g
   replace hq := hq.gr g
   clear g
   refine X.thenN ?_
   refine Y.ret ?_
   refine X.thenR ?_
   exact Y.ret0 (v := Vi (min ((x : Int) + 1 : Int) (p.bu : Int))) F (Y.rs1 F rfl (by kernel_rfl)) ⟨by unfold refV; simp [h5p, h8p], G⟩

set_option maxRecDepth 100000 in
set_option maxHeartbeats 400000 in
theorem start_any (bq bm : Nat) (gq : Int) (p : Nd) (w : World) (hq : Pq w bq gq p.aw p.za p.bu p.re p.hold p.T bm) :
  Calls Try.prog 49 #[Vp bq] w fun e w' => e = .returned (.agg #[Vi 0, Vi p.bu]) ∧ Gr w w' := by
 have G := Gr.refl w
 have hC : RCells w (PqC bq gq p.aw p.za p.bu p.re p.hold p.T bm) := hq
 have hbq := hq.lt
 refine Y.calls 9 Try.func49 rfl rfl ?_
 intro ac F0
 have F : Fr ac 9 [(0, Vp bq)] := F0.sub _
 clear F0
 refine Y.seq ?_
 refine Y.lit (by kernel_rfl) ?_
 refine Y.pv F (Y.al rfl (Try.new72 _)) ?_;clear F ac;intro ac F
 have hgshV3 := G.size
 have hq4 : bq < w.heap.size := lt_cell (hC.at 0 rfl)
 have g := Gr.alloc w (.cells #[Vi 0, Vi 0] 72)
 have hb := heap_alloc_new w (.cells #[Vi 0, Vi 0] 72)
 have hbl : w.heap.size < (w.alloc (.cells #[Vi 0, Vi 0] 72)).heap.size := by simp
 generalize w.alloc (.cells #[Vi 0, Vi 0] 72) = w5 at *
 replace G := G.trans g
 replace hC := hC.gr g
 replace hq := hq.gr g
 have hV3 := ownP_2 hb
 clear g hb hbl
 refine Y.nil ?_
 replace F : Fr ac 9 [(0, Vp bq), (2, Vp w.heap.size)] := F.sub _
 refine X.thenN ?_
 refine Y.seq ?_
 refine Y.lit (by kernel_rfl) ?_
 refine Y.pv F (X.move rfl (F.e 0 rfl)) ?_;clear F ac;intro ac F
 refine Y.pv F (Y.nilC rfl (F.e 3 rfl)) ?_;clear F ac;intro ac F
 refine Y.pv F (X.field rfl (F.e 4 rfl) (X.fld Try.underlying110 rfl (Try.siz31 _) rfl rfl)) ?_;clear F ac;intro ac F
 refine Y.pv F (X.field rfl (F.e 5 rfl) (X.fld Try.underlying31 rfl (Try.siz3 _) rfl rfl)) ?_;clear F ac;intro ac F
 refine Y.pv F (X.load rfl (F.e 6 rfl) (X.ld1 (Try.agg3 _) (hC.at 3 rfl))) ?_;clear F ac;intro ac F
 refine Y.pv F (Y.bd rfl (Y.bd2 (X.kc (Vi 0) rfl) (F.e 7 rfl)) (Try.bd72 _ _ _)) ?_;clear F ac;intro ac F
 obtain ⟨w6, hrun, hS2, hon⟩ := hV3.st2 (P := Try.prog) (t := 72) (x := Vi 0) (y := Vi p.bu) (fun W => Try.siz72 W) rfl rfl
 refine Y.punit F (X.w0 rfl) rfl (X.store rfl (F.e 2 rfl) (F.e 8 rfl) hrun) ?_
 clear F ac hrun
 intro ac F
 replace G := Y.Only.up G hon (by omega)
 replace hq := hq.only hon (by show ¬ _ = _; omega)
 replace hC := (hC.kc hon 0 rfl (hC.kc hon 1 rfl (hC.kc hon 2 rfl (hC.kc hon 3 rfl (hC.kc hon 4 rfl (hC.kc hon 5 rfl (hC.kc hon 6 rfl (hC.kc hon 7 rfl (RCells.nil _)))))))))
 replace hV3 := hS2
 clear hS2 hon
 refine Y.nil ?_
 replace F : Fr ac 9 [(0, Vp bq), (2, Vp w.heap.size)] := F.sub _
 refine X.thenN ?_
 refine Y.ret ?_
 exact Y.ret0 (v := .agg #[Vi 0, Vi p.bu]) F (Y.rc1 F rfl (Try.agg72 _) (Try.siz72 _) (by kernel_rfl) hV3) ⟨rfl, G⟩

set_option maxRecDepth 100000 in
set_option maxHeartbeats 400000 in
theorem and_any (x y z u : Int) (w : World) (h1 : -100000000 ≤ x + z ∧ x + z ≤ 100000000) (h2 : -100000000 ≤ y + u ∧ y + u ≤ 100000000) :
  Calls Try.prog 62 #[.agg #[Vi x, Vi y], .agg #[Vi z, Vi u]] w fun e w' => e = .returned (.agg #[Vi (x + z), Vi (y + u)]) ∧ Gr w w' := by
 have G := Gr.refl w
 refine Y.calls 16 Try.func62 rfl rfl ?_
 intro ac F0
 have F : Fr ac 16 [(0, .agg #[Vi x, Vi y]), (1, .agg #[Vi z, Vi u])] := F0.sub _
 clear F0
 refine Y.seq ?_
 refine Y.lit (by kernel_rfl) ?_
 refine Y.pv F (X.box rfl (F.e 0 rfl) X.bx) ?_;clear F ac;intro ac F
 have g := Gr.alloc w (.cells #[Vi x, Vi y] 69)
 have hb := heap_alloc_new w (.cells #[Vi x, Vi y] 69)
 have hbl : w.heap.size < (w.alloc (.cells #[Vi x, Vi y] 69)).heap.size := by simp
 have hC2 : RCells (w.alloc (.cells #[Vi x, Vi y] 69)) [(Ad w.heap.size 0, Vi x), (Ad w.heap.size 1, Vi y)] := (RCells.nil w).box (b := w.heap.size) #[Vi x, Vi y] 69 rfl
 generalize w.alloc (.cells #[Vi x, Vi y] 69) = w3 at *
 replace G := G.trans g
 have hC := hC2
 clear hC2
 clear g hb hbl
 refine Y.pv F (X.box rfl (F.e 1 rfl) X.bx) ?_;clear F ac;intro ac F
 have hq4 : w.heap.size < w3.heap.size := lt_cell (hC.at 0 rfl)
 have g := Gr.alloc w3 (.cells #[Vi z, Vi u] 69)
 have hb := heap_alloc_new w3 (.cells #[Vi z, Vi u] 69)
 have hbl : w3.heap.size < (w3.alloc (.cells #[Vi z, Vi u] 69)).heap.size := by simp
 have hC2 : RCells (w3.alloc (.cells #[Vi z, Vi u] 69)) [(Ad w.heap.size 0, Vi x), (Ad w.heap.size 1, Vi y), (Ad w3.heap.size 0, Vi z), (Ad w3.heap.size 1, Vi u)] := hC.box (b := w3.heap.size) #[Vi z, Vi u] 69 rfl
 generalize w3.alloc (.cells #[Vi z, Vi u] 69) = w5 at *
 replace G := G.trans g
 replace hC := hC2
 clear hC2
 clear g hb hbl
 refine Y.pv F (Y.al rfl (Try.new69 _)) ?_;clear F ac;intro ac F
 have hgshV6 := G.size
 have hq7 : w.heap.size < w5.heap.size := lt_cell (hC.at 0 rfl)
 have hq8 : w3.heap.size < w5.heap.size := lt_cell (hC.at 2 rfl)
 have g := Gr.alloc w5 (.cells #[Vi 0, Vi 0] 69)
 have hb := heap_alloc_new w5 (.cells #[Vi 0, Vi 0] 69)
 have hbl : w5.heap.size < (w5.alloc (.cells #[Vi 0, Vi 0] 69)).heap.size := by simp
 generalize w5.alloc (.cells #[Vi 0, Vi 0] 69) = w9 at *
 replace G := G.trans g
 replace hC := hC.gr g
 have hV6 := ownP_2 hb
 clear g hb hbl
 refine Y.nil ?_
 replace F : Fr ac 16 [(0, .agg #[Vi x, Vi y]), (1, .agg #[Vi z, Vi u]), (2, Vp w.heap.size), (3, Vp w3.heap.size), (4, Vp w5.heap.size)] := F.sub _
 refine X.thenN ?_
 refine Y.seq ?_
 refine Y.lit (by kernel_rfl) ?_
 refine Y.pv F (X.field rfl (F.e 2 rfl) (X.fld Try.underlying69 rfl (Try.siz3 _) rfl rfl)) ?_;clear F ac;intro ac F
 refine Y.pv F (X.load rfl (F.e 5 rfl) (X.ld1 (Try.agg3 _) (hC.at 0 rfl))) ?_;clear F ac;intro ac F
 refine Y.pv F (X.field rfl (F.e 3 rfl) (X.fld Try.underlying69 rfl (Try.siz3 _) rfl rfl)) ?_;clear F ac;intro ac F
 refine Y.pv F (X.load rfl (F.e 7 rfl) (X.ld1 (Try.agg3 _) (hC.at 2 rfl))) ?_;clear F ac;intro ac F
 refine Y.pv F (X.binop rfl (F.e 6 rfl) (F.e 8 rfl) (X.addI Try.underlying3 rfl (by omega) (by omega))) ?_;clear F ac;intro ac F
 refine Y.pv F (X.field rfl (F.e 2 rfl) (X.fld Try.underlying69 rfl (Try.siz3 _) rfl rfl)) ?_;clear F ac;intro ac F
 refine Y.pv F (X.load rfl (F.e 10 rfl) (X.ld1 (Try.agg3 _) (hC.at 1 rfl))) ?_;clear F ac;intro ac F
 refine Y.pv F (X.field rfl (F.e 3 rfl) (X.fld Try.underlying69 rfl (Try.siz3 _) rfl rfl)) ?_;clear F ac;intro ac F
 refine Y.pv F (X.load rfl (F.e 12 rfl) (X.ld1 (Try.agg3 _) (hC.at 3 rfl))) ?_;clear F ac;intro ac F
 refine Y.pv F (X.binop rfl (F.e 11 rfl) (F.e 13 rfl) (X.addI Try.underlying3 rfl (by omega) (by omega))) ?_;clear F ac;intro ac F
 refine Y.pv F (Y.bd rfl (Y.bd2 (F.e 9 rfl) (F.e 14 rfl)) (Try.bd69 _ _ _)) ?_;clear F ac;intro ac F
 obtain ⟨w10, hrun, hS2, hon⟩ := hV6.st2 (P := Try.prog) (t := 69) (x := Vi ((x : Int) + z)) (y := Vi ((y : Int) + u)) (fun W => Try.siz69 W) rfl rfl
 refine Y.punit F (X.w0 rfl) rfl (X.store rfl (F.e 4 rfl) (F.e 15 rfl) hrun) ?_
 clear F ac hrun
 intro ac F
 replace G := Y.Only.up G hon (by omega)
 replace hC := (hC.kc hon 0 rfl (hC.kc hon 1 rfl (hC.kc hon 2 rfl (hC.kc hon 3 rfl (RCells.nil _)))))
 replace hV6 := hS2
 clear hS2 hon
 refine Y.nil ?_
 replace F : Fr ac 16 [(0, .agg #[Vi x, Vi y]), (1, .agg #[Vi z, Vi u]), (2, Vp w.heap.size), (3, Vp w3.heap.size), (4, Vp w5.heap.size)] := F.sub _
 refine X.thenN ?_
 refine Y.ret ?_
 exact Y.ret0 (v := .agg #[Vi ((x : Int) + z), Vi ((y : Int) + u)]) F (Y.rc1 F rfl (Try.agg69 _) (Try.siz69 _) (by kernel_rfl) hV6) ⟨rfl, G⟩
end
end Go.Proofs.Ytoalamakhjbedaa
