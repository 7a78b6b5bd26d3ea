/- A rule for a range over states. -/
import Derived.Test.YtlilojpnhmfnaaaStatesF
import Derived.RangeFuncBound
import Derived.Shelf.Abstract
namespace Go.Proofs.Ytlilojpnhmfnaaa
open Go.RowKit

theorem putObj_only (W : World) (r : Nat) (o : Obj) : Only (fun b => b = r) W (W.putObj r o) := Only.putObj (S := fun b => b = r) (Only.refl _ W) (.inl rfl) o
theorem alloc_only (W : World) (o : Obj) (S : Nat → Prop) : Only S W (W.alloc o) := (Gr.alloc W o).only S

theorem Only.mono' {S S' : Nat → Prop} {a b : World} (h : Only S a b) (hs : ∀ i, S i → S' i) : Only S' a b := h.mono (fun i _ => hs i)

theorem Is3.lt {W : World} {b : Nat} (h : Is3 W b) : b < W.heap.size := by
  obtain ⟨_, _, hb⟩ := h
  exact (Array.getElem?_eq_some_iff.1 hb).1
theorem Is3.only {S : Nat → Prop} {W W' : World} {b : Nat} (h : Is3 W b) (g : Only S W W') (hs : ¬ S b) : Is3 W' b := by
  have hlt := h.lt
  obtain ⟨cur, fr, hb⟩ := h
  exact ⟨cur, fr, (g.block b hlt hs).trans hb⟩
theorem Is3.onlyN {S : Nat → Prop} {W W' : World} {b : Nat} (h : Is3 W b) (g : Only S W W') (hn : NoCells S W) : Is3 W' b := by
  refine h.only g (fun hs => ?_)
  obtain ⟨cur, fr, hb⟩ := h
  exact hn b cur 3 fr hs hb
theorem Is3.gr {W W' : World} {b : Nat} (h : Is3 W b) (g : Gr W W') : Is3 W' b := by
  have hlt := h.lt
  obtain ⟨cur, fr, hb⟩ := h
  exact ⟨cur, fr, (g.below.block b hlt).trans hb⟩
/-- what a round is handed -/
def SArg (wB w : World) (S : Nat → Prop) (f : Fl) (lo hi : List Int) (n : Nat) (x : List Int) (args : Array Value) (W : World) : Prop :=
  ∃ ad c, args = #[.slice (some ad) n c] ∧ Ints W (some ad) n x ∧ w.heap.size + 4 < ad.block ∧ x ∈ enum f lo hi n [] ∧ StOk f x ∧ worksB f x = true ∧ Only S wB W ∧ Is3 W ad.block

theorem range_states {g : Operand} {pt : Tmp} {assign body : Code} {Q : Exit → Act → World → Prop} {a : Act} {w wB : World} {S Y : Nat → Prop} {f : Fl} {ta ca fa toa : Option Addr} {tn tc cn cc n fc toc : Nat} {lo hi : List Int} {bfr bfl bto : Nat}
    (hg : a.eval g = .func (.func 90) #[] #[.pointer (some ⟨bfr, 0, none⟩), .pointer (some ⟨bfl, 0, none⟩), .pointer (some ⟨bto, 0, none⟩)])
    (hb : SBase wB S f ta tn ca cn fa toa n lo hi) (hbase : Only S wB w) (hYS : ∀ b, Y b → S b) (hYlt : ∀ b, Y b → b < w.heap.size)
    (c1 : w.cell? ⟨bfr, 0, none⟩ = some (.slice fa n fc)) (c2 : w.cell? ⟨bfl, 0, none⟩ = some (.slice ta tn tc)) (c3 : w.cell? ⟨bfl, 1, none⟩ = some (.slice ca cn cc)) (c4 : w.cell? ⟨bto, 0, none⟩ = some (.slice toa n toc))
    (n1 : ¬ Y bfr) (n2 : ¬ Y bfl) (n3 : ¬ Y bto) (I : List (List Int) → World → Prop) (Ix : Code → World → Prop)
    (h0 : I [] w) (hI : ∀ xs W W', I xs W → Only (fun b => b = w.heap.size + 1 ∨ b = w.heap.size + 4) W W' → I xs W')
    (hIx : ∀ c W W', Ix c W → Only (fun b => b = w.heap.size + 1) W W' → Ix c W') (a₁ : Value → Act)
    (hassign : ∀ (l : Nat) (v : Value) (W : World) (K : Act → World → Prop), K (a₁ v) W → assign.wpIn (Fence.wide.inRound l) 0 Try.prog (Exit.then K (fun _ _ _ => False)) { tmps := a.tmps.setIfInBounds pt v, defers := [] } W)
    (hbody : ∀ (pre : List (List Int)) (x : List Int) (ad : Addr) (c : Nat) (W : World), I pre W → Only S wB W → Ints W (some ad) n x → w.heap.size + 4 < ad.block → Is3 W ad.block → x ∈ enum f lo hi n [] → StOk f x → worksB f x = true →
      body.wpIn (Fence.wide.inRound (w.heap.size + 1)) 0 Try.prog (roundQ Y I Ix (pre ++ [x]) W) (a₁ (.slice (some ad) n c)) W)
    (hdone : ∀ (W : World), I (enum f lo hi n []) W → W.heap[w.heap.size]? = some (.deferred (some [])) → Q .normal { a with defers := { target := .collected w.heap.size, args := #[] } :: a.defers } W)
    (hstop : ∀ (c : Code) (W : World), Ix c W → W.heap[w.heap.size]? = some (.deferred (some [])) → c.wpIn Fence.wide 0 Try.prog Q { a with defers := { target := .collected w.heap.size, args := #[] } :: a.defers } W) :
    (Code.rangeFunc g #[pt] assign body).wp Try.prog Q a w := by
  have hsz := hbase.size
  refine range_rule (P := Try.prog) (α := List Int) (gf := 90) (lb := #[.pointer (some ⟨bfr, 0, none⟩), .pointer (some ⟨bfl, 0, none⟩), .pointer (some ⟨bto, 0, none⟩)]) hg (Go.Proofs.enters_of Try.func90 (by kernel_rfl) rfl)
    I Ix Y (SArg wB w S f lo hi n) (fun xs => xs = enum f lo hi n []) (fun args => a₁ (args.getD 0 undef)) (fun h => by have := hYlt _ h; omega) (fun h => by have := hYlt _ h; omega)
    (fun xs W o h => hI xs W _ h ((putObj_only _ _ _).mono' (fun i e => .inl e))) (fun c W o h => hIx c W _ h (putObj_only _ _ _))
    (fun x args W h => by obtain ⟨ad, c, rfl, _⟩ := h; rfl)
    (fun x args W o h => by
      obtain ⟨ad, c, h1, h2, h3, h4, h5, h6, h7, h8⟩ := h
      exact ⟨ad, c, h1, h2.onlyAt (putObj_only _ _ _) (fun ad' e hS => by cases e; omega), h3, h4, h5, h6, h7.trans ((putObj_only _ _ _).mono' (fun i e => by subst e; exact hb.new _ (by omega))), h8.only (putObj_only _ _ _) (by omega)⟩)
    h0 (fun xs W o h => hI xs W _ h (alloc_only _ _ _)) (fun l x args W K hE hK => by
      obtain ⟨ad, c, rfl, _⟩ := hE
      have h1 := hassign l (.slice (some ad) n c) W K hK
      simpa using h1)
    (fun pre x args W hi hE _ => by
      obtain ⟨ad, c, rfl, h2, h3, h4, h5, h6, h7, h8⟩ := hE
      exact hbody pre x ad c W hi h7 h2 h3 h8 h4 h5 h6) ?_ (fun xs W hS hi hk => by subst hS; exact hdone W hi hk) hstop
  intro L hLs hLp hyield hstart
  obtain ⟨W0, hW0⟩ : ∃ W0, (w.alloc (.deferred (some []))).alloc (.loop L) = W0 := ⟨_, rfl⟩
  have g0 : Gr w W0 := by rw [← hW0]; exact (Gr.alloc _ _).allocR _
  have s0 : W0.heap.size = w.heap.size + 2 := by rw [← hW0]; simp
  rw [hW0] at hstart ⊢
  refine callsIn_wide.2 ?_
  have hcall := states1_any wB W0 S Y (Between w.heap.size L I) (Left w.heap.size L Ix) f ta ca fa toa tn tc cn cc n fc toc lo hi bfr bfl bto (w.heap.size + 1) hb (hbase.thenGr g0) hYS (fun b h => Nat.lt_of_lt_of_le (hYlt b h) g0.size)
    ((g0.cell (lt_cell c1)).trans c1) ((g0.cell (lt_cell c2)).trans c2) ((g0.cell (lt_cell c3)).trans c3) ((g0.cell (lt_cell c4)).trans c4) n1 n2 n3 hstart
    (fun done W W' h ho => by
      rw [s0] at ho
      obtain ⟨hi, hl, hk⟩ := h
      have l1 := (Array.getElem?_eq_some_iff.1 hl).1
      have l2 := (Array.getElem?_eq_some_iff.1 hk).1
      exact ⟨hI _ _ _ hi (ho.mono' (fun i e => .inr e)), (ho.block _ l1 (by omega)).trans hl, (ho.block _ l2 (by omega)).trans hk⟩)
    (fun W W' h g => by
      obtain ⟨c, hi, hl, hk⟩ := h
      have l1 := (Array.getElem?_eq_some_iff.1 hl).1
      have l2 := (Array.getElem?_eq_some_iff.1 hk).1
      exact ⟨c, hIx _ _ _ hi (g.only _), (g.below.block _ l1).trans hl, (g.below.block _ l2).trans hk⟩)
    (fun done x rest W ad c hj hon hin h3 hp hall hst hw => by
      have hE : SArg wB w S f lo hi n x #[.slice (some ad) n c] W := ⟨ad, c, rfl, hin, by omega, by rw [hall]; simp, hst, hw, hon, h3⟩
      exact (hyield done x _ W hj hE).mono (fun e W' h => by
        rcases h with ⟨h1, h2, h3⟩ | ⟨h1, h2⟩
        · exact .inl ⟨h1, h2, h3⟩
        · exact .inr ⟨h1, h2⟩))
  refine hcall.mono (fun e W' h => ?_)
  obtain ⟨hv, h | h⟩ := h
  · exact ⟨hv, .inl ⟨_, rfl, h⟩⟩
  · exact ⟨hv, .inr h⟩
end Go.Proofs.Ytlilojpnhmfnaaa
