/- A list of states that a call collects. Nothing of the program is proved here. -/
import Derived.Test.YtlilojpnhmfnaaaPlanG
import Derived.Test.YtlilojpnhmfnaaaPath
namespace Go.Proofs.Ytlilojpnhmfnaaa
open Go.RowKit

theorem Try.info26 : (Try.prog.info? 26).map (fun i => (i.zero, i.size, i.bytes)) = some (some (.slice none 0 0), 1, 24) := by kernel_rfl

theorem only_grown {w w' : World} {row : Option Nat} (h : w.grownBy w' row) : Only (fun b => row = some b) w w' := by
  obtain ⟨h1, h2, h3, h4, h5⟩ := h
  exact ⟨h1, h2, h3, h4, fun b hb hn => h5 b hb (fun e => hn e.symm)⟩

/-- the slice v, of the call's own, holds slices that hold the lists L -/
def OutR (w : World) (B : Nat) (v : Value) (L : List (List Int)) : Prop :=
  ∃ xs : List Value, w.ownsRow B 26 1 v L.length xs ∧ ∀ j, j < L.length → ∃ ad n c, xs[j]? = some (.slice (some ad) n c) ∧ Ints w (some ad) n (L[j]?.getD []) ∧ Is3 w ad.block

theorem OutR.nil (w : World) (B : Nat) : OutR w B (.slice none 0 0) [] := ⟨[], World.ownsRow_nil w B 26 1, fun j hj => by simp at hj⟩

theorem ownsRow_only {S : Nat → Prop} {w w' : World} {B e size n : Nat} {v : Value} {xs : List Value} (h : w.ownsRow B e size v n xs) (g : Only S w w') (hs : NoCells S w) : w'.ownsRow B e size v n xs := by
  refine ⟨h.1, ?_⟩
  rcases h.2 with h2 | ⟨b, cap, cur, h1, h2, h3, h4⟩
  · exact .inl h2
  · exact .inr ⟨b, cap, cur, h1, h2, (g.block b (Array.getElem?_eq_some_iff.1 h3).1 (fun hS => hs b _ _ _ hS h3)).trans h3, h4⟩
theorem OutR.only {S : Nat → Prop} {w w' : World} {B : Nat} {v : Value} {L : List (List Int)} (h : OutR w B v L) (g : Only S w w') (hs : NoCells S w) : OutR w' B v L := by
  obtain ⟨xs, h1, h2⟩ := h
  refine ⟨xs, ownsRow_only h1 g hs, fun j hj => ?_⟩
  obtain ⟨ad, n, c, k1, k2, k3⟩ := h2 j hj
  exact ⟨ad, n, c, k1, k2.only g hs, k3.onlyN g hs⟩
theorem noc_none (w : World) : NoCells (fun _ => False) w := fun _ _ _ _ h => h.elim
theorem OutR.gr {w w' : World} {B : Nat} {v : Value} {L : List (List Int)} (h : OutR w B v L) (g : Gr w w') : OutR w' B v L := h.only (g.only (fun _ => False)) (noc_none w)

/-- the block of the slice holds slices, no numbers -/
theorem own_block {w : World} {B n : Nat} {v : Value} {xs : List Value} (h : w.ownsRow B 26 1 v n xs) {b : Nat} (hb : v.ownBlock = some b) : B ≤ b ∧ ¬ Is3 w b := by
  rcases h.2 with ⟨rfl, _⟩ | ⟨g, cap, cur, rfl, h2, h3, _⟩
  · simp [Value.ownBlock] at hb
  · simp [Value.ownBlock] at hb
    subst hb
    refine ⟨h2, fun h => ?_⟩
    obtain ⟨c2, fr, h4⟩ := h
    rw [h3] at h4
    injection h4 with h4
    injection h4 with _ h5
    cases h5

theorem OutR.push {w w1 : World} {B : Nat} {v v' : Value} {L : List (List Int)} {xs : List Value} {ad : Addr} {n c : Nat} {x : List Int} (h1 : w.ownsRow B 26 1 v L.length xs)
    (h2 : ∀ j, j < L.length → ∃ ad n c, xs[j]? = some (.slice (some ad) n c) ∧ Ints w (some ad) n (L[j]?.getD []) ∧ Is3 w ad.block) (hx : Ints w (some ad) n x) (h3 : Is3 w ad.block)
    (hown : w1.ownsRow B 26 1 v' (L.length + 1) (xs ++ [.slice (some ad) n c])) (hgrow : w.grownBy w1 v.ownBlock) : OutR w1 B v' (L ++ [x]) := by
  have hO := only_grown hgrow
  have hb : ∀ ad' : Addr, Is3 w ad'.block → ¬ (v.ownBlock = some ad'.block) := fun ad' h e => (own_block h1 e).2 h
  refine ⟨_, by simpa using hown, fun j hj => ?_⟩
  have hxl : xs.length = L.length := by simpa using h1.1
  by_cases e : j = L.length
  · subst e
    refine ⟨ad, n, c, by rw [← hxl]; simp, ?_, h3.only hO (hb ad h3)⟩
    have hxx : (L ++ [x])[L.length]?.getD [] = x := by simp
    rw [hxx]
    exact hx.onlyAt hO (fun ad' e => by cases e; exact hb ad h3)
  · have hj' : j < L.length := by simp at hj; omega
    obtain ⟨ad', n', c', k1, k2, k3⟩ := h2 j hj'
    refine ⟨ad', n', c', by rw [List.getElem?_append_left (by omega)]; exact k1, ?_, k3.only hO (hb ad' k3)⟩
    rw [List.getElem?_append_left hj']
    exact k2.onlyAt hO (fun ad2 e => by cases e; exact hb ad' k3)

theorem OutR.rows {w : World} {B : Nat} {v : Value} {L : List (List Int)} (h : OutR w B v L) (hl : L.length < 1152921504606846976) : ∃ a c, v = .slice a L.length c ∧ RowsAt w a L.length L := by
  obtain ⟨xs, h1, h2⟩ := h
  rcases h1.2 with ⟨rfl, h0⟩ | ⟨g, cap, cur, rfl, _, h3, _⟩
  · exact ⟨none, 0, by rw [h0], rfl, hl, fun j hj => by omega⟩
  · refine ⟨some ⟨g, 0, none⟩, cap, rfl, rfl, hl, fun j hj => ?_⟩
    obtain ⟨ad, n, c, k1, k2, _⟩ := h2 j hj
    exact ⟨⟨g, 0, none⟩, some ad, n, c, rfl, (Array.getElem?_eq_some_iff.1 h3).1, h1.cells (g := g) rfl j _ k1, k2⟩
end Go.Proofs.Ytlilojpnhmfnaaa
