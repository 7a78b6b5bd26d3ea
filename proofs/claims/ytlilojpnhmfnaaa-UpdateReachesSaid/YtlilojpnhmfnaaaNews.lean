/- Contracts: Newest and its reference. -/
import Derived.Test.YtlilojpnhmfnaaaBd11
import Derived.Test.YtlilojpnhmfnaaaBd9
namespace Go.Proofs.Ytlilojpnhmfnaaa
open Go.RowKit

theorem st_n6 {f : Fl} {xs : List Int} {w : World} {a : Option Addr} {n : Nat} (hok : FlOk f) (hs : StOk f xs) (h : Ints w a n xs) : n ≤ 6 := by
  have := hok.n6
  have := hs.len
  have := h.len
  omega
theorem st_b3 {f : Fl} {xs : List Int} (hok : FlOk f) (hs : StOk f xs) : Hid (∀ c : Nat, 0 ≤ xs[c]?.getD 0 ∧ xs[c]?.getD 0 ≤ 3) := Lib.hid (fun c => by
  by_cases hc : c < f.times.length
  · have := hs.ver c hc
    have := hok.row c hc
    omega
  · have : xs[c]? = none := List.getElem?_eq_none (by rw [hs.len]; omega)
    rw [this]; simp)
def pk2 (L : List (List Int)) (k : Nat) : List Int := (L.take k).foldl pick2 (L[0]?.getD [])
theorem all_at {L : List (List Int)} {k : Nat} (h : k < L.length) : L[k]?.getD [] ∈ L := by rw [List.getElem?_eq_getElem h]; exact List.getElem_mem h
theorem pk2_succ {L : List (List Int)} {k : Nat} (h : k < L.length) : pk2 L (k + 1) = pick2 (pk2 L k) (L[k]?.getD []) := by
  unfold pk2
  rw [List.take_succ_eq_append_getElem h, List.foldl_append, List.getElem?_eq_getElem h]
  rfl
theorem pk2_mem {L : List (List Int)} (h : 0 < L.length) : ∀ k, pk2 L k ∈ L := by
  intro k
  induction k with
  | zero => exact all_at h
  | succ k ih =>
    by_cases hk : k < L.length
    · rw [pk2_succ hk]
      unfold pick2
      split
      · exact all_at hk
      · exact ih
    · have : pk2 L (k + 1) = pk2 L k := by unfold pk2; rw [List.take_of_length_le (by omega), List.take_of_length_le (by omega)]
      rw [this]; exact ih
theorem pk2_all (L : List (List Int)) : pk2 L L.length = new2 L := by unfold pk2 new2; rw [List.take_length]
theorem fold1_mem : ∀ {L : List (List Int)} {o : Option (List Int)} {b : List Int}, L.foldl pick1 o = some b → b ∈ L ∨ o = some b := by
  intro L
  induction L with
  | nil => intro o b h; exact .inr h
  | cons x L ih =>
    intro o b h
    rcases ih h with h1 | h1
    · exact .inl (by simp [h1])
    · cases o with
      | none => simp [pick1] at h1; exact .inl (by simp [h1])
      | some y =>
        simp only [pick1] at h1
        split at h1
        · injection h1 with h1; exact .inl (by simp [h1])
        · exact .inr h1
theorem new1_mem {L : List (List Int)} {b : List Int} (h : new1 L = some b) : b ∈ L := by
  rcases fold1_mem h with h | h
  · exact h
  · cases h
/-- what the variable holds -/
def BV (wR : World) (n : Nat) (W : World) (v : Value) : Option (List Int) → Prop
  | none => v = .slice none 0 0
  | some b => ∃ ad c, v = .slice (some ad) n c ∧ Ints W (some ad) n b ∧ wR.heap.size + 4 < ad.block
def NI (wR : World) (bn n : Nat) (done : List (List Int)) (W : World) : Prop := ∃ v, Y.RC wR bn v W ∧ BV wR n W v (new1 done)
theorem NI.keep {wR W W' : World} {bn n : Nat} {done : List (List Int)} (h : NI wR bn n done W) (g : Only (fun b => b = wR.heap.size + 1 ∨ b = wR.heap.size + 4) W W') : NI wR bn n done W' := by
  obtain ⟨v, h1, h2⟩ := h
  refine ⟨v, h1.keep (Nat.le_refl _) g, ?_⟩
  cases hb : new1 done with
  | none => rw [hb] at h2; exact h2
  | some b =>
    rw [hb] at h2
    obtain ⟨ad, c, e, hi, hk⟩ := h2
    exact ⟨ad, c, e, hi.onlyAt g (fun ad2 e2 => by injection e2 with e2; subst e2; omega), hk⟩

set_option maxRecDepth 100000 in
set_option maxHeartbeats 400000 in
theorem newest2_any (ta ca : Option Addr) (tn tc cn cc : Nat) (f : Fl) (w : World) (hf : FlAt w ta tn ca cn f) :
    Calls Try.prog 43 #[.agg #[.slice ta tn tc, .slice ca cn cc]] w fun e w' => ∃ a n c, e = .returned (.tuple #[.slice a n c, .int .i64 (newE f)]) ∧ Ints w' a n (newW f) ∧ Gr w w' := by
  have G := Gr.refl w
  refine Y.calls 40 Try.func43 rfl rfl ?_
  intro ac F0
  have F : Fr ac 40 [(0, .agg #[.slice ta tn tc, .slice ca cn cc])] := F0.sub _ (by kernel_rfl)
  clear F0
  refine Y.seq ?_
  refine Y.lit (by kernel_rfl) ?_
  refine Y.pval F (X.w0 rfl) rfl (X.box rfl (F.ev 0 (.agg #[.slice ta tn tc, .slice ca cn cc]) (by kernel_rfl)) X.bx) ?_
  clear F ac
  intro ac F
  have g := Gr.alloc w (.cells #[.slice ta tn tc, .slice ca cn cc] 25)
  have hb := heap_alloc_new w (.cells #[.slice ta tn tc, .slice ca cn cc] 25)
  have hbl : w.heap.size < (w.alloc (.cells #[.slice ta tn tc, .slice ca cn cc] 25)).heap.size := by simp
  have hC2 : RCells (w.alloc (.cells #[.slice ta tn tc, .slice ca cn cc] 25)) [(⟨w.heap.size, 0, none⟩, .slice ta tn tc), (⟨w.heap.size, 1, none⟩, .slice ca cn cc)] := (RCells.nil w).box (b := w.heap.size) #[.slice ta tn tc, .slice ca cn cc] 25 rfl
  generalize w.alloc (.cells #[.slice ta tn tc, .slice ca cn cc] 25) = w3 at *
  replace G := G.trans g
  have hC := hC2
  clear hC2
  replace hf := hf.gr g
  clear g hb hbl
  refine Y.pval F (X.w0 rfl) rfl (X.assign rfl (X.kc (.slice none 0 0) rfl)) ?_
  clear F ac
  intro ac F
  refine Y.pval F (X.w0 rfl) rfl (X.assign rfl (X.kc (.int .i64 0) rfl)) ?_
  clear F ac
  intro ac F
  refine Y.nil ?_
  replace F : Fr ac 40 [(0, .agg #[.slice ta tn tc, .slice ca cn cc]), (1, .pointer (some ⟨w.heap.size, 0, none⟩)), (2, .slice none 0 0), (3, .int .i64 0)] := F.sub _ (by kernel_rfl)
  refine X.thenN ?_
  refine Y.seq ?_
  refine Y.seq ?_
  refine Y.lit (by kernel_rfl) ?_
  refine Y.pval F (X.w0 rfl) rfl (X.load rfl (F.ev 1 (.pointer (some ⟨w.heap.size, 0, none⟩)) (by kernel_rfl)) (X.ldN (Try.agg25 _) (Try.siz25 _) (X.c2 (hC.at 0 rfl) (hC.at 1 rfl)))) ?_
  clear F ac
  intro ac F
  refine Y.pcall F (X.w0 rfl) rfl (X.enter (F := 37) rfl (X.kc (.func (.func 37) #[] #[]) rfl) (X.a1 (F.ev 8 (.agg #[.slice ta tn tc, .slice ca cn cc]) (by kernel_rfl))) (enters_of Try.func37 (by kernel_rfl) rfl _)) (check2_any ta ca tn tc cn cc f w3 hf) ?_
  clear F ac
  rintro e w5 ⟨rfl, g⟩
  refine ⟨_, rfl, ?_⟩
  intro ac F
  replace G := G.trans g
  replace hC := hC.gr g
  replace hf := hf.gr g
  clear g
  refine Y.pval F (X.w0 rfl) rfl (X.assign rfl (F.ev 9 (.int .i64 (chkE f)) (by kernel_rfl))) ?_
  clear F ac
  intro ac F
  refine Y.nil ?_
  replace F : Fr ac 40 [(0, .agg #[.slice ta tn tc, .slice ca cn cc]), (1, .pointer (some ⟨w.heap.size, 0, none⟩)), (2, .slice none 0 0), (3, .int .i64 0), (4, .int .i64 (chkE f))] := F.sub _ (by kernel_rfl)
  refine X.thenN ?_
  refine Y.seq ?_
  refine Y.lit (by kernel_rfl) ?_
  refine Y.pval F (X.w0 rfl) rfl (X.move rfl (F.ev 4 (.int .i64 (chkE f)) (by kernel_rfl))) ?_
  clear F ac
  intro ac F
  refine Y.pval F (X.w0 rfl) rfl (X.binop rfl (F.ev 10 (.int .i64 (chkE f)) (by kernel_rfl)) (X.kc (.int .i64 0) rfl) (X.neqI Try.underlying31 rfl)) ?_
  clear F ac
  intro ac F
  refine Y.nil ?_
  replace F : Fr ac 40 [(0, .agg #[.slice ta tn tc, .slice ca cn cc]), (1, .pointer (some ⟨w.heap.size, 0, none⟩)), (2, .slice none 0 0), (3, .int .i64 0), (4, .int .i64 (chkE f)), (11, .bool ((chkE f : Int) != 0))] := F.sub _ (by kernel_rfl)
  refine X.thenN ?_
  cases h6 : ((chkE f : Int) != 0) with
  | false =>
    try rw [h6] at F
    have h6p : (chkE f : Int) = 0 := by simpa using h6
    have hok : FlOk f := chkB_ok (chkE_zero h6p)
    have HE0 : chkE f = 0 := h6p
    refine Y.condF (F.ev 11 (.bool false) (by kernel_rfl)) ?_
    refine Y.skip ?_
    refine X.thenN ?_
    refine Y.seq ?_
    refine Y.lit (by kernel_rfl) ?_
    refine Y.pval F (X.w0 rfl) rfl (X.load rfl (F.ev 1 (.pointer (some ⟨w.heap.size, 0, none⟩)) (by kernel_rfl)) (X.ldN (Try.agg25 _) (Try.siz25 _) (X.c2 (hC.at 0 rfl) (hC.at 1 rfl)))) ?_
    clear F ac
    intro ac F
    refine Y.pcall F (X.w0 rfl) rfl (X.enter (F := 81) rfl (X.kc (.func (.func 81) #[] #[]) rfl) (X.a2 (F.ev 13 (.agg #[.slice ta tn tc, .slice ca cn cc]) (by kernel_rfl)) (X.kc (.slice none 0 0) rfl)) (enters_of Try.func81 (by kernel_rfl) rfl _)) (states2_nil ta ca tn tc cn cc f w5 hok hf) ?_
    clear F ac
    rintro e w9 ⟨ra8, rn8, rc8, rfl, hR8, g⟩
    have hlR := hR8.len
    have hltR := hR8.lt
    refine ⟨_, rfl, ?_⟩
    intro ac F
    replace G := G.trans g
    replace hC := hC.gr g
    replace hf := hf.gr g
    clear g
    refine Y.pval F (X.w0 rfl) rfl (X.assign rfl (F.ev 14 (.slice ra8 rn8 rc8) (by kernel_rfl))) ?_
    clear F ac
    intro ac F
    refine Y.nil ?_
    replace F : Fr ac 40 [(0, .agg #[.slice ta tn tc, .slice ca cn cc]), (1, .pointer (some ⟨w.heap.size, 0, none⟩)), (2, .slice none 0 0), (3, .int .i64 0), (4, .int .i64 (chkE f)), (5, .slice ra8 rn8 rc8), (11, .bool false)] := F.sub _ (by kernel_rfl)
    refine X.thenN ?_
    refine Y.seq ?_
    refine Y.seq ?_
    refine Y.lit (by kernel_rfl) ?_
    refine Y.pval F (X.w0 rfl) rfl (X.move rfl (F.ev 5 (.slice ra8 rn8 rc8) (by kernel_rfl))) ?_
    clear F ac
    intro ac F
    refine Y.pval F (X.w0 rfl) rfl (X.len1 Try.underlying22 rfl (F.ev 15 (.slice ra8 rn8 rc8) (by kernel_rfl))) ?_
    clear F ac
    intro ac F
    refine Y.pval F (X.w0 rfl) rfl (X.binop rfl (F.ev 16 (.int .i64 rn8) (by kernel_rfl)) (X.kc (.int .i64 0) rfl) (X.eqlI Try.underlying3 rfl)) ?_
    clear F ac
    intro ac F
    refine Y.nil ?_
    replace F : Fr ac 40 [(0, .agg #[.slice ta tn tc, .slice ca cn cc]), (1, .pointer (some ⟨w.heap.size, 0, none⟩)), (2, .slice none 0 0), (3, .int .i64 0), (4, .int .i64 (chkE f)), (5, .slice ra8 rn8 rc8), (11, .bool false), (17, .bool ((rn8 : Int) == 0))] := F.sub _ (by kernel_rfl)
    refine X.thenN ?_
    cases h10 : ((rn8 : Int) == 0) with
    | false =>
      try rw [h10] at F
      have h10p : ¬ (rn8 : Int) = 0 := by simpa using h10
      have hz0 : 0 < (allV f).length := by omega
      have HE : newE f = 0 := by unfold newE; rw [if_pos HE0, if_neg (by omega)]
      refine Y.condF (F.ev 17 (.bool false) (by kernel_rfl)) ?_
      refine Y.skip ?_
      refine X.thenN ?_
      refine Y.seq ?_
      refine Y.lit (by kernel_rfl) ?_
      refine Y.pval F (X.w0 rfl) rfl (X.move rfl (F.ev 5 (.slice ra8 rn8 rc8) (by kernel_rfl))) ?_
      clear F ac
      intro ac F
      obtain ⟨pd11, pa11, rn11, pq11, pe11, -, pc11, pi11⟩ := hR8.at (j := 0) (by omega)
      subst pe11
      replace hC : RCells w9 [(⟨w.heap.size, 0, none⟩, .slice ta tn tc), (⟨w.heap.size, 1, none⟩, .slice ca cn cc), (pd11.add 0, .slice pa11 rn11 pq11)] := hC.append ((RCells.cons pc11 (RCells.nil _)))
      clear pc11
      refine Y.pval F (X.w0 rfl) rfl (X.index rfl (F.ev 18 (.slice (some pd11) rn8 rc8) (by kernel_rfl)) (X.kc (.int .i64 0) rfl) (X.idx (k := 0) Try.underlying22 (Try.siz26 _) (by omega) (by omega) (by rw [Nat.mul_one]))) ?_
      clear F ac
      intro ac F
      refine Y.pval F (X.w0 rfl) rfl (X.load rfl (F.ev 19 (.pointer (some (pd11.add 0))) (by kernel_rfl)) (X.ld1 (Try.agg26 _) (hC.at 2 rfl))) ?_
      clear F ac
      intro ac F
      refine Y.pval F (X.w0 rfl) rfl (X.assign rfl (F.ev 20 (.slice pa11 rn11 pq11) (by kernel_rfl))) ?_
      clear F ac
      intro ac F
      refine Y.nil ?_
      replace F : Fr ac 40 [(0, .agg #[.slice ta tn tc, .slice ca cn cc]), (1, .pointer (some ⟨w.heap.size, 0, none⟩)), (2, .slice none 0 0), (3, .int .i64 0), (4, .int .i64 (chkE f)), (5, .slice (some pd11) rn8 rc8), (6, .slice pa11 rn11 pq11), (11, .bool false), (17, .bool false)] := F.sub _ (by kernel_rfl)
      refine X.thenN ?_
      refine Y.seq ?_
      refine Y.seq ?_
      refine Y.lit (by kernel_rfl) ?_
      refine Y.pval F (X.w0 rfl) rfl (X.assign rfl (X.kc (.int .i64 0) rfl)) ?_
      clear F ac
      intro ac F
      refine Y.nil ?_
      replace F : Fr ac 40 [(0, .agg #[.slice ta tn tc, .slice ca cn cc]), (1, .pointer (some ⟨w.heap.size, 0, none⟩)), (2, .slice none 0 0), (3, .int .i64 0), (4, .int .i64 (chkE f)), (5, .slice (some pd11) rn8 rc8), (6, .slice pa11 rn11 pq11), (7, .int .i64 0), (11, .bool false), (17, .bool false)] := F.sub _ (by kernel_rfl)
      refine X.thenN ?_
      refine Y.block ?_
      have hfB := hf
      have hR8B := hR8
      have pi11B := pi11
      have hCB := hC
      have GB := G
      refine Y.loop (fun me_ ac wr => ∃ (k : Nat) (ba : Option Addr) (bn bc : Nat), me_ = rn8 - k ∧ Gr w9 wr ∧ k ≤ rn8 ∧ Ints wr ba bn (pk2 (allV f) k) ∧ Fr ac 40 [(0, .agg #[.slice ta tn tc, .slice ca cn cc]), (1, .pointer (some ⟨w.heap.size, 0, none⟩)), (2, .slice none 0 0), (3, .int .i64 0), (4, .int .i64 (chkE f)), (5, .slice (some pd11) rn8 rc8), (6, .slice ba bn bc), (7, .int .i64 k), (11, .bool false), (17, .bool false)]) _ ⟨0, pa11, rn11, pq11, rfl, Gr.refl _, Nat.zero_le _, pi11, F.sub _ (by kernel_rfl)⟩ ?_
      clear F
      intro me_ ac w12 hI
      obtain ⟨k, ba, bn, bc, rfl, gr, hk, hb, F⟩ := hI
      replace G := GB.trans gr
      replace hC := hCB.gr gr
      replace hf := hfB.gr gr
      replace hR8 := hR8B.gr gr
      replace pi11 := pi11B.gr gr
      have GB_ := gr
      clear gr
      refine Y.seq ?_
      refine Y.seq ?_
      refine Y.lit (by kernel_rfl) ?_
      refine Y.pval F (X.w0 rfl) rfl (X.move rfl (F.ev 7 (.int .i64 k) (by kernel_rfl))) ?_
      clear F ac
      intro ac F
      refine Y.pval F (X.w0 rfl) rfl (X.move rfl (F.ev 5 (.slice (some pd11) rn8 rc8) (by kernel_rfl))) ?_
      clear F ac
      intro ac F
      refine Y.pval F (X.w0 rfl) rfl (X.len1 Try.underlying22 rfl (F.ev 22 (.slice (some pd11) rn8 rc8) (by kernel_rfl))) ?_
      clear F ac
      intro ac F
      refine Y.pval F (X.w0 rfl) rfl (X.binop rfl (F.ev 21 (.int .i64 k) (by kernel_rfl)) (F.ev 23 (.int .i64 rn8) (by kernel_rfl)) (X.lssI Try.underlying3 rfl)) ?_
      clear F ac
      intro ac F
      refine Y.nil ?_
      replace F : Fr ac 40 [(0, .agg #[.slice ta tn tc, .slice ca cn cc]), (1, .pointer (some ⟨w.heap.size, 0, none⟩)), (2, .slice none 0 0), (3, .int .i64 0), (4, .int .i64 (chkE f)), (5, .slice (some pd11) rn8 rc8), (6, .slice ba bn bc), (7, .int .i64 k), (11, .bool false), (17, .bool false), (24, .bool (decide ((k : Int) < rn8)))] := F.sub _ (by kernel_rfl)
      refine X.thenN ?_
      cases h13 : decide ((k : Int) < rn8) with
      | false =>
        try rw [h13] at F
        have h13p : ¬ ((k : Int) < rn8) := of_decide_eq_false h13
        obtain rfl : rn8 = k := by omega
        refine Y.condF (F.ev 24 (.bool false) (by kernel_rfl)) ?_
        refine Y.exit ?_
        refine X.thenX ?_
        refine X.thenX ?_
        refine X.blockX ?_
        refine X.thenN ?_
        refine Y.seq ?_
        refine Y.lit (by kernel_rfl) ?_
        refine Y.pval F (X.w0 rfl) rfl (X.move rfl (F.ev 6 (.slice ba bn bc) (by kernel_rfl))) ?_
        clear F ac
        intro ac F
        refine Y.pval F (X.w0 rfl) rfl (X.assign rfl (F.ev 39 (.slice ba bn bc) (by kernel_rfl))) ?_
        clear F ac
        intro ac F
        refine Y.pval F (X.w0 rfl) rfl (X.assign rfl (X.kc (.int .i64 0) rfl)) ?_
        clear F ac
        intro ac F
        refine Y.nil ?_
        replace F : Fr ac 40 [(0, .agg #[.slice ta tn tc, .slice ca cn cc]), (1, .pointer (some ⟨w.heap.size, 0, none⟩)), (2, .slice ba bn bc), (3, .int .i64 0), (4, .int .i64 (chkE f)), (5, .slice (some pd11) rn8 rc8), (6, .slice ba bn bc), (7, .int .i64 rn8), (11, .bool false), (17, .bool false), (24, .bool false)] := F.sub _ (by kernel_rfl)
        refine X.thenN ?_
        refine Y.ret ?_
        have HV : newW f = pk2 (allV f) rn8 := by unfold newW; rw [if_pos HE0, ← pk2_all, hlR]
        exact Y.ret0 (v := .tuple #[.slice ba bn bc, .int .i64 0]) F (Y.rs2 F rfl (by kernel_rfl) (by kernel_rfl)) ⟨ba, bn, bc, by rw [HE], by rw [HV]; exact hb, G⟩
      | true =>
        try rw [h13] at F
        have h13p : ((k : Int) < rn8) := of_decide_eq_true h13
        have hkl : k < (allV f).length := by omega
        have hk0 : k < rn8 := by omega
        have HX : StOk f ((allV f)[k]?.getD []) := (allV_ok (all_at hkl)).1
        have HB : StOk f (pk2 (allV f) k) := (allV_ok (pk2_mem hz0 k)).1
        refine Y.condT (F.ev 24 (.bool true) (by kernel_rfl)) ?_
        refine Y.skip ?_
        refine X.thenN ?_
        refine Y.seq ?_
        refine Y.block ?_
        refine Y.seq ?_
        refine Y.lit (by kernel_rfl) ?_
        refine Y.pval F (X.w0 rfl) rfl (X.move rfl (F.ev 5 (.slice (some pd11) rn8 rc8) (by kernel_rfl))) ?_
        clear F ac
        intro ac F
        refine Y.pval F (X.w0 rfl) rfl (X.move rfl (F.ev 7 (.int .i64 k) (by kernel_rfl))) ?_
        clear F ac
        intro ac F
        obtain ⟨pd14, pa14, rn14, pq14, pe14, -, pc14, pi14⟩ := hR8.at (j := k) (by omega)
        injection pe14 with pe14
        subst pe14
        replace hC : RCells w12 [(⟨w.heap.size, 0, none⟩, .slice ta tn tc), (⟨w.heap.size, 1, none⟩, .slice ca cn cc), (pd11.add 0, .slice pa11 rn11 pq11), (pd11.add k, .slice pa14 rn14 pq14)] := hC.append ((RCells.cons pc14 (RCells.nil _)))
        clear pc14
        refine Y.pval F (X.w0 rfl) rfl (X.index rfl (F.ev 27 (.slice (some pd11) rn8 rc8) (by kernel_rfl)) (F.ev 28 (.int .i64 k) (by kernel_rfl)) (X.idx (k := k) Try.underlying22 (Try.siz26 _) (by omega) (by omega) (by rw [Nat.mul_one]))) ?_
        clear F ac
        intro ac F
        refine Y.pval F (X.w0 rfl) rfl (X.load rfl (F.ev 29 (.pointer (some (pd11.add k))) (by kernel_rfl)) (X.ld1 (Try.agg26 _) (hC.at 3 rfl))) ?_
        clear F ac
        intro ac F
        refine Y.pcall F (X.w0 rfl) rfl (X.enter (F := 86) rfl (X.kc (.func (.func 86) #[] #[]) rfl) (X.a1 (F.ev 30 (.slice pa14 rn14 pq14) (by kernel_rfl))) (enters_of Try.func86 (by kernel_rfl) rfl _)) (sum2_any pa14 rn14 pq14 ((allV f)[k]?.getD []) w12 pi14 (st_n6 hok HX pi14) (st_b3 hok HX)) ?_
        clear F ac
        rintro e w16 ⟨rfl, g⟩
        refine ⟨_, rfl, ?_⟩
        intro ac F
        replace G := G.trans g
        replace hC := hC.gr g
        replace GB_ := GB_.trans g
        replace hf := hf.gr g
        replace hR8 := hR8.gr g
        replace pi11 := pi11.gr g
        replace hb := hb.gr g
        replace pi14 := pi14.gr g
        clear g
        refine Y.pval F (X.w0 rfl) rfl (X.move rfl (F.ev 6 (.slice ba bn bc) (by kernel_rfl))) ?_
        clear F ac
        intro ac F
        refine Y.pcall F (X.w0 rfl) rfl (X.enter (F := 86) rfl (X.kc (.func (.func 86) #[] #[]) rfl) (X.a1 (F.ev 32 (.slice ba bn bc) (by kernel_rfl))) (enters_of Try.func86 (by kernel_rfl) rfl _)) (sum2_any ba bn bc (pk2 (allV f) k) w16 hb (st_n6 hok HB hb) (st_b3 hok HB)) ?_
        clear F ac
        rintro e w18 ⟨rfl, g⟩
        refine ⟨_, rfl, ?_⟩
        intro ac F
        replace G := G.trans g
        replace hC := hC.gr g
        replace GB_ := GB_.trans g
        replace hf := hf.gr g
        replace hR8 := hR8.gr g
        replace pi11 := pi11.gr g
        replace hb := hb.gr g
        replace pi14 := pi14.gr g
        clear g
        refine Y.pval F (X.w0 rfl) rfl (X.binop rfl (F.ev 31 (.int .i64 (sumV ((allV f)[k]?.getD []))) (by kernel_rfl)) (F.ev 33 (.int .i64 (sumV (pk2 (allV f) k))) (by kernel_rfl)) (X.geqI Try.underlying3 rfl)) ?_
        clear F ac
        intro ac F
        refine Y.nil ?_
        replace F : Fr ac 40 [(0, .agg #[.slice ta tn tc, .slice ca cn cc]), (1, .pointer (some ⟨w.heap.size, 0, none⟩)), (2, .slice none 0 0), (3, .int .i64 0), (4, .int .i64 (chkE f)), (5, .slice (some pd11) rn8 rc8), (6, .slice ba bn bc), (7, .int .i64 k), (11, .bool false), (17, .bool false), (24, .bool true), (34, .bool (decide ((sumV (pk2 (allV f) k) : Int) ≤ (sumV ((allV f)[k]?.getD [])))))] := F.sub _ (by kernel_rfl)
        refine X.thenN ?_
        cases h19 : decide ((sumV (pk2 (allV f) k) : Int) ≤ (sumV ((allV f)[k]?.getD []))) with
        | false =>
          try rw [h19] at F
          have h19p : ¬ ((sumV (pk2 (allV f) k) : Int) ≤ (sumV ((allV f)[k]?.getD []))) := of_decide_eq_false h19
          have hpk : pk2 (allV f) (k + 1) = pk2 (allV f) k := by rw [pk2_succ hkl]; exact if_neg h19p
          refine Y.condF (F.ev 34 (.bool false) (by kernel_rfl)) ?_
          refine Y.skip ?_
          refine X.blockN ?_
          refine X.thenN ?_
          refine Y.lit (by kernel_rfl) ?_
          refine Y.pval F (X.w0 rfl) rfl (X.move rfl (F.ev 7 (.int .i64 k) (by kernel_rfl))) ?_
          clear F ac
          intro ac F
          refine Y.pval F (X.w0 rfl) rfl (X.binop rfl (F.ev 25 (.int .i64 k) (by kernel_rfl)) (X.kc (.int .i64 1) rfl) (X.addI Try.underlying3 rfl (by omega) (by omega))) ?_
          clear F ac
          intro ac F
          refine Y.pval F (X.w0 rfl) rfl (X.assign rfl (F.ev 26 (.int .i64 ((k : Int) + 1)) (by kernel_rfl))) ?_
          clear F ac
          intro ac F
          refine Y.nil ?_
          replace F : Fr ac 40 [(0, .agg #[.slice ta tn tc, .slice ca cn cc]), (1, .pointer (some ⟨w.heap.size, 0, none⟩)), (2, .slice none 0 0), (3, .int .i64 0), (4, .int .i64 (chkE f)), (5, .slice (some pd11) rn8 rc8), (6, .slice ba bn bc), (7, .int .i64 ((k : Int) + 1)), (11, .bool false), (17, .bool false), (24, .bool true), (34, .bool false)] := F.sub _ (by kernel_rfl)
          refine X.thenN ?_
          refine ⟨_, ?_, k + 1, ba, bn, bc, rfl, GB_, by omega, by rw [hpk]; exact hb, F.sub _ (by kernel_rfl)⟩
          omega
        | true =>
          try rw [h19] at F
          have h19p : ((sumV (pk2 (allV f) k) : Int) ≤ (sumV ((allV f)[k]?.getD []))) := of_decide_eq_true h19
          have hpk : pk2 (allV f) (k + 1) = (allV f)[k]?.getD [] := by rw [pk2_succ hkl]; exact if_pos h19p
          refine Y.condT (F.ev 34 (.bool true) (by kernel_rfl)) ?_
          refine Y.lit (by kernel_rfl) ?_
          refine Y.pval F (X.w0 rfl) rfl (X.move rfl (F.ev 5 (.slice (some pd11) rn8 rc8) (by kernel_rfl))) ?_
          clear F ac
          intro ac F
          refine Y.pval F (X.w0 rfl) rfl (X.move rfl (F.ev 7 (.int .i64 k) (by kernel_rfl))) ?_
          clear F ac
          intro ac F
          refine Y.pval F (X.w0 rfl) rfl (X.index rfl (F.ev 35 (.slice (some pd11) rn8 rc8) (by kernel_rfl)) (F.ev 36 (.int .i64 k) (by kernel_rfl)) (X.idx (k := k) Try.underlying22 (Try.siz26 _) (by omega) (by omega) (by rw [Nat.mul_one]))) ?_
          clear F ac
          intro ac F
          refine Y.pval F (X.w0 rfl) rfl (X.load rfl (F.ev 37 (.pointer (some (pd11.add k))) (by kernel_rfl)) (X.ld1 (Try.agg26 _) (hC.at 3 rfl))) ?_
          clear F ac
          intro ac F
          refine Y.pval F (X.w0 rfl) rfl (X.assign rfl (F.ev 38 (.slice pa14 rn14 pq14) (by kernel_rfl))) ?_
          clear F ac
          intro ac F
          refine Y.nil ?_
          replace F : Fr ac 40 [(0, .agg #[.slice ta tn tc, .slice ca cn cc]), (1, .pointer (some ⟨w.heap.size, 0, none⟩)), (2, .slice none 0 0), (3, .int .i64 0), (4, .int .i64 (chkE f)), (5, .slice (some pd11) rn8 rc8), (6, .slice pa14 rn14 pq14), (7, .int .i64 k), (11, .bool false), (17, .bool false), (24, .bool true), (34, .bool true)] := F.sub _ (by kernel_rfl)
          refine X.blockN ?_
          refine X.thenN ?_
          refine Y.lit (by kernel_rfl) ?_
          refine Y.pval F (X.w0 rfl) rfl (X.move rfl (F.ev 7 (.int .i64 k) (by kernel_rfl))) ?_
          clear F ac
          intro ac F
          refine Y.pval F (X.w0 rfl) rfl (X.binop rfl (F.ev 25 (.int .i64 k) (by kernel_rfl)) (X.kc (.int .i64 1) rfl) (X.addI Try.underlying3 rfl (by omega) (by omega))) ?_
          clear F ac
          intro ac F
          refine Y.pval F (X.w0 rfl) rfl (X.assign rfl (F.ev 26 (.int .i64 ((k : Int) + 1)) (by kernel_rfl))) ?_
          clear F ac
          intro ac F
          refine Y.nil ?_
          replace F : Fr ac 40 [(0, .agg #[.slice ta tn tc, .slice ca cn cc]), (1, .pointer (some ⟨w.heap.size, 0, none⟩)), (2, .slice none 0 0), (3, .int .i64 0), (4, .int .i64 (chkE f)), (5, .slice (some pd11) rn8 rc8), (6, .slice pa14 rn14 pq14), (7, .int .i64 ((k : Int) + 1)), (11, .bool false), (17, .bool false), (24, .bool true), (34, .bool true)] := F.sub _ (by kernel_rfl)
          refine X.thenN ?_
          refine ⟨_, ?_, k + 1, pa14, rn14, pq14, rfl, GB_, by omega, by rw [hpk]; exact pi14, F.sub _ (by kernel_rfl)⟩
          omega
    | true =>
      try rw [h10] at F
      have h10p : (rn8 : Int) = 0 := by simpa using h10
      have hz0 : (allV f).length = 0 := by omega
      have HV : newW f = [] := by unfold newW; rw [if_pos HE0, List.eq_nil_of_length_eq_zero hz0]; rfl
      have HE : newE f = 3 := by unfold newE; rw [if_pos HE0, if_pos hz0]
      refine Y.condT (F.ev 17 (.bool true) (by kernel_rfl)) ?_
      refine Y.seq ?_
      refine Y.lit (by kernel_rfl) ?_
      refine Y.pval F (X.w0 rfl) rfl (X.assign rfl (X.kc (.slice none 0 0) rfl)) ?_
      clear F ac
      intro ac F
      refine Y.pval F (X.w0 rfl) rfl (X.assign rfl (X.kc (.int .i64 3) rfl)) ?_
      clear F ac
      intro ac F
      refine Y.nil ?_
      replace F : Fr ac 40 [(0, .agg #[.slice ta tn tc, .slice ca cn cc]), (1, .pointer (some ⟨w.heap.size, 0, none⟩)), (2, .slice none 0 0), (3, .int .i64 3), (4, .int .i64 (chkE f)), (5, .slice ra8 rn8 rc8), (11, .bool false), (17, .bool true)] := F.sub _ (by kernel_rfl)
      refine X.thenN ?_
      refine Y.ret ?_
      refine X.thenR ?_
      exact Y.ret0 F (Y.rs2 F rfl (by kernel_rfl) (by kernel_rfl)) ⟨none, 0, 0, by rw [HE], by rw [HV]; exact Ints.nil _, G⟩
  | true =>
    try rw [h6] at F
    have h6p : ¬ (chkE f : Int) = 0 := by simpa using h6
    have HV : newW f = [] := if_neg h6p
    have HE : newE f = chkE f := if_neg h6p
    refine Y.condT (F.ev 11 (.bool true) (by kernel_rfl)) ?_
    refine Y.seq ?_
    refine Y.lit (by kernel_rfl) ?_
    refine Y.pval F (X.w0 rfl) rfl (X.move rfl (F.ev 4 (.int .i64 (chkE f)) (by kernel_rfl))) ?_
    clear F ac
    intro ac F
    refine Y.pval F (X.w0 rfl) rfl (X.assign rfl (X.kc (.slice none 0 0) rfl)) ?_
    clear F ac
    intro ac F
    refine Y.pval F (X.w0 rfl) rfl (X.assign rfl (F.ev 12 (.int .i64 (chkE f)) (by kernel_rfl))) ?_
    clear F ac
    intro ac F
    refine Y.nil ?_
    replace F : Fr ac 40 [(0, .agg #[.slice ta tn tc, .slice ca cn cc]), (1, .pointer (some ⟨w.heap.size, 0, none⟩)), (2, .slice none 0 0), (3, .int .i64 (chkE f)), (4, .int .i64 (chkE f)), (11, .bool true)] := F.sub _ (by kernel_rfl)
    refine X.thenN ?_
    refine Y.ret ?_
    refine X.thenR ?_
    exact Y.ret0 F (Y.rs2 F rfl (by kernel_rfl) (by kernel_rfl)) ⟨none, 0, 0, by rw [HE], by rw [HV]; exact Ints.nil _, G⟩

set_option maxRecDepth 100000 in
set_option maxHeartbeats 400000 in
theorem Newest_any (ta ca : Option Addr) (tn tc cn cc : Nat) (f : Fl) (w : World) (hf : FlAt w ta tn ca cn f) :
    Calls Try.prog 42 #[.agg #[.slice ta tn tc, .slice ca cn cc]] w fun e w' => ∃ a n c, e = .returned (.tuple #[.slice a n c, .int .i64 (newE f)]) ∧ Ints w' a n (newW f) ∧ Gr w w' := by
  have hf0 := hf
  have hl : f.times.length = tn := hf.t.len
  have G := Gr.refl w
  refine Y.calls 37 Try.func42 rfl rfl ?_
  intro ac F0
  have F : Fr ac 37 [(0, .agg #[.slice ta tn tc, .slice ca cn cc])] := F0.sub _ (by kernel_rfl)
  clear F0
  refine Y.seq ?_
  refine Y.lit (by kernel_rfl) ?_
  refine Y.pval F (X.w0 rfl) rfl (X.box rfl (F.ev 0 (.agg #[.slice ta tn tc, .slice ca cn cc]) (by kernel_rfl)) X.bx) ?_
  clear F ac
  intro ac F
  have g := Gr.alloc w (.cells #[.slice ta tn tc, .slice ca cn cc] 25)
  have hb := heap_alloc_new w (.cells #[.slice ta tn tc, .slice ca cn cc] 25)
  have hbl : w.heap.size < (w.alloc (.cells #[.slice ta tn tc, .slice ca cn cc] 25)).heap.size := by simp
  have hC2 : RCells (w.alloc (.cells #[.slice ta tn tc, .slice ca cn cc] 25)) [(⟨w.heap.size, 0, none⟩, .slice ta tn tc), (⟨w.heap.size, 1, none⟩, .slice ca cn cc)] := (RCells.nil w).box (b := w.heap.size) #[.slice ta tn tc, .slice ca cn cc] 25 rfl
  generalize w.alloc (.cells #[.slice ta tn tc, .slice ca cn cc] 25) = w3 at *
  replace G := G.trans g
  have hC := hC2
  clear hC2
  replace hf := hf.gr g
  clear g hb hbl
  refine Y.pval F (X.w0 rfl) rfl (Y.al rfl (Try.new26 _)) ?_
  clear F ac
  intro ac F
  have hge := G.size
  have g := Gr.alloc w3 (.cells #[.slice none 0 0] 26)
  have hb := heap_alloc_new w3 (.cells #[.slice none 0 0] 26)
  have hbl : w3.heap.size < (w3.alloc (.cells #[.slice none 0 0] 26)).heap.size := by simp
  have hC2 : RCells (w3.alloc (.cells #[.slice none 0 0] 26)) [(⟨w.heap.size, 0, none⟩, .slice ta tn tc), (⟨w.heap.size, 1, none⟩, .slice ca cn cc), (⟨w3.heap.size, 0, none⟩, .slice none 0 0)] := hC.box (b := w3.heap.size) #[.slice none 0 0] 26 rfl
  generalize w3.alloc (.cells #[.slice none 0 0] 26) = w4 at *
  replace G := G.trans g
  replace hC := hC2
  clear hC2
  replace hf := hf.gr g
  have hz := Y.Fz.new hb
  clear g hb hbl
  refine Y.pval F (X.w0 rfl) rfl (X.assign rfl (X.kc (.int .i64 0) rfl)) ?_
  clear F ac
  intro ac F
  refine Y.nil ?_
  replace F : Fr ac 37 [(0, .agg #[.slice ta tn tc, .slice ca cn cc]), (1, .pointer (some ⟨w.heap.size, 0, none⟩)), (2, .pointer (some ⟨w3.heap.size, 0, none⟩)), (3, .int .i64 0)] := F.sub _ (by kernel_rfl)
  refine X.thenN ?_
  refine Y.seq ?_
  refine Y.seq ?_
  refine Y.lit (by kernel_rfl) ?_
  refine Y.pval F (X.w0 rfl) rfl (X.load rfl (F.ev 1 (.pointer (some ⟨w.heap.size, 0, none⟩)) (by kernel_rfl)) (X.ldN (Try.agg25 _) (Try.siz25 _) (X.c2 (hC.at 0 rfl) (hC.at 1 rfl)))) ?_
  clear F ac
  intro ac F
  refine Y.pcall F (X.w0 rfl) rfl (X.enter (F := 36) rfl (X.kc (.func (.func 36) #[] #[]) rfl) (X.a1 (F.ev 6 (.agg #[.slice ta tn tc, .slice ca cn cc]) (by kernel_rfl))) (enters_of Try.func36 (by kernel_rfl) rfl _)) (check_any ta ca tn tc cn cc f w4 hf) ?_
  clear F ac
  rintro e w6 ⟨rfl, g⟩
  refine ⟨_, rfl, ?_⟩
  intro ac F
  replace G := G.trans g
  replace hC := hC.gr g
  replace hf := hf.gr g
  replace hz := hz.gr g
  clear g
  refine Y.pval F (X.w0 rfl) rfl (X.assign rfl (F.ev 7 (.int .i64 (chkE f)) (by kernel_rfl))) ?_
  clear F ac
  intro ac F
  refine Y.nil ?_
  replace F : Fr ac 37 [(0, .agg #[.slice ta tn tc, .slice ca cn cc]), (1, .pointer (some ⟨w.heap.size, 0, none⟩)), (2, .pointer (some ⟨w3.heap.size, 0, none⟩)), (3, .int .i64 0), (4, .int .i64 (chkE f))] := F.sub _ (by kernel_rfl)
  refine X.thenN ?_
  refine Y.seq ?_
  refine Y.lit (by kernel_rfl) ?_
  refine Y.pval F (X.w0 rfl) rfl (X.move rfl (F.ev 4 (.int .i64 (chkE f)) (by kernel_rfl))) ?_
  clear F ac
  intro ac F
  refine Y.pval F (X.w0 rfl) rfl (X.binop rfl (F.ev 8 (.int .i64 (chkE f)) (by kernel_rfl)) (X.kc (.int .i64 0) rfl) (X.neqI Try.underlying31 rfl)) ?_
  clear F ac
  intro ac F
  refine Y.nil ?_
  replace F : Fr ac 37 [(0, .agg #[.slice ta tn tc, .slice ca cn cc]), (1, .pointer (some ⟨w.heap.size, 0, none⟩)), (2, .pointer (some ⟨w3.heap.size, 0, none⟩)), (3, .int .i64 0), (4, .int .i64 (chkE f)), (9, .bool ((chkE f : Int) != 0))] := F.sub _ (by kernel_rfl)
  refine X.thenN ?_
  cases h7 : ((chkE f : Int) != 0) with
  | false =>
    try rw [h7] at F
    have h7p : (chkE f : Int) = 0 := by simpa using h7
    have hok : FlOk f := chkB_ok (chkE_zero h7p)
    have HE0 : chkE f = 0 := h7p
    refine Y.condF (F.ev 9 (.bool false) (by kernel_rfl)) ?_
    refine Y.skip ?_
    refine X.thenN ?_
    refine Y.seq ?_
    refine Y.seq ?_
    have hbB := hz.1
    refine Y.region F [some (.agg #[.slice ta tn tc, .slice ca cn cc]), some (.agg #[.slice ta tn tc, .slice ca cn cc]), none, some (.agg #[.slice ta tn tc, .slice ca cn cc]), none, none] [(2, Y.MP.intsF w6.heap.size tn (zeros f)), (4, Y.MP.intsF w6.heap.size tn (newestV f)), (5, Y.MP.iter w6.heap.size ta tn tc ca cn cc tn (zeros f) (newestV f) (Y.New w6.heap.size) (Y.New w6.heap.size))] rfl ⟨by kernel_rfl, of_decide_eq_true (by kernel_rfl), by kernel_rfl, by kernel_rfl, by kernel_rfl⟩ ⟨?_, ?_, ?_, ?_, ?_, ?_, trivial⟩ ?_
    · intro ac done u W Sx hR
      have g : Gr w6 W := hR.1
      exact X.val (X.w0 rfl) rfl (X.load rfl (Sx.ev 1 (.pointer (some ⟨w.heap.size, 0, none⟩)) (by kernel_rfl)) (X.ldN (Try.agg25 _) (Try.siz25 _) (X.c2 ((hC.gr g).at 0 rfl) ((hC.gr g).at 1 rfl)))) (hR.step (Gr.refl _) rfl)
    · intro ac done u W Sx hR
      have g : Gr w6 W := hR.1
      exact X.val (X.w0 rfl) rfl (X.load rfl (Sx.ev 1 (.pointer (some ⟨w.heap.size, 0, none⟩)) (by kernel_rfl)) (X.ldN (Try.agg25 _) (Try.siz25 _) (X.c2 ((hC.gr g).at 0 rfl) ((hC.gr g).at 1 rfl)))) (hR.step (Gr.refl _) rfl)
    · intro ac done u W Sx hR
      have g : Gr w6 W := hR.1
      refine X.call (X.w0 rfl) (X.enter (F := 79) rfl (X.kc (.func (.func 79) #[] #[]) rfl) (X.a1 (Sx.ev 12 (.agg #[.slice ta tn tc, .slice ca cn cc]) (by kernel_rfl))) (enters_of Try.func79 (by kernel_rfl) rfl _)) (oldest_any w6.heap.size ta ca tn tc cn cc f W hok (hf.gr g) g.size) ?_
      rintro e W2 ⟨v, rfl, hp, g2⟩
      exact ⟨_, rfl, X.un rfl, hR.new (q := Y.MP.intsF w6.heap.size tn (zeros f)) g2 rfl hp⟩
    · intro ac done u W Sx hR
      have g : Gr w6 W := hR.1
      exact X.val (X.w0 rfl) rfl (X.load rfl (Sx.ev 1 (.pointer (some ⟨w.heap.size, 0, none⟩)) (by kernel_rfl)) (X.ldN (Try.agg25 _) (Try.siz25 _) (X.c2 ((hC.gr g).at 0 rfl) ((hC.gr g).at 1 rfl)))) (hR.step (Gr.refl _) rfl)
    · intro ac done u W Sx hR
      have g : Gr w6 W := hR.1
      refine X.call (X.w0 rfl) (X.enter (F := 80) rfl (X.kc (.func (.func 80) #[] #[]) rfl) (X.a1 (Sx.ev 14 (.agg #[.slice ta tn tc, .slice ca cn cc]) (by kernel_rfl))) (enters_of Try.func80 (by kernel_rfl) rfl _)) (newest_any w6.heap.size ta ca tn tc cn cc f W hok (hf.gr g) g.size) ?_
      rintro e W2 ⟨v, rfl, hp, g2⟩
      exact ⟨_, rfl, X.un rfl, hR.new (q := Y.MP.intsF w6.heap.size tn (newestV f)) g2 rfl hp⟩
    · intro ac done u W Sx hR
      have g : Gr w6 W := hR.1
      obtain ⟨ra8, rc8, e2, hI8, hN8⟩ := hR.get (i := 2) (Y.MP.intsF w6.heap.size tn (zeros f)) rfl (Sx.an 2 (by kernel_rfl))
      obtain ⟨ra9, rc9, e4, hI9, hN9⟩ := hR.get (i := 4) (Y.MP.intsF w6.heap.size tn (newestV f)) rfl (Sx.an 4 (by kernel_rfl))
      refine X.call (X.w0 rfl) (X.enter (F := 59) rfl (X.kc (.func (.func 59) #[] #[]) rfl) (X.a3 (Sx.ev 11 (.agg #[.slice ta tn tc, .slice ca cn cc]) (by kernel_rfl)) ((Sx.own 2 13 rfl).trans e2) ((Sx.own 4 15 rfl).trans e4)) (enters_of Try.func59 (by kernel_rfl) rfl _)) (Y.states_iter w6.heap.size (Y.New w6.heap.size) (Y.New w6.heap.size) ta ca ra8 ra9 tn tc cn cc tn rc8 rc9 (zeros f) (newestV f) W hI8 hI9 hN8 hN9 g.size) ?_
      rintro e W2 ⟨v, rfl, hp, g2⟩
      exact ⟨_, rfl, X.un rfl, hR.new (q := Y.MP.iter w6.heap.size ta tn tc ca cn cc tn (zeros f) (newestV f) (Y.New w6.heap.size) (Y.New w6.heap.size)) g2 rfl hp⟩
    intro ac u w11 hs hd hl ho hR
    have g : Gr w6 w11 := hR.1
    obtain ⟨ra8, rc8, e2, hI8, hN8⟩ := hR.get (i := 2) (Y.MP.intsF w6.heap.size tn (zeros f)) rfl rfl
    obtain ⟨ra9, rc9, e4, hI9, hN9⟩ := hR.get (i := 4) (Y.MP.intsF w6.heap.size tn (newestV f)) rfl rfl
    obtain ⟨ir10, il10, it10, ia10, ic10, ja10, jc10, e5, i010, i110, i210, i310, il410, il510, iN10, jN10, ib110, ib210, ib310⟩ := hR.get (i := 5) (Y.MP.iter w6.heap.size ta tn tc ca cn cc tn (zeros f) (newestV f) (Y.New w6.heap.size) (Y.New w6.heap.size)) rfl rfl
    replace F : Fr ac 37 [(0, .agg #[.slice ta tn tc, .slice ca cn cc]), (1, .pointer (some ⟨w.heap.size, 0, none⟩)), (2, .pointer (some ⟨w3.heap.size, 0, none⟩)), (3, .int .i64 0), (4, .int .i64 (chkE f)), (9, .bool false)] := X.fr hs hd hl _ (by kernel_rfl)
    replace F := F.add (ho 5 16 rfl) e5
    replace F : Fr ac 37 [(0, .agg #[.slice ta tn tc, .slice ca cn cc]), (1, .pointer (some ⟨w.heap.size, 0, none⟩)), (2, .pointer (some ⟨w3.heap.size, 0, none⟩)), (3, .int .i64 0), (4, .int .i64 (chkE f)), (9, .bool false), (16, .func (.func 90) #[] #[.pointer (some ⟨ir10, 0, none⟩), .pointer (some ⟨il10, 0, none⟩), .pointer (some ⟨it10, 0, none⟩)])] := F.sub _ (by kernel_rfl)
    clear e2 e4 e5
    clear hs hd hl ho hR
    replace G := G.trans g
    replace hC := hC.gr g
    replace hf := hf.gr g
    replace hz := hz.gr g
    clear g
    refine X.thenN ?_
    refine Y.block ?_
    have hbt : w3.heap.size < w11.heap.size := lt_cell (hC.at 2 rfl)
    have hSB := Y.sbase_all hok hf0 G (bn := w3.heap.size) hge hbB hl il410 iN10 il510 jN10
    have hRC : Y.RC w11 w3.heap.size (.slice none 0 0) w11 := ⟨Only.refl _ _, hbt, hC.at 2 rfl, hz.2⟩
    replace F : Fr ac 37 [(0, .agg #[.slice ta tn tc, .slice ca cn cc]), (1, .pointer (some ⟨w.heap.size, 0, none⟩)), (2, .pointer (some ⟨w3.heap.size, 0, none⟩)), (3, .int .i64 0), (4, .int .i64 (chkE f)), (9, .bool false), (16, .func (.func 90) #[] #[.pointer (some ⟨ir10, 0, none⟩), .pointer (some ⟨il10, 0, none⟩), .pointer (some ⟨it10, 0, none⟩)])] := F.sub _ (by kernel_rfl)
    refine Y.range1 (wB := w11) (S := fun b => b = w3.heap.size ∨ w11.heap.size ≤ b) (Y := fun b => b = w3.heap.size) (f := f) (lo := zeros f) (hi := newestV f) (d := 5) F (by decide) (by decide) rfl rfl rfl (F.ev 16 _ (by kernel_rfl)) hSB (Only.refl _ _) (fun b h => .inl h) (fun b (h : b = w3.heap.size) => by omega) i210 i010 i110 i310 (by omega) (by omega) (by omega) (NI w11 w3.heap.size tn) ⟨_, hRC, rfl⟩ (fun xs W W2 h g => h.keep g) ?_ ?_
    · have GA := G
      clear F ac G hC hRC
      intro pre x ad c w12 ac hI _ hx hax _ hmem hsx hwx F
      obtain ⟨rest, hall⟩ := hmem
      have hlen := allV_len hok
      rw [allV_enum0 hl, hall, List.length_append, List.length_cons] at hlen
      have G := Gr.refl w12
      replace F : Fr ac 37 [(0, .agg #[.slice ta tn tc, .slice ca cn cc]), (1, .pointer (some ⟨w.heap.size, 0, none⟩)), (2, .pointer (some ⟨w3.heap.size, 0, none⟩)), (3, .int .i64 0), (4, .int .i64 (chkE f)), (5, .slice (some ad) tn c), (9, .bool false), (16, .func (.func 90) #[] #[.pointer (some ⟨ir10, 0, none⟩), .pointer (some ⟨il10, 0, none⟩), .pointer (some ⟨it10, 0, none⟩)]), (17, .slice (some ad) tn c)] := F.sub _ (by kernel_rfl)
      obtain ⟨v0, hI, hV⟩ := hI
      cases hB : new1 pre with
      | none =>
        rw [hB] at hV
        obtain rfl : v0 = .slice none 0 0 := hV
        have hC : RCells w12 [(⟨w3.heap.size, 0, none⟩, .slice none 0 0)] := RCells.cons hI.c (RCells.nil _)
        refine Y.block ?_
        refine Y.seq ?_
        refine Y.region F [some (.slice none 0 0), some (.bool true), some (.bool true), none, none, none, none, none, none, none, none, none, none, none, some (.bool true)] [] rfl ⟨by kernel_rfl, of_decide_eq_true (by kernel_rfl), by kernel_rfl, by kernel_rfl, by kernel_rfl⟩ ⟨?_, ?_, ?_, ?_, ?_, ?_, ?_, ?_, ?_, ?_, ?_, ?_, ?_, ?_, ?_, trivial⟩ ?_
        · intro ac done u W Sx hR
          have g : Gr w12 W := hR.1
          exact X.val (X.w0 rfl) rfl (X.load rfl (Sx.ev 2 (.pointer (some ⟨w3.heap.size, 0, none⟩)) (by kernel_rfl)) (X.ld1 (Try.agg26 _) ((hC.gr g).at 0 rfl))) (hR.step (Gr.refl _) rfl)
        · intro ac done u W Sx hR
          have g : Gr w12 W := hR.1
          exact X.val (X.w0 rfl) rfl (X.binop rfl (Sx.ev 18 (.slice none 0 0) (by kernel_rfl)) (X.kc (.slice none 0 0) rfl) (Y.nilT Try.underlying26)) (hR.step (Gr.refl _) rfl)
        · intro ac done u W Sx hR
          have g : Gr w12 W := hR.1
          exact X.val (X.w0 rfl) rfl (X.move rfl (Sx.ev 19 (.bool true) (by kernel_rfl))) (hR.step (Gr.refl _) rfl)
        · intro ac done u W Sx hR
          have g : Gr w12 W := hR.1
          exact X.skip (X.w2 rfl (Sx.yl 2 20 true (by kernel_rfl) rfl rfl) rfl) rfl (hR.skip rfl)
        · intro ac done u W Sx hR
          have g : Gr w12 W := hR.1
          exact X.skip (X.w2 rfl (Sx.yl 2 20 true (by kernel_rfl) rfl rfl) rfl) rfl (hR.skip rfl)
        · intro ac done u W Sx hR
          have g : Gr w12 W := hR.1
          exact X.skip (X.w2 rfl (Sx.yl 2 20 true (by kernel_rfl) rfl rfl) rfl) rfl (hR.skip rfl)
        · intro ac done u W Sx hR
          have g : Gr w12 W := hR.1
          exact X.skip (X.w2 rfl (Sx.yl 2 20 true (by kernel_rfl) rfl rfl) rfl) rfl (hR.skip rfl)
        · intro ac done u W Sx hR
          have g : Gr w12 W := hR.1
          exact X.skip (X.w2 rfl (Sx.yl 2 20 true (by kernel_rfl) rfl rfl) rfl) rfl (hR.skip rfl)
        · intro ac done u W Sx hR
          have g : Gr w12 W := hR.1
          exact X.skip (X.w2 rfl (Sx.yl 2 20 true (by kernel_rfl) rfl rfl) rfl) rfl (hR.skip rfl)
        · intro ac done u W Sx hR
          have g : Gr w12 W := hR.1
          exact X.skip (X.w2 rfl (Sx.yl 2 20 true (by kernel_rfl) rfl rfl) rfl) rfl (hR.skip rfl)
        · intro ac done u W Sx hR
          have g : Gr w12 W := hR.1
          exact X.skip (X.w2 rfl (Sx.yl 2 20 true (by kernel_rfl) rfl rfl) rfl) rfl (hR.skip rfl)
        · intro ac done u W Sx hR
          have g : Gr w12 W := hR.1
          exact X.skip (X.w2 rfl (Sx.yl 2 20 true (by kernel_rfl) rfl rfl) rfl) rfl (hR.skip rfl)
        · intro ac done u W Sx hR
          have g : Gr w12 W := hR.1
          exact X.skip (X.w2 rfl (Sx.yl 2 20 true (by kernel_rfl) rfl rfl) rfl) rfl (hR.skip rfl)
        · intro ac done u W Sx hR
          have g : Gr w12 W := hR.1
          exact X.skip (X.w2 rfl (Sx.yl 2 20 true (by kernel_rfl) rfl rfl) rfl) rfl (hR.skip rfl)
        · intro ac done u W Sx hR
          have g : Gr w12 W := hR.1
          exact X.val (X.w0 rfl) rfl (X.pickT rfl (Sx.ev 20 (.bool true) (by kernel_rfl)) (X.kc (.bool true) rfl)) (hR.step (Gr.refl _) rfl)
        intro ac u w13 hs hd hl ho hR
        have g : Gr w12 w13 := hR.1
        replace F : Fr ac 37 [(0, .agg #[.slice ta tn tc, .slice ca cn cc]), (1, .pointer (some ⟨w.heap.size, 0, none⟩)), (2, .pointer (some ⟨w3.heap.size, 0, none⟩)), (3, .int .i64 0), (4, .int .i64 (chkE f)), (5, .slice (some ad) tn c), (9, .bool false), (16, .func (.func 90) #[] #[.pointer (some ⟨ir10, 0, none⟩), .pointer (some ⟨il10, 0, none⟩), .pointer (some ⟨it10, 0, none⟩)]), (17, .slice (some ad) tn c), (32, .bool true)] := X.fr hs hd hl _ (by kernel_rfl)
        clear hs hd hl ho hR
        replace G := G.trans g
        replace hC := hC.gr g
        replace hx := hx.gr g
        clear g
        refine X.thenN ?_
        refine Y.condT (F.ev 32 (.bool true) (by kernel_rfl)) ?_
        refine Y.lit (by kernel_rfl) ?_
        refine Y.pval F (X.w0 rfl) rfl (X.move rfl (F.ev 5 (.slice (some ad) tn c) (by kernel_rfl))) ?_
        clear F ac
        intro ac F
        refine Y.punit F (X.w0 rfl) rfl (X.store rfl (F.ev 2 (.pointer (some ⟨w3.heap.size, 0, none⟩)) (by kernel_rfl)) (F.ev 33 (.slice (some ad) tn c) (by kernel_rfl)) (Y.st1 (Try.siz26 _) rfl rfl (hI.gr G).c (hI.gr G).fz)) ?_
        clear F ac
        intro ac F
        refine Y.nil ?_
        replace F : Fr ac 37 [(0, .agg #[.slice ta tn tc, .slice ca cn cc]), (1, .pointer (some ⟨w.heap.size, 0, none⟩)), (2, .pointer (some ⟨w3.heap.size, 0, none⟩)), (3, .int .i64 0), (4, .int .i64 (chkE f)), (5, .slice (some ad) tn c), (9, .bool false), (16, .func (.func 90) #[] #[.pointer (some ⟨ir10, 0, none⟩), .pointer (some ⟨il10, 0, none⟩), .pointer (some ⟨it10, 0, none⟩)]), (17, .slice (some ad) tn c), (32, .bool true)] := F.sub _ (by kernel_rfl)
        refine X.blockN ?_
        have hne : ¬ ad.block = w3.heap.size := by have := hI.lt; omega
        exact ⟨Y.RC.setOnly (hI.gr G) G _, _, (hI.gr G).set _, by rw [new1_snoc, hB]; simp only [pick1]; exact ⟨ad, c, rfl, hx.onlyAt (Y.RC.setOnly (hI.gr G) (Gr.refl _) _) (fun ad2 e => by injection e with e; subst e; exact hne), hax⟩⟩
      | some b =>
        rw [hB] at hV
        obtain ⟨bd, bc, rfl, hbI, hbk⟩ := hV
        have HB : StOk f b := (allV_ok (by rw [allV_enum0 hl, hall]; simp [new1_mem hB])).1
        have hC : RCells w12 [(⟨w3.heap.size, 0, none⟩, .slice (some bd) tn bc)] := RCells.cons hI.c (RCells.nil _)
        refine Y.block ?_
        refine Y.seq ?_
        refine Y.region F [some (.slice (some bd) tn bc), some (.bool false), some (.bool false), some (.slice (some ad) tn c), some (.int .i64 (sumV x)), some (.slice (some bd) tn bc), some (.int .i64 (sumV b)), some (.int .i64 (cmpI (sumV x) (sumV b))), some (.slice (some ad) tn c), some (.slice (some bd) tn bc), some (.int .i64 (cmpL x b)), none, some (.int .i64 (orI (cmpI (sumV x) (sumV b)) (cmpL x b))), some (.bool (decide ((0 : Int) < (orI (cmpI (sumV x) (sumV b)) (cmpL x b))))), some (.bool (decide ((0 : Int) < (orI (cmpI (sumV x) (sumV b)) (cmpL x b)))))] [(11, Y.MP.two (cmpI (sumV x) (sumV b)) (cmpL x b))] rfl ⟨by kernel_rfl, of_decide_eq_true (by kernel_rfl), by kernel_rfl, by kernel_rfl, by kernel_rfl⟩ ⟨?_, ?_, ?_, ?_, ?_, ?_, ?_, ?_, ?_, ?_, ?_, ?_, ?_, ?_, ?_, trivial⟩ ?_
        · intro ac done u W Sx hR
          have g : Gr w12 W := hR.1
          exact X.val (X.w0 rfl) rfl (X.load rfl (Sx.ev 2 (.pointer (some ⟨w3.heap.size, 0, none⟩)) (by kernel_rfl)) (X.ld1 (Try.agg26 _) ((hC.gr g).at 0 rfl))) (hR.step (Gr.refl _) rfl)
        · intro ac done u W Sx hR
          have g : Gr w12 W := hR.1
          exact X.val (X.w0 rfl) rfl (X.binop rfl (Sx.ev 18 (.slice (some bd) tn bc) (by kernel_rfl)) (X.kc (.slice none 0 0) rfl) (Y.nilF Try.underlying26)) (hR.step (Gr.refl _) rfl)
        · intro ac done u W Sx hR
          have g : Gr w12 W := hR.1
          exact X.val (X.w0 rfl) rfl (X.move rfl (Sx.ev 19 (.bool false) (by kernel_rfl))) (hR.step (Gr.refl _) rfl)
        · intro ac done u W Sx hR
          have g : Gr w12 W := hR.1
          exact X.val (X.w1 rfl (Sx.yl 2 20 false (by kernel_rfl) rfl rfl)) rfl (X.move rfl (Sx.ev 5 (.slice (some ad) tn c) (by kernel_rfl))) (hR.step (Gr.refl _) rfl)
        · intro ac done u W Sx hR
          have g : Gr w12 W := hR.1
          refine X.call (X.w1 rfl (Sx.yl 2 20 false (by kernel_rfl) rfl rfl)) (X.enter (F := 84) rfl (X.kc (.func (.func 84) #[] #[]) rfl) (X.a1 (Sx.ev 21 (.slice (some ad) tn c) (by kernel_rfl))) (enters_of Try.func84 (by kernel_rfl) rfl _)) (sum_any (some ad) tn c x W (hx.gr g) (st_n6 hok hsx (hx.gr g)) (st_b3 hok hsx)) ?_
          rintro e W2 ⟨rfl, g2⟩
          exact ⟨_, rfl, X.kn rfl, hR.step g2 rfl⟩
        · intro ac done u W Sx hR
          have g : Gr w12 W := hR.1
          exact X.val (X.w1 rfl (Sx.yl 2 20 false (by kernel_rfl) rfl rfl)) rfl (X.load rfl (Sx.ev 2 (.pointer (some ⟨w3.heap.size, 0, none⟩)) (by kernel_rfl)) (X.ld1 (Try.agg26 _) ((hC.gr g).at 0 rfl))) (hR.step (Gr.refl _) rfl)
        · intro ac done u W Sx hR
          have g : Gr w12 W := hR.1
          refine X.call (X.w1 rfl (Sx.yl 2 20 false (by kernel_rfl) rfl rfl)) (X.enter (F := 84) rfl (X.kc (.func (.func 84) #[] #[]) rfl) (X.a1 (Sx.ev 23 (.slice (some bd) tn bc) (by kernel_rfl))) (enters_of Try.func84 (by kernel_rfl) rfl _)) (sum_any (some bd) tn bc b W (hbI.gr g) (st_n6 hok HB (hbI.gr g)) (st_b3 hok HB)) ?_
          rintro e W2 ⟨rfl, g2⟩
          exact ⟨_, rfl, X.kn rfl, hR.step g2 rfl⟩
        · intro ac done u W Sx hR
          have g : Gr w12 W := hR.1
          refine X.call (X.w1 rfl (Sx.yl 2 20 false (by kernel_rfl) rfl rfl)) (X.enter (F := 83) rfl (X.kc (.func (.func 83) #[] #[]) rfl) (X.a2 (Sx.ev 22 (.int .i64 (sumV x)) (by kernel_rfl)) (Sx.ev 24 (.int .i64 (sumV b)) (by kernel_rfl))) (enters_of Try.func83 (by kernel_rfl) rfl _)) (compare_any (sumV x) (sumV b) W) ?_
          rintro e W2 ⟨rfl, rfl⟩
          exact ⟨_, rfl, X.kn rfl, hR.step (Gr.refl _) rfl⟩
        · intro ac done u W Sx hR
          have g : Gr w12 W := hR.1
          exact X.val (X.w1 rfl (Sx.yl 2 20 false (by kernel_rfl) rfl rfl)) rfl (X.move rfl (Sx.ev 5 (.slice (some ad) tn c) (by kernel_rfl))) (hR.step (Gr.refl _) rfl)
        · intro ac done u W Sx hR
          have g : Gr w12 W := hR.1
          exact X.val (X.w1 rfl (Sx.yl 2 20 false (by kernel_rfl) rfl rfl)) rfl (X.load rfl (Sx.ev 2 (.pointer (some ⟨w3.heap.size, 0, none⟩)) (by kernel_rfl)) (X.ld1 (Try.agg26 _) ((hC.gr g).at 0 rfl))) (hR.step (Gr.refl _) rfl)
        · intro ac done u W Sx hR
          have g : Gr w12 W := hR.1
          refine X.call (X.w1 rfl (Sx.yl 2 20 false (by kernel_rfl) rfl rfl)) (X.enter (F := 85) rfl (X.kc (.func (.func 85) #[] #[]) rfl) (X.a2 (Sx.ev 26 (.slice (some ad) tn c) (by kernel_rfl)) (Sx.ev 27 (.slice (some bd) tn bc) (by kernel_rfl))) (enters_of Try.func85 (by kernel_rfl) rfl _)) (cmpL_any (some ad) (some bd) tn c tn bc x b W (hx.gr g) (hbI.gr g)) ?_
          rintro e W2 ⟨rfl, g2⟩
          exact ⟨_, rfl, X.kn rfl, hR.step g2 rfl⟩
        · intro ac done u W Sx hR
          have g : Gr w12 W := hR.1
          have hb := heap_alloc_new W (.cells #[.int .i64 (cmpI (sumV x) (sumV b)), .int .i64 (cmpL x b)] 3)
          exact X.valN (X.w1 rfl (Sx.yl 2 20 false (by kernel_rfl) rfl rfl)) rfl (X.bs rfl (X.b2 (Sx.ev 25 (.int .i64 (cmpI (sumV x) (sumV b))) (by kernel_rfl)) (Sx.ev 28 (.int .i64 (cmpL x b)) (by kernel_rfl))) (Try.bs26b _ _ _)) (hR.new (q := Y.MP.two (cmpI (sumV x) (sumV b)) (cmpL x b)) (Gr.alloc _ _) rfl ⟨_, rfl, cell_new rfl, cell_new rfl⟩)
        · intro ac done u W Sx hR
          have g : Gr w12 W := hR.1
          obtain ⟨nb18, e11, nx18, ny18⟩ := hR.get (i := 11) (Y.MP.two (cmpI (sumV x) (sumV b)) (cmpL x b)) rfl (Sx.an 11 (by kernel_rfl))
          refine X.call (X.w1 rfl (Sx.yl 2 20 false (by kernel_rfl) rfl rfl)) (X.enter (F := 82) rfl (X.kc (.func (.func 82) #[] #[]) rfl) (X.a1 ((Sx.own 11 29 rfl).trans e11)) (enters_of Try.func82 (by kernel_rfl) rfl _)) (or_any ⟨nb18, 0, none⟩ 2 (cmpI (sumV x) (sumV b)) (cmpL x b) W nx18 ny18) ?_
          rintro e W2 ⟨rfl, rfl⟩
          exact ⟨_, rfl, X.kn rfl, hR.step (Gr.refl _) rfl⟩
        · intro ac done u W Sx hR
          have g : Gr w12 W := hR.1
          exact X.val (X.w1 rfl (Sx.yl 2 20 false (by kernel_rfl) rfl rfl)) rfl (X.binop rfl (Sx.ev 30 (.int .i64 (orI (cmpI (sumV x) (sumV b)) (cmpL x b))) (by kernel_rfl)) (X.kc (.int .i64 0) rfl) (X.gtrI Try.underlying3 rfl)) (hR.step (Gr.refl _) rfl)
        · intro ac done u W Sx hR
          have g : Gr w12 W := hR.1
          exact X.val (X.w0 rfl) rfl (X.pickF rfl (Sx.ev 20 (.bool false) (by kernel_rfl)) (Sx.ev 31 (.bool (decide ((0 : Int) < (orI (cmpI (sumV x) (sumV b)) (cmpL x b))))) (by kernel_rfl))) (hR.step (Gr.refl _) rfl)
        intro ac u w20 hs hd hl ho hR
        have g : Gr w12 w20 := hR.1
        obtain ⟨nb18, e11, nx18, ny18⟩ := hR.get (i := 11) (Y.MP.two (cmpI (sumV x) (sumV b)) (cmpL x b)) rfl rfl
        replace F : Fr ac 37 [(0, .agg #[.slice ta tn tc, .slice ca cn cc]), (1, .pointer (some ⟨w.heap.size, 0, none⟩)), (2, .pointer (some ⟨w3.heap.size, 0, none⟩)), (3, .int .i64 0), (4, .int .i64 (chkE f)), (5, .slice (some ad) tn c), (9, .bool false), (16, .func (.func 90) #[] #[.pointer (some ⟨ir10, 0, none⟩), .pointer (some ⟨il10, 0, none⟩), .pointer (some ⟨it10, 0, none⟩)]), (17, .slice (some ad) tn c), (32, .bool (decide ((0 : Int) < (orI (cmpI (sumV x) (sumV b)) (cmpL x b)))))] := X.fr hs hd hl _ (by kernel_rfl)
        replace F : Fr ac 37 [(0, .agg #[.slice ta tn tc, .slice ca cn cc]), (1, .pointer (some ⟨w.heap.size, 0, none⟩)), (2, .pointer (some ⟨w3.heap.size, 0, none⟩)), (3, .int .i64 0), (4, .int .i64 (chkE f)), (5, .slice (some ad) tn c), (9, .bool false), (16, .func (.func 90) #[] #[.pointer (some ⟨ir10, 0, none⟩), .pointer (some ⟨il10, 0, none⟩), .pointer (some ⟨it10, 0, none⟩)]), (17, .slice (some ad) tn c), (32, .bool (decide ((0 : Int) < (orI (cmpI (sumV x) (sumV b)) (cmpL x b)))))] := F.sub _ (by kernel_rfl)
        clear e11
        clear hs hd hl ho hR
        replace G := G.trans g
        replace hC := hC.gr g
        replace hx := hx.gr g
        replace hbI := hbI.gr g
        clear g
        refine X.thenN ?_
        cases h21 : decide ((0 : Int) < (orI (cmpI (sumV x) (sumV b)) (cmpL x b))) with
        | false =>
          try rw [h21] at F
          have h21p : ¬ ((0 : Int) < (orI (cmpI (sumV x) (sumV b)) (cmpL x b))) := of_decide_eq_false h21
          refine Y.condF (F.ev 32 (.bool false) (by kernel_rfl)) ?_
          refine Y.skip ?_
          refine X.blockN ?_
          exact ⟨G.only _, _, hI.gr G, by rw [new1_snoc, hB]; simp only [pick1, if_neg h21p]; exact ⟨bd, bc, rfl, hbI, hbk⟩⟩
        | true =>
          try rw [h21] at F
          have h21p : ((0 : Int) < (orI (cmpI (sumV x) (sumV b)) (cmpL x b))) := of_decide_eq_true h21
          refine Y.condT (F.ev 32 (.bool true) (by kernel_rfl)) ?_
          refine Y.lit (by kernel_rfl) ?_
          refine Y.pval F (X.w0 rfl) rfl (X.move rfl (F.ev 5 (.slice (some ad) tn c) (by kernel_rfl))) ?_
          clear F ac
          intro ac F
          refine Y.punit F (X.w0 rfl) rfl (X.store rfl (F.ev 2 (.pointer (some ⟨w3.heap.size, 0, none⟩)) (by kernel_rfl)) (F.ev 33 (.slice (some ad) tn c) (by kernel_rfl)) (Y.st1 (Try.siz26 _) rfl rfl (hI.gr G).c (hI.gr G).fz)) ?_
          clear F ac
          intro ac F
          refine Y.nil ?_
          replace F : Fr ac 37 [(0, .agg #[.slice ta tn tc, .slice ca cn cc]), (1, .pointer (some ⟨w.heap.size, 0, none⟩)), (2, .pointer (some ⟨w3.heap.size, 0, none⟩)), (3, .int .i64 0), (4, .int .i64 (chkE f)), (5, .slice (some ad) tn c), (9, .bool false), (16, .func (.func 90) #[] #[.pointer (some ⟨ir10, 0, none⟩), .pointer (some ⟨il10, 0, none⟩), .pointer (some ⟨it10, 0, none⟩)]), (17, .slice (some ad) tn c), (32, .bool true)] := F.sub _ (by kernel_rfl)
          refine X.blockN ?_
          have hne : ¬ ad.block = w3.heap.size := by have := hI.lt; omega
          exact ⟨Y.RC.setOnly (hI.gr G) G _, _, (hI.gr G).set _, by rw [new1_snoc, hB]; simp only [pick1, if_pos h21p]; exact ⟨ad, c, rfl, hx.onlyAt (Y.RC.setOnly (hI.gr G) (Gr.refl _) _) (fun ad2 e => by injection e with e; subst e; exact hne), hax⟩⟩
    have GA := G
    clear F ac
    intro w22 ac hI hk F
    rw [← allV_enum0 hl] at hI
    obtain ⟨v0, hI, hV⟩ := hI
    rw [new_same (allV_asc f)] at hV
    have hM : Y.RM w11 _ _ w22 := ⟨hI, hk⟩
    clear hI hk
    have hI := hM
    clear hM
    by_cases hz0 : (allV f).length = 0
    · rw [if_pos hz0] at hV
      obtain rfl : v0 = .slice none 0 0 := hV
      have HV : newW f = [] := by unfold newW; rw [if_pos HE0, List.eq_nil_of_length_eq_zero hz0]; rfl
      have HE : newE f = 3 := by unfold newE; rw [if_pos HE0, if_pos hz0]
      have hC : RCells w22 [(⟨w3.heap.size, 0, none⟩, .slice none 0 0)] := RCells.cons hI.rc.c (RCells.nil _)
      refine X.blockN ?_
      refine X.thenN ?_
      refine Y.seq ?_
      refine Y.seq ?_
      refine Y.lit (by kernel_rfl) ?_
      refine Y.pval F (X.w0 rfl) rfl (X.load rfl (F.ev 2 (.pointer (some ⟨w3.heap.size, 0, none⟩)) (by kernel_rfl)) (X.ld1 (Try.agg26 _) (hC.at 0 rfl))) ?_
      clear F ac
      intro ac F
      refine Y.pval F (X.w0 rfl) rfl (X.binop rfl (F.ev 34 (.slice none 0 0) (by kernel_rfl)) (X.kc (.slice none 0 0) rfl) (Y.nilT Try.underlying26)) ?_
      clear F ac
      intro ac F
      refine Y.nil ?_
      replace F : Fr ac 37 [(0, .agg #[.slice ta tn tc, .slice ca cn cc]), (1, .pointer (some ⟨w.heap.size, 0, none⟩)), (2, .pointer (some ⟨w3.heap.size, 0, none⟩)), (3, .int .i64 0), (4, .int .i64 (chkE f)), (9, .bool false), (16, .func (.func 90) #[] #[.pointer (some ⟨ir10, 0, none⟩), .pointer (some ⟨il10, 0, none⟩), .pointer (some ⟨it10, 0, none⟩)]), (35, .bool true)] [{ target := .collected w11.heap.size, args := #[] }] := F.sub _ (by kernel_rfl)
      refine X.thenN ?_
      refine Y.condT (F.ev 35 (.bool true) (by kernel_rfl)) ?_
      refine Y.seq ?_
      refine Y.lit (by kernel_rfl) ?_
      refine Y.punit F (X.w0 rfl) rfl (X.store rfl (F.ev 2 (.pointer (some ⟨w3.heap.size, 0, none⟩)) (by kernel_rfl)) (X.kc (.slice none 0 0) rfl) (Y.st1 (Try.siz26 _) rfl rfl hI.rc.c hI.rc.fz)) ?_
      clear F ac
      intro ac F
      replace hI := hI.set (.slice none 0 0)
      generalize w22.setCell _ _ = w23 at *
      refine Y.pval F (X.w0 rfl) rfl (X.assign rfl (X.kc (.int .i64 3) rfl)) ?_
      clear F ac
      intro ac F
      refine Y.nil ?_
      replace F : Fr ac 37 [(0, .agg #[.slice ta tn tc, .slice ca cn cc]), (1, .pointer (some ⟨w.heap.size, 0, none⟩)), (2, .pointer (some ⟨w3.heap.size, 0, none⟩)), (3, .int .i64 3), (4, .int .i64 (chkE f)), (9, .bool false), (16, .func (.func 90) #[] #[.pointer (some ⟨ir10, 0, none⟩), .pointer (some ⟨il10, 0, none⟩), .pointer (some ⟨it10, 0, none⟩)]), (35, .bool true)] [{ target := .collected w11.heap.size, args := #[] }] := F.sub _ (by kernel_rfl)
      refine X.thenN ?_
      refine Y.ret ?_
      refine X.thenR ?_
      exact hI.ret F rfl (fun _ => Try.agg26 _) (by kernel_rfl) (by kernel_rfl) (fun W2 h2 ho => ⟨none, 0, 0, by rw [HE], by rw [HV]; exact Ints.nil _, h2.grow GA hge⟩)
    · rw [if_neg hz0] at hV
      obtain ⟨bd, bc, rfl, hbI, hbk⟩ := hV
      have HV : newW f = new2 (allV f) := if_pos HE0
      have HE : newE f = 0 := by unfold newE; rw [if_pos HE0, if_neg hz0]
      have hC : RCells w22 [(⟨w3.heap.size, 0, none⟩, .slice (some bd) tn bc)] := RCells.cons hI.rc.c (RCells.nil _)
      refine X.blockN ?_
      refine X.thenN ?_
      refine Y.seq ?_
      refine Y.seq ?_
      refine Y.lit (by kernel_rfl) ?_
      refine Y.pval F (X.w0 rfl) rfl (X.load rfl (F.ev 2 (.pointer (some ⟨w3.heap.size, 0, none⟩)) (by kernel_rfl)) (X.ld1 (Try.agg26 _) (hC.at 0 rfl))) ?_
      clear F ac
      intro ac F
      refine Y.pval F (X.w0 rfl) rfl (X.binop rfl (F.ev 34 (.slice (some bd) tn bc) (by kernel_rfl)) (X.kc (.slice none 0 0) rfl) (Y.nilF Try.underlying26)) ?_
      clear F ac
      intro ac F
      refine Y.nil ?_
      replace F : Fr ac 37 [(0, .agg #[.slice ta tn tc, .slice ca cn cc]), (1, .pointer (some ⟨w.heap.size, 0, none⟩)), (2, .pointer (some ⟨w3.heap.size, 0, none⟩)), (3, .int .i64 0), (4, .int .i64 (chkE f)), (9, .bool false), (16, .func (.func 90) #[] #[.pointer (some ⟨ir10, 0, none⟩), .pointer (some ⟨il10, 0, none⟩), .pointer (some ⟨it10, 0, none⟩)]), (35, .bool false)] [{ target := .collected w11.heap.size, args := #[] }] := F.sub _ (by kernel_rfl)
      refine X.thenN ?_
      refine Y.condF (F.ev 35 (.bool false) (by kernel_rfl)) ?_
      refine Y.skip ?_
      refine X.thenN ?_
      refine Y.seq ?_
      refine Y.lit (by kernel_rfl) ?_
      refine Y.pval F (X.w0 rfl) rfl (X.load rfl (F.ev 2 (.pointer (some ⟨w3.heap.size, 0, none⟩)) (by kernel_rfl)) (X.ld1 (Try.agg26 _) (hC.at 0 rfl))) ?_
      clear F ac
      intro ac F
      refine Y.punit F (X.w0 rfl) rfl (X.store rfl (F.ev 2 (.pointer (some ⟨w3.heap.size, 0, none⟩)) (by kernel_rfl)) (F.ev 36 (.slice (some bd) tn bc) (by kernel_rfl)) (Y.st1 (Try.siz26 _) rfl rfl hI.rc.c hI.rc.fz)) ?_
      clear F ac
      intro ac F
      have hbI2 := hbI.onlyAt (Y.RC.setOnly hI.rc (Gr.refl _) (.slice (some bd) tn bc)) (fun ad e => by injection e with e; subst e; have := hI.rc.lt; omega)
      replace hI := hI.set (.slice (some bd) tn bc)
      generalize w22.setCell _ _ = w24 at *
      refine Y.pval F (X.w0 rfl) rfl (X.assign rfl (X.kc (.int .i64 0) rfl)) ?_
      clear F ac
      intro ac F
      refine Y.nil ?_
      replace F : Fr ac 37 [(0, .agg #[.slice ta tn tc, .slice ca cn cc]), (1, .pointer (some ⟨w.heap.size, 0, none⟩)), (2, .pointer (some ⟨w3.heap.size, 0, none⟩)), (3, .int .i64 0), (4, .int .i64 (chkE f)), (9, .bool false), (16, .func (.func 90) #[] #[.pointer (some ⟨ir10, 0, none⟩), .pointer (some ⟨il10, 0, none⟩), .pointer (some ⟨it10, 0, none⟩)]), (35, .bool false)] [{ target := .collected w11.heap.size, args := #[] }] := F.sub _ (by kernel_rfl)
      refine X.thenN ?_
      refine Y.ret ?_
      exact hI.ret F rfl (fun _ => Try.agg26 _) (by kernel_rfl) (by kernel_rfl) (fun W2 h2 ho => ⟨_, _, _, by rw [HE], by rw [HV]; exact hbI2.onlyAt ho (fun ad e => by injection e with e; subst e; omega), h2.grow GA hge⟩)
  | true =>
    try rw [h7] at F
    have h7p : ¬ (chkE f : Int) = 0 := by simpa using h7
    have HV : newW f = [] := if_neg h7p
    have HE : newE f = chkE f := if_neg h7p
    refine Y.condT (F.ev 9 (.bool true) (by kernel_rfl)) ?_
    refine Y.seq ?_
    refine Y.lit (by kernel_rfl) ?_
    refine Y.pval F (X.w0 rfl) rfl (X.move rfl (F.ev 4 (.int .i64 (chkE f)) (by kernel_rfl))) ?_
    clear F ac
    intro ac F
    refine Y.punit F (X.w0 rfl) rfl (X.store rfl (F.ev 2 (.pointer (some ⟨w3.heap.size, 0, none⟩)) (by kernel_rfl)) (X.kc (.slice none 0 0) rfl) (Y.st1 (Try.siz26 _) rfl rfl (hC.at 2 rfl) hz.2)) ?_
    clear F ac
    intro ac F
    replace G := G.setCell (p := ⟨w3.heap.size, 0, none⟩) hge (.slice none 0 0)
    have hcv : (w6.setCell ⟨w3.heap.size, 0, none⟩ (.slice none 0 0)).cell? ⟨w3.heap.size, 0, none⟩ = some (.slice none 0 0) := by have := hC.at 2 rfl; simp [go_sem, this]
    clear hC hz
    generalize w6.setCell ⟨w3.heap.size, 0, none⟩ (.slice none 0 0) = w25 at *
    refine Y.pval F (X.w0 rfl) rfl (X.assign rfl (F.ev 10 (.int .i64 (chkE f)) (by kernel_rfl))) ?_
    clear F ac
    intro ac F
    refine Y.nil ?_
    replace F : Fr ac 37 [(0, .agg #[.slice ta tn tc, .slice ca cn cc]), (1, .pointer (some ⟨w.heap.size, 0, none⟩)), (2, .pointer (some ⟨w3.heap.size, 0, none⟩)), (3, .int .i64 (chkE f)), (4, .int .i64 (chkE f)), (9, .bool true)] := F.sub _ (by kernel_rfl)
    refine X.thenN ?_
    refine Y.ret ?_
    refine X.thenR ?_
    exact Y.ret0 F (Y.rc2 F rfl (Try.agg26 _) (by kernel_rfl) hcv (by kernel_rfl)) ⟨none, 0, 0, by rw [HE], by rw [HV]; exact Ints.nil _, G⟩
end Go.Proofs.Ytlilojpnhmfnaaa
