/- Contract: SleepBounded returns true. -/
import Derived.Test.YtoalamakhjbedaaBd10
import Derived.Test.YtoalamakhjbedaaBd15
namespace Go.Proofs.Ytoalamakhjbedaa
open Go.RowKit

def MP.nus (L : List (List Int)) : Y.MP := ⟨fun v W => ∃ a n c, v = .slice a n c ∧ StAt W 4 a n L, fun _ _ _ ⟨a, n, c, h, k⟩ g => ⟨a, n, c, h, k.gr g⟩⟩
def MP.play (X Y_ : List Int) (E : Int) : Y.MP := ⟨fun v W => ∃ a1 a2 a3 b1 b2 b3, v = .tuple #[.slice a1 a2 a3, .slice b1 b2 b3, .int .i64 E] ∧ Ints W a1 a2 X ∧ Ints W b1 b2 Y_, fun _ _ _ ⟨a1, a2, a3, b1, b2, b3, h, k, l⟩ g => ⟨a1, a2, a3, b1, b2, b3, h, k.gr g, l.gr g⟩⟩
def MP.intsA (X : List Int) : Y.MP := ⟨fun v W => ∃ a n c, v = .slice a n c ∧ Ints W a n X, fun _ _ _ ⟨a, n, c, h, k⟩ g => ⟨a, n, c, h, k.gr g⟩⟩
theorem without_mp (la : Option Addr) (m lc : Nat) (k : Int) (l : List (List Int)) (w : World) (hl : StAt w 4 la m l) (hm9 : m ≤ 500000) : Calls Try.prog 31 #[.slice la m lc, .int .i64 k] w fun e w' => ∃ v, e = .returned v ∧ (MP.nus (withoutL l k)).p v w' ∧ Gr w w' :=
  (without_any la m lc k l w hl hm9).mono (fun e w' h => by obtain ⟨a, n, c, h1, h2, h3⟩ := h; exact ⟨_, h1, ⟨a, n, c, rfl, h2⟩, h3⟩)
theorem play_mp (na la : Option Addr) (n nc m lc : Nat) (gr hold t : Int) (nd l : List (List Int)) (w : World) (hnd : StAt w 5 na n nd) (hl : StAt w 4 la m l) : Calls Try.prog 18 #[.agg #[.int .i64 gr, .int .i64 hold, .slice na n nc], .int .i64 t, .slice la m lc] w fun e w' => ∃ v, e = .returned v ∧ (MP.play (playRows gr hold nd t l) (playEn gr hold nd t l) (playE gr hold nd t l)).p v w' ∧ Gr w w' :=
  (play_any na la n nc m lc gr hold t nd l w hnd hl).mono (fun e w' h => by obtain ⟨a1, a2, a3, b1, b2, b3, h1, h2, h3, h4⟩ := h; exact ⟨_, h1, ⟨a1, a2, a3, b1, b2, b3, rfl, h2, h3⟩, h4⟩)
theorem withoutL_noask (l : List (List Int)) : NoAsk (withoutL l 1) := fun x hx => by
  have := (List.mem_filter.1 hx).2
  simpa using this
theorem ticks_of_play {gr hold t : Int} {nd l : List (List Int)} (h : playE gr hold nd t l = 0) : ticksE gr hold nd t = 0 := by
  unfold playE at h
  split at h
  · contradiction
  · rename_i hc; simpa using hc
theorem clu_of_ticks {gr hold t : Int} {nd : List (List Int)} (h : ticksE gr hold nd t = 0) : cluE gr hold nd = 0 := by
  unfold ticksE at h
  split at h
  · contradiction
  · rename_i hc; simpa using hc
theorem ownL_take {D : List Int} {i j : Nat} (h : j < D.length) : ownL (D.take (j + 1)) i = ownL (D.take j) i ++ [[D[j]?.getD 0, 3, (i : Int), 0]] := by
  unfold ownL
  rw [List.take_succ_eq_append_getElem h, List.map_append, List.getElem?_eq_getElem h]
  rfl
theorem own_room (D : List Int) (i j : Nat) : (ownL (D.take j) i).length ≤ D.length := by
  unfold ownL
  rw [List.length_map, List.length_take]
  omega
theorem Y.b012 {ρ : Operand → Value} {x y z : Operand} {v1 v2 v3 : Value} (h1 : ρ x = v1) (h2 : ρ y = v2) (h3 : ρ z = v3) : [(0, x), (1, y), (2, z)].map (fun p : Nat × Operand => (p.1, ρ p.2)) = [(0, v1), (1, v2), (2, v3)] := by simp [h1, h2, h3]
theorem Try.bd33d (a b c : Int) (W : World) : (Instr.build 33 #[(0, .int .i64 a), (1, .int .i64 b), (2, .int .i64 c)]).run Try.prog W = .ok (.agg #[.int .i64 a, .int .i64 b, .int .i64 c, .int .i64 0]) W := by kernel_rfl

set_option maxRecDepth 100000 in
set_option maxHeartbeats 1000000 in
theorem bounded_any (na la : Option Addr) (n nc m lc : Nat) (gr hold t : Int) (nd l : List (List Int)) (w : World) (hnd : StAt w 5 na n nd) (hl : StAt w 4 la m l) :
  Calls Try.prog 11 #[.agg #[.int .i64 gr, .int .i64 hold, .slice na n nc], .int .i64 t, .slice la m lc] w fun e w' => e = .returned (.bool true) ∧ Gr w w' := by
 have G := Gr.refl w
 have hlen := hnd.len
 have hll := hl.len
 have hlt := hnd.lt
 have hlt2 := hl.lt
 refine Y.calls 186 Try.func11 rfl rfl ?_
 intro ac F0
 have F : Fr ac 186 [(0, .agg #[.int .i64 gr, .int .i64 hold, .slice na n nc]), (1, .int .i64 t), (2, .slice la m lc)] := F0.sub _
 clear F0
 refine Y.seq ?_
 refine Y.lit (by kernel_rfl) ?_
 refine Y.pval F (X.w0 rfl) rfl (X.box rfl (F.ev 0 (.agg #[.int .i64 gr, .int .i64 hold, .slice na n nc])) X.bx) ?_
 clear F ac
 intro ac F
 have g := Gr.alloc w (.cells #[.int .i64 gr, .int .i64 hold, .slice na n nc] 24)
 have hb := heap_alloc_new w (.cells #[.int .i64 gr, .int .i64 hold, .slice na n nc] 24)
 have hbl : w.heap.size < (w.alloc (.cells #[.int .i64 gr, .int .i64 hold, .slice na n nc] 24)).heap.size := by simp
 have hC2 : RCells (w.alloc (.cells #[.int .i64 gr, .int .i64 hold, .slice na n nc] 24)) [(⟨w.heap.size, 0, none⟩, .int .i64 gr), (⟨w.heap.size, 1, none⟩, .int .i64 hold), (⟨w.heap.size, 2, none⟩, .slice na n nc)] := (RCells.nil w).box (b := w.heap.size) #[.int .i64 gr, .int .i64 hold, .slice na n nc] 24 rfl
 generalize w.alloc (.cells #[.int .i64 gr, .int .i64 hold, .slice na n nc] 24) = w3 at *
 replace G := G.trans g
 have hC := hC2
 clear hC2
 replace hnd := hnd.gr g
 replace hl := hl.gr g
 clear g hb hbl
 refine Y.pval F (X.w0 rfl) rfl (X.assign rfl (X.kc (.bool false) rfl)) ?_
 clear F ac
 intro ac F
 refine Y.nil ?_
 replace F : Fr ac 186 [(0, .agg #[.int .i64 gr, .int .i64 hold, .slice na n nc]), (1, .int .i64 t), (2, .slice la m lc), (3, .pointer (some ⟨w.heap.size, 0, none⟩)), (6, .bool false)] := F.sub _
 refine X.thenN ?_
 refine Y.seq ?_
 refine Y.seq ?_
 refine Y.lit (by kernel_rfl) ?_
 refine Y.pval F (X.w0 rfl) rfl (X.move rfl (F.ev 1 (.int .i64 t))) ?_
 clear F ac
 intro ac F
 refine Y.pval F (X.w0 rfl) rfl (X.binop rfl (F.ev 23 (.int .i64 t)) (X.kc (.int .i64 100) rfl) (X.gtrI Try.underlying3 rfl)) ?_
 clear F ac
 intro ac F
 refine Y.pval F (X.w0 rfl) rfl (X.move rfl (F.ev 24 (.bool (decide ((100 : Int) < t))))) ?_
 clear F ac
 intro ac F
 cases h4 : decide ((100 : Int) < t) with
 | false =>
  try rw [h4] at F
  have h4p : ¬ ((100 : Int) < t) := of_decide_eq_false h4
  refine Y.pval F (X.w1 rfl (F.yl (j := 2) (d := 25) (b := false) rfl (by kernel_rfl))) rfl (X.move rfl (F.ev 2 (.slice la m lc))) ?_
  clear F ac
  intro ac F
  refine Y.pval F (X.w1 rfl (F.yl (j := 2) (d := 25) (b := false) rfl (by kernel_rfl))) rfl (X.len1 Try.underlying25 rfl (F.ev 26 (.slice la m lc))) ?_
  clear F ac
  intro ac F
  refine Y.pval F (X.w1 rfl (F.yl (j := 2) (d := 25) (b := false) rfl (by kernel_rfl))) rfl (X.binop rfl (F.ev 27 (.int .i64 m)) (X.kc (.int .i64 200) rfl) (X.gtrI Try.underlying3 rfl)) ?_
  clear F ac
  intro ac F
  refine Y.pval F (X.w0 rfl) rfl (X.pickF rfl (F.ev 25 (.bool false)) (F.ev 28 (.bool (decide ((200 : Int) < m))))) ?_
  clear F ac
  intro ac F
  refine Y.nil ?_
  replace F : Fr ac 186 [(0, .agg #[.int .i64 gr, .int .i64 hold, .slice na n nc]), (1, .int .i64 t), (2, .slice la m lc), (3, .pointer (some ⟨w.heap.size, 0, none⟩)), (6, .bool false), (29, .bool (decide ((200 : Int) < m)))] := F.sub _
  refine X.thenN ?_
  cases h5 : decide ((200 : Int) < m) with
  | false =>
   try rw [h5] at F
   have h5p : ¬ ((200 : Int) < m) := of_decide_eq_false h5
   refine Y.condF (F.ev 29 (.bool false)) ?_
   refine Y.skip ?_
   refine X.thenN ?_
   refine Y.seq ?_
   refine Y.region F [some (.agg #[.int .i64 gr, .int .i64 hold, .slice na n nc]), some (.int .i64 t), some (.slice la m lc), none, none, none, none, none, some (.int .i64 (playE gr hold nd t (withoutL l 1))), none, none, some (.int .i64 (playE gr hold nd t (withoutL l 1)))] [(3, MP.nus (withoutL l 1)), (4, MP.play (playRows gr hold nd t (withoutL l 1)) (playEn gr hold nd t (withoutL l 1)) (playE gr hold nd t (withoutL l 1))), (5, MP.play (playRows gr hold nd t (withoutL l 1)) (playEn gr hold nd t (withoutL l 1)) (playE gr hold nd t (withoutL l 1))), (6, MP.intsA (playRows gr hold nd t (withoutL l 1))), (7, MP.intsA (playEn gr hold nd t (withoutL l 1))), (9, MP.intsA (playRows gr hold nd t (withoutL l 1))), (10, MP.intsA (playEn gr hold nd t (withoutL l 1)))] rfl ⟨by kernel_rfl, of_decide_eq_true (by kernel_rfl), by kernel_rfl, by kernel_rfl, by kernel_rfl⟩ ⟨?_, ?_, ?_, ?_, ?_, ?_, ?_, ?_, ?_, ?_, ?_, ?_, trivial⟩ ?_
   ·intro ac done u W Sx hR
    have g : Gr w3 W := hR.1
    exact X.val (X.w0 rfl) rfl (X.load rfl (Sx.ev 3 (.pointer (some ⟨w.heap.size, 0, none⟩))) (X.ldN (Try.agg24 _) (Try.siz24 _) (Y.atz (⟨w.heap.size, 0, none⟩) (Y.AtFrom.cons ((hC.gr g).at 0 rfl) (Y.AtFrom.cons ((hC.gr g).at 1 rfl) (Y.AtFrom.cons ((hC.gr g).at 2 rfl) (Y.AtFrom.nil _ _ _))))))) (hR.step (Gr.refl _) rfl)
   ·intro ac done u W Sx hR
    exact X.val (X.w0 rfl) rfl (X.move rfl (Sx.ev 1 (.int .i64 t))) (hR.step (Gr.refl _) rfl)
   ·intro ac done u W Sx hR
    exact X.val (X.w0 rfl) rfl (X.move rfl (Sx.ev 2 (.slice la m lc))) (hR.step (Gr.refl _) rfl)
   ·intro ac done u W Sx hR
    have g : Gr w3 W := hR.1
    refine X.call (X.w0 rfl) (X.enter (F := 31) rfl (X.kc (.func (.func 31) #[] #[]) rfl) (X.a2 (Sx.ev 34 (.slice la m lc)) (X.kc (.int .i64 1) rfl)) (enters_of Try.func31 (by kernel_rfl) rfl _)) (without_mp la m lc 1 l W (hl.gr g) (by omega)) ?_
    rintro e W2 ⟨v, rfl, hp, g2⟩
    exact ⟨_, rfl, X.un rfl, hR.new (q := MP.nus (withoutL l 1)) g2 rfl hp⟩
   ·intro ac done u W Sx hR
    have g : Gr w3 W := hR.1
    obtain ⟨la6, lm6, lc6, e3, hl6⟩ := hR.get (i := 3) (MP.nus (withoutL l 1)) rfl (Sx.an 3 (by kernel_rfl))
    refine X.call (X.w0 rfl) (X.enter (F := 18) rfl (X.kc (.func (.func 18) #[] #[]) rfl) (X.a3 (Sx.ev 32 (.agg #[.int .i64 gr, .int .i64 hold, .slice na n nc])) (Sx.ev 33 (.int .i64 t)) ((Sx.own 3 35 rfl).trans e3)) (enters_of Try.func18 (by kernel_rfl) rfl _)) (play_mp na la6 n nc lm6 lc6 gr hold t nd (withoutL l 1) W (hnd.gr g) hl6) ?_
    rintro e W2 ⟨v, rfl, hp, g2⟩
    exact ⟨_, rfl, X.un rfl, hR.new (q := MP.play (playRows gr hold nd t (withoutL l 1)) (playEn gr hold nd t (withoutL l 1)) (playE gr hold nd t (withoutL l 1))) g2 rfl hp⟩
   ·intro ac done u W Sx hR
    obtain ⟨ra7, rn7, rc7, ea7, en7, ec7, e4, hr7, he7⟩ := hR.get (i := 4) (MP.play (playRows gr hold nd t (withoutL l 1)) (playEn gr hold nd t (withoutL l 1)) (playE gr hold nd t (withoutL l 1))) rfl (Sx.an 4 (by kernel_rfl))
    exact X.valN (X.w0 rfl) rfl (X.move rfl (Sx.own 4 36 rfl)) (hR.new (q := MP.play (playRows gr hold nd t (withoutL l 1)) (playEn gr hold nd t (withoutL l 1)) (playE gr hold nd t (withoutL l 1))) (Gr.refl _) rfl (hR.get (i := 4) (MP.play (playRows gr hold nd t (withoutL l 1)) (playEn gr hold nd t (withoutL l 1)) (playE gr hold nd t (withoutL l 1))) rfl (Sx.an 4 (by kernel_rfl))))
   ·intro ac done u W Sx hR
    obtain ⟨ra8, rn8, rc8, ea8, en8, ec8, e5, hr8, he8⟩ := hR.get (i := 5) (MP.play (playRows gr hold nd t (withoutL l 1)) (playEn gr hold nd t (withoutL l 1)) (playE gr hold nd t (withoutL l 1))) rfl (Sx.an 5 (by kernel_rfl))
    exact X.valN (X.w0 rfl) rfl (X.extract rfl ((Sx.own 5 31 rfl).trans e5) rfl) (hR.new (q := MP.intsA (playRows gr hold nd t (withoutL l 1))) (Gr.refl _) rfl ⟨_, _, _, rfl, hr8⟩)
   ·intro ac done u W Sx hR
    obtain ⟨ra8, rn8, rc8, ea8, en8, ec8, e5, hr8, he8⟩ := hR.get (i := 5) (MP.play (playRows gr hold nd t (withoutL l 1)) (playEn gr hold nd t (withoutL l 1)) (playE gr hold nd t (withoutL l 1))) rfl (Sx.an 5 (by kernel_rfl))
    exact X.valN (X.w0 rfl) rfl (X.extract rfl ((Sx.own 5 31 rfl).trans e5) rfl) (hR.new (q := MP.intsA (playEn gr hold nd t (withoutL l 1))) (Gr.refl _) rfl ⟨_, _, _, rfl, he8⟩)
   ·intro ac done u W Sx hR
    obtain ⟨ra8, rn8, rc8, ea8, en8, ec8, e5, hr8, he8⟩ := hR.get (i := 5) (MP.play (playRows gr hold nd t (withoutL l 1)) (playEn gr hold nd t (withoutL l 1)) (playE gr hold nd t (withoutL l 1))) rfl (Sx.an 5 (by kernel_rfl))
    exact X.val (X.w0 rfl) rfl (X.extract rfl ((Sx.own 5 31 rfl).trans e5) rfl) (hR.step (Gr.refl _) rfl)
   ·intro ac done u W Sx hR
    obtain ⟨ra9, rn9, rc9, e6, hi9⟩ := hR.get (i := 6) (MP.intsA (playRows gr hold nd t (withoutL l 1))) rfl (Sx.an 6 (by kernel_rfl))
    exact X.valN (X.w0 rfl) rfl (X.assign rfl (Sx.own 6 37 rfl)) (hR.new (q := MP.intsA (playRows gr hold nd t (withoutL l 1))) (Gr.refl _) rfl (hR.get (i := 6) (MP.intsA (playRows gr hold nd t (withoutL l 1))) rfl (Sx.an 6 (by kernel_rfl))))
   ·intro ac done u W Sx hR
    obtain ⟨ea10, en10, ec10, e7, hi10⟩ := hR.get (i := 7) (MP.intsA (playEn gr hold nd t (withoutL l 1))) rfl (Sx.an 7 (by kernel_rfl))
    exact X.valN (X.w0 rfl) rfl (X.assign rfl (Sx.own 7 38 rfl)) (hR.new (q := MP.intsA (playEn gr hold nd t (withoutL l 1))) (Gr.refl _) rfl (hR.get (i := 7) (MP.intsA (playEn gr hold nd t (withoutL l 1))) rfl (Sx.an 7 (by kernel_rfl))))
   ·intro ac done u W Sx hR
    exact X.val (X.w0 rfl) rfl (X.assign rfl (Sx.ev 39 (.int .i64 (playE gr hold nd t (withoutL l 1))))) (hR.step (Gr.refl _) rfl)
   intro ac u w13 hs hd hl ho hR
   have g : Gr w3 w13 := hR.1
   obtain ⟨la6, lm6, lc6, e3, hl6⟩ := hR.get (i := 3) (MP.nus (withoutL l 1)) rfl rfl
   obtain ⟨ra7, rn7, rc7, ea7, en7, ec7, e4, hr7, he7⟩ := hR.get (i := 4) (MP.play (playRows gr hold nd t (withoutL l 1)) (playEn gr hold nd t (withoutL l 1)) (playE gr hold nd t (withoutL l 1))) rfl rfl
   obtain ⟨ra8, rn8, rc8, ea8, en8, ec8, e5, hr8, he8⟩ := hR.get (i := 5) (MP.play (playRows gr hold nd t (withoutL l 1)) (playEn gr hold nd t (withoutL l 1)) (playE gr hold nd t (withoutL l 1))) rfl rfl
   obtain ⟨ra9, rn9, rc9, e6, hi9⟩ := hR.get (i := 6) (MP.intsA (playRows gr hold nd t (withoutL l 1))) rfl rfl
   obtain ⟨ea10, en10, ec10, e7, hi10⟩ := hR.get (i := 7) (MP.intsA (playEn gr hold nd t (withoutL l 1))) rfl rfl
   obtain ⟨ra11, rn11, rc11, e9, hi11⟩ := hR.get (i := 9) (MP.intsA (playRows gr hold nd t (withoutL l 1))) rfl rfl
   obtain ⟨ea12, en12, ec12, e10, hi12⟩ := hR.get (i := 10) (MP.intsA (playEn gr hold nd t (withoutL l 1))) rfl rfl
   replace F : Fr ac 186 [(0, .agg #[.int .i64 gr, .int .i64 hold, .slice na n nc]), (1, .int .i64 t), (2, .slice la m lc), (3, .pointer (some ⟨w.heap.size, 0, none⟩)), (6, .bool false), (9, .int .i64 (playE gr hold nd t (withoutL l 1))), (29, .bool false)] := X.fr hs hd hl _ (by kernel_rfl)
   replace F := F.add (ho 10 8 rfl) e10
   replace F : Fr ac 186 [(0, .agg #[.int .i64 gr, .int .i64 hold, .slice na n nc]), (1, .int .i64 t), (2, .slice la m lc), (3, .pointer (some ⟨w.heap.size, 0, none⟩)), (6, .bool false), (8, .slice ea12 en12 ec12), (9, .int .i64 (playE gr hold nd t (withoutL l 1))), (29, .bool false)] := F.sub _
   clear e3 e4 e5 e6 e7 e9 e10
   clear hs hd hl ho hR
   replace G := G.trans g
   replace hC := hC.gr g
   replace hnd := hnd.gr g
   replace hl := hl.gr g
   clear g
   refine X.thenN ?_
   refine Y.seq ?_
   refine Y.seq ?_
   refine Y.lit (by kernel_rfl) ?_
   refine Y.pval F (X.w0 rfl) rfl (X.move rfl (F.ev 9 (.int .i64 (playE gr hold nd t (withoutL l 1))))) ?_
   clear F ac
   intro ac F
   refine Y.pval F (X.w0 rfl) rfl (X.binop rfl (F.ev 40 (.int .i64 (playE gr hold nd t (withoutL l 1)))) (X.kc (.int .i64 0) rfl) (X.neqI Try.underlying26 rfl)) ?_
   clear F ac
   intro ac F
   refine Y.nil ?_
   replace F : Fr ac 186 [(0, .agg #[.int .i64 gr, .int .i64 hold, .slice na n nc]), (1, .int .i64 t), (2, .slice la m lc), (3, .pointer (some ⟨w.heap.size, 0, none⟩)), (6, .bool false), (8, .slice ea12 en12 ec12), (9, .int .i64 (playE gr hold nd t (withoutL l 1))), (29, .bool false), (41, .bool ((playE gr hold nd t (withoutL l 1) : Int) != 0))] := F.sub _
   refine X.thenN ?_
   cases h14 : ((playE gr hold nd t (withoutL l 1) : Int) != 0) with
   | false =>
    try rw [h14] at F
    have h14p : (playE gr hold nd t (withoutL l 1) : Int) = 0 := by simpa using h14
    have hok := playE_ok h14p
    have hc := hok.c
    have ht0 := hok.t0
    have h16 := hc.n16
    obtain rfl : n = en12 := by have h9 := hi12.len; rw [playEn_len h14p, hlen] at h9; exact h9
    have hTk := ticks_of_play h14p
    have ht100 : t ≤ 100 := by omega
    refine Y.condF (F.ev 41 (.bool false)) ?_
    refine Y.skip ?_
    refine X.thenN ?_
    refine Y.seq ?_
    refine Y.seq ?_
    refine Y.lit (by kernel_rfl) ?_
    refine Y.pval F (X.w0 rfl) rfl (X.move rfl (F.ev 8 (.slice ea12 n ec12))) ?_
    clear F ac
    intro ac F
    refine Y.pval F (X.w0 rfl) rfl (X.len1 Try.underlying34 rfl (F.ev 43 (.slice ea12 n ec12))) ?_
    clear F ac
    intro ac F
    refine Y.pval F (X.w0 rfl) rfl (X.field rfl (F.ev 3 (.pointer (some ⟨w.heap.size, 0, none⟩))) (X.fld Try.underlying24 rfl (Try.siz22 _) rfl rfl)) ?_
    clear F ac
    intro ac F
    refine Y.pval F (X.w0 rfl) rfl (X.load rfl (F.ev 45 (.pointer (some ⟨w.heap.size, 2, none⟩))) (X.ld1 (Try.agg22 _) (hC.at 2 rfl))) ?_
    clear F ac
    intro ac F
    refine Y.pval F (X.w0 rfl) rfl (X.len1 Try.underlying22 rfl (F.ev 46 (.slice na n nc))) ?_
    clear F ac
    intro ac F
    refine Y.pval F (X.w0 rfl) rfl (X.binop rfl (F.ev 44 (.int .i64 n)) (F.ev 47 (.int .i64 n)) (X.neqI Try.underlying3 (show ((n : Int) != n) = false by simp))) ?_
    clear F ac
    intro ac F
    refine Y.nil ?_
    replace F : Fr ac 186 [(0, .agg #[.int .i64 gr, .int .i64 hold, .slice na n nc]), (1, .int .i64 t), (2, .slice la m lc), (3, .pointer (some ⟨w.heap.size, 0, none⟩)), (6, .bool false), (8, .slice ea12 n ec12), (9, .int .i64 (playE gr hold nd t (withoutL l 1))), (29, .bool false), (41, .bool false), (48, .bool false)] := F.sub _
    refine X.thenN ?_
    refine Y.condF (F.ev 48 (.bool false)) ?_
    refine Y.skip ?_
    refine X.thenN ?_
    refine Y.seq ?_
    refine Y.lit (by kernel_rfl) ?_
    refine Y.pval F (X.w0 rfl) rfl (X.assign rfl (X.kc (.int .i64 0) rfl)) ?_
    clear F ac
    intro ac F
    refine Y.nil ?_
    replace F : Fr ac 186 [(0, .agg #[.int .i64 gr, .int .i64 hold, .slice na n nc]), (1, .int .i64 t), (2, .slice la m lc), (3, .pointer (some ⟨w.heap.size, 0, none⟩)), (6, .bool false), (8, .slice ea12 n ec12), (9, .int .i64 (playE gr hold nd t (withoutL l 1))), (10, .int .i64 0), (29, .bool false), (41, .bool false), (48, .bool false)] := F.sub _
    refine X.thenN ?_
    refine Y.seq ?_
    refine Y.seq ?_
    refine Y.lit (by kernel_rfl) ?_
    refine Y.pval F (X.w0 rfl) rfl (X.assign rfl (X.kc (.int .i64 0) rfl)) ?_
    clear F ac
    intro ac F
    refine Y.nil ?_
    replace F : Fr ac 186 [(0, .agg #[.int .i64 gr, .int .i64 hold, .slice na n nc]), (1, .int .i64 t), (2, .slice la m lc), (3, .pointer (some ⟨w.heap.size, 0, none⟩)), (6, .bool false), (8, .slice ea12 n ec12), (9, .int .i64 (playE gr hold nd t (withoutL l 1))), (10, .int .i64 0), (11, .int .i64 0), (29, .bool false), (41, .bool false), (48, .bool false)] := F.sub _
    refine X.thenN ?_
    refine Y.block ?_
    have hndB := hnd
    have hlB := hl
    have hi12B := hi12
    have hCB := hC
    have GB := G
    refine Y.loop (fun me_ ac wr => ∃ (i : Nat), me_ = n - i ∧ Gr w13 wr ∧ i ≤ n ∧ Fr ac 186 [(0, .agg #[.int .i64 gr, .int .i64 hold, .slice na n nc]), (1, .int .i64 t), (2, .slice la m lc), (3, .pointer (some ⟨w.heap.size, 0, none⟩)), (8, .slice ea12 n ec12), (9, .int .i64 (playE gr hold nd t (withoutL l 1))), (10, .int .i64 (sumN nd hold t i)), (11, .int .i64 i), (29, .bool false), (41, .bool false), (48, .bool false)]) _ ⟨0, rfl, Gr.refl _, Nat.zero_le _, F.sub _⟩ ?_
    clear F
    intro me_ ac w15 hI
    obtain ⟨i, rfl, gr, hi, F⟩ := hI
    replace G := GB.trans gr
    replace hC := hCB.gr gr
    replace hnd := hndB.gr gr
    replace hl := hlB.gr gr
    replace hi12 := hi12B.gr gr
    have GB_ := gr
    clear gr
    refine Y.seq ?_
    refine Y.seq ?_
    refine Y.lit (by kernel_rfl) ?_
    refine Y.pval F (X.w0 rfl) rfl (X.move rfl (F.ev 11 (.int .i64 i))) ?_
    clear F ac
    intro ac F
    refine Y.pval F (X.w0 rfl) rfl (X.field rfl (F.ev 3 (.pointer (some ⟨w.heap.size, 0, none⟩))) (X.fld Try.underlying24 rfl (Try.siz22 _) rfl rfl)) ?_
    clear F ac
    intro ac F
    refine Y.pval F (X.w0 rfl) rfl (X.load rfl (F.ev 50 (.pointer (some ⟨w.heap.size, 2, none⟩))) (X.ld1 (Try.agg22 _) (hC.at 2 rfl))) ?_
    clear F ac
    intro ac F
    refine Y.pval F (X.w0 rfl) rfl (X.len1 Try.underlying22 rfl (F.ev 51 (.slice na n nc))) ?_
    clear F ac
    intro ac F
    refine Y.pval F (X.w0 rfl) rfl (X.binop rfl (F.ev 49 (.int .i64 i)) (F.ev 52 (.int .i64 n)) (X.lssI Try.underlying3 rfl)) ?_
    clear F ac
    intro ac F
    refine Y.nil ?_
    replace F : Fr ac 186 [(0, .agg #[.int .i64 gr, .int .i64 hold, .slice na n nc]), (1, .int .i64 t), (2, .slice la m lc), (3, .pointer (some ⟨w.heap.size, 0, none⟩)), (8, .slice ea12 n ec12), (9, .int .i64 (playE gr hold nd t (withoutL l 1))), (10, .int .i64 (sumN nd hold t i)), (11, .int .i64 i), (29, .bool false), (41, .bool false), (48, .bool false), (53, .bool (decide ((i : Int) < n)))] := F.sub _
    refine X.thenN ?_
    cases h16 : decide ((i : Int) < n) with
    | false =>
     try rw [h16] at F
     have h16p : ¬ ((i : Int) < n) := of_decide_eq_false h16
     obtain rfl : n = i := by omega
     refine Y.condF (F.ev 53 (.bool false)) ?_
     refine Y.exit ?_
     refine X.thenX ?_
     refine X.thenX ?_
     refine X.blockX ?_
     refine X.thenN ?_
     refine Y.seq ?_
     refine Y.lit (by kernel_rfl) ?_
     refine Y.pval F (X.w0 rfl) rfl (X.load rfl (F.ev 3 (.pointer (some ⟨w.heap.size, 0, none⟩))) (X.ldN (Try.agg24 _) (Try.siz24 _) (Y.atz (⟨w.heap.size, 0, none⟩) (Y.AtFrom.cons (hC.at 0 rfl) (Y.AtFrom.cons (hC.at 1 rfl) (Y.AtFrom.cons (hC.at 2 rfl) (Y.AtFrom.nil _ _ _))))))) ?_
     clear F ac
     intro ac F
     refine Y.pval F (X.w0 rfl) rfl (X.move rfl (F.ev 1 (.int .i64 t))) ?_
     clear F ac
     intro ac F
     refine Y.pcall F (X.w0 rfl) rfl (X.enter (F := 21) rfl (X.kc (.func (.func 21) #[] #[]) rfl) (X.a2 (F.ev 171 (.agg #[.int .i64 gr, .int .i64 hold, .slice na n nc])) (F.ev 172 (.int .i64 t))) (enters_of Try.func21 (by kernel_rfl) rfl _)) (parked_any na n nc gr hold t nd w15 hnd) ?_
     clear F ac
     rintro e w20 ⟨rfl, g⟩
     refine ⟨_, rfl, ?_⟩
     intro ac F
     replace G := G.trans g
     replace hC := hC.gr g
     replace GB_ := GB_.trans g
     replace hnd := hnd.gr g
     replace hl := hl.gr g
     replace hi12 := hi12.gr g
     clear g
     refine Y.pval F (X.w0 rfl) rfl (X.move rfl (F.ev 173 (.tuple #[.int .i64 (parkV gr hold nd t), .int .i64 (ticksE gr hold nd t)]))) ?_
     clear F ac
     intro ac F
     refine Y.pval F (X.w0 rfl) rfl (X.extract rfl (F.ev 170 (.tuple #[.int .i64 (parkV gr hold nd t), .int .i64 (ticksE gr hold nd t)])) rfl) ?_
     clear F ac
     intro ac F
     refine Y.pval F (X.w0 rfl) rfl (X.extract rfl (F.ev 170 (.tuple #[.int .i64 (parkV gr hold nd t), .int .i64 (ticksE gr hold nd t)])) rfl) ?_
     clear F ac
     intro ac F
     refine Y.pval F (X.w0 rfl) rfl (X.assign rfl (F.ev 174 (.int .i64 (parkV gr hold nd t)))) ?_
     clear F ac
     intro ac F
     refine Y.pval F (X.w0 rfl) rfl (X.assign rfl (F.ev 175 (.int .i64 (ticksE gr hold nd t)))) ?_
     clear F ac
     intro ac F
     refine Y.nil ?_
     replace F : Fr ac 186 [(0, .agg #[.int .i64 gr, .int .i64 hold, .slice na n nc]), (1, .int .i64 t), (2, .slice la m lc), (3, .pointer (some ⟨w.heap.size, 0, none⟩)), (8, .slice ea12 n ec12), (9, .int .i64 (ticksE gr hold nd t)), (10, .int .i64 (sumN nd hold t n)), (11, .int .i64 n), (22, .int .i64 (parkV gr hold nd t)), (29, .bool false), (41, .bool false), (48, .bool false), (53, .bool false)] := F.sub _
     refine X.thenN ?_
     refine Y.seq ?_
     refine Y.lit (by kernel_rfl) ?_
     refine Y.pval F (X.w0 rfl) rfl (X.move rfl (F.ev 9 (.int .i64 (ticksE gr hold nd t)))) ?_
     clear F ac
     intro ac F
     refine Y.pval F (X.w0 rfl) rfl (X.binop rfl (F.ev 176 (.int .i64 (ticksE gr hold nd t))) (X.kc (.int .i64 0) rfl) (X.eqlI Try.underlying26 rfl)) ?_
     clear F ac
     intro ac F
     refine Y.pval F (X.w0 rfl) rfl (X.move rfl (F.ev 177 (.bool ((ticksE gr hold nd t : Int) == 0)))) ?_
     clear F ac
     intro ac F
     have h22 : ((ticksE gr hold nd t : Int) == 0) = true := by rw [hTk]; rfl
     try rw [h22] at F
     refine Y.pval F (X.w1 rfl (F.yl (j := 2) (d := 178) (b := true) rfl (by kernel_rfl))) rfl (X.move rfl (F.ev 22 (.int .i64 (parkV gr hold nd t)))) ?_
     clear F ac
     intro ac F
     refine Y.pval F (X.w1 rfl (F.yl (j := 2) (d := 178) (b := true) rfl (by kernel_rfl))) rfl (X.move rfl (F.ev 10 (.int .i64 (sumN nd hold t n)))) ?_
     clear F ac
     intro ac F
     refine Y.pval F (X.w1 rfl (F.yl (j := 2) (d := 178) (b := true) rfl (by kernel_rfl))) rfl (X.binop rfl (F.ev 179 (.int .i64 (parkV gr hold nd t))) (F.ev 180 (.int .i64 (sumN nd hold t n))) (X.eqlI Try.underlying3 rfl)) ?_
     clear F ac
     intro ac F
     refine Y.pval F (X.w0 rfl) rfl (X.pickT rfl (F.ev 178 (.bool true)) (F.ev 181 (.bool ((parkV gr hold nd t : Int) == (sumN nd hold t n))))) ?_
     clear F ac
     intro ac F
     refine Y.pval F (X.w0 rfl) rfl (X.move rfl (F.ev 182 (.bool ((parkV gr hold nd t : Int) == (sumN nd hold t n))))) ?_
     clear F ac
     intro ac F
     have h24 : ((parkV gr hold nd t : Int) == (sumN nd hold t n)) = true := beq_iff_eq.2 (by unfold parkV sumP; rw [if_pos hTk, hlen])
     try rw [h24] at F
     refine Y.pcall F (X.w1 rfl (F.yl (j := 7) (d := 183) (b := true) rfl (by kernel_rfl))) rfl (X.enter (F := 16) rfl (X.kc (.func (.func 16) #[] #[]) rfl) rfl (enters_of Try.func16 (by kernel_rfl) rfl _)) (works_any w20) ?_
     clear F ac
     rintro e w27 ⟨rfl, g⟩
     refine ⟨_, rfl, ?_⟩
     intro ac F
     replace G := G.trans g
     replace hC := hC.gr g
     replace GB_ := GB_.trans g
     replace hnd := hnd.gr g
     replace hl := hl.gr g
     replace hi12 := hi12.gr g
     clear g
     refine Y.pval F (X.w0 rfl) rfl (X.pickT rfl (F.ev 183 (.bool true)) (F.ev 184 (.bool true))) ?_
     clear F ac
     intro ac F
     refine Y.pval F (X.w0 rfl) rfl (X.assign rfl (F.ev 185 (.bool true))) ?_
     clear F ac
     intro ac F
     refine Y.nil ?_
     replace F : Fr ac 186 [(0, .agg #[.int .i64 gr, .int .i64 hold, .slice na n nc]), (1, .int .i64 t), (2, .slice la m lc), (3, .pointer (some ⟨w.heap.size, 0, none⟩)), (6, .bool true), (8, .slice ea12 n ec12), (9, .int .i64 (ticksE gr hold nd t)), (10, .int .i64 (sumN nd hold t n)), (11, .int .i64 n), (22, .int .i64 (parkV gr hold nd t)), (29, .bool false), (41, .bool false), (48, .bool false), (53, .bool false)] := F.sub _
     refine X.thenN ?_
     refine Y.ret ?_
     exact Y.ret0 (v := .bool true) F (Y.rs1 F rfl (by kernel_rfl)) ⟨rfl, G⟩
    | true =>
     try rw [h16] at F
     have h16p : ((i : Int) < n) := of_decide_eq_true h16
     have hbl := bounded_le h14p (withoutL_noask l) (i := i) (by omega)
     obtain ⟨ho1, ho2, ho3, ho4, ho5⟩ := own_ok hTk ht100 (i := i) (by omega)
     have hsb := sumN_bd hc ht0 (by omega) i (by omega)
     have hwb := worst_bd (T := t) (i := i) (clu_of_ticks hTk) (by omega) ht0 (by omega)
     refine Y.condT (F.ev 53 (.bool true)) ?_
     refine Y.skip ?_
     refine X.thenN ?_
     refine Y.seq ?_
     refine Y.block ?_
     refine Y.seq ?_
     refine Y.lit (by kernel_rfl) ?_
     refine Y.pval F (X.w0 rfl) rfl (X.load rfl (F.ev 3 (.pointer (some ⟨w.heap.size, 0, none⟩))) (X.ldN (Try.agg24 _) (Try.siz24 _) (Y.atz (⟨w.heap.size, 0, none⟩) (Y.AtFrom.cons (hC.at 0 rfl) (Y.AtFrom.cons (hC.at 1 rfl) (Y.AtFrom.cons (hC.at 2 rfl) (Y.AtFrom.nil _ _ _))))))) ?_
     clear F ac
     intro ac F
     refine Y.pval F (X.w0 rfl) rfl (X.move rfl (F.ev 11 (.int .i64 i))) ?_
     clear F ac
     intro ac F
     refine Y.pval F (X.w0 rfl) rfl (X.move rfl (F.ev 1 (.int .i64 t))) ?_
     clear F ac
     intro ac F
     refine Y.pcall F (X.w0 rfl) rfl (X.enter (F := 20) rfl (X.kc (.func (.func 20) #[] #[]) rfl) (X.a3 (F.ev 57 (.agg #[.int .i64 gr, .int .i64 hold, .slice na n nc])) (F.ev 58 (.int .i64 i)) (F.ev 59 (.int .i64 t))) (enters_of Try.func20 (by kernel_rfl) rfl _)) (worst_any na n nc gr hold i t nd w15 hnd) ?_
     clear F ac
     rintro e w31 ⟨rfl, g⟩
     refine ⟨_, rfl, ?_⟩
     intro ac F
     replace G := G.trans g
     replace hC := hC.gr g
     replace GB_ := GB_.trans g
     replace hnd := hnd.gr g
     replace hl := hl.gr g
     replace hi12 := hi12.gr g
     clear g
     refine Y.pval F (X.w0 rfl) rfl (X.move rfl (F.ev 60 (.tuple #[.int .i64 (worstV gr hold nd i t), .int .i64 (nodeE gr hold nd i t)]))) ?_
     clear F ac
     intro ac F
     refine Y.pval F (X.w0 rfl) rfl (X.extract rfl (F.ev 56 (.tuple #[.int .i64 (worstV gr hold nd i t), .int .i64 (nodeE gr hold nd i t)])) rfl) ?_
     clear F ac
     intro ac F
     refine Y.pval F (X.w0 rfl) rfl (X.extract rfl (F.ev 56 (.tuple #[.int .i64 (worstV gr hold nd i t), .int .i64 (nodeE gr hold nd i t)])) rfl) ?_
     clear F ac
     intro ac F
     refine Y.pval F (X.w0 rfl) rfl (X.assign rfl (F.ev 61 (.int .i64 (worstV gr hold nd i t)))) ?_
     clear F ac
     intro ac F
     refine Y.pval F (X.w0 rfl) rfl (X.assign rfl (F.ev 62 (.int .i64 (nodeE gr hold nd i t)))) ?_
     clear F ac
     intro ac F
     refine Y.nil ?_
     replace F : Fr ac 186 [(0, .agg #[.int .i64 gr, .int .i64 hold, .slice na n nc]), (1, .int .i64 t), (2, .slice la m lc), (3, .pointer (some ⟨w.heap.size, 0, none⟩)), (8, .slice ea12 n ec12), (9, .int .i64 (playE gr hold nd t (withoutL l 1))), (10, .int .i64 (sumN nd hold t i)), (11, .int .i64 i), (12, .int .i64 (worstV gr hold nd i t)), (13, .int .i64 (nodeE gr hold nd i t)), (29, .bool false), (41, .bool false), (48, .bool false), (53, .bool true)] := F.sub _
     refine X.thenN ?_
     refine Y.seq ?_
     refine Y.lit (by kernel_rfl) ?_
     refine Y.pval F (X.w0 rfl) rfl (X.load rfl (F.ev 3 (.pointer (some ⟨w.heap.size, 0, none⟩))) (X.ldN (Try.agg24 _) (Try.siz24 _) (Y.atz (⟨w.heap.size, 0, none⟩) (Y.AtFrom.cons (hC.at 0 rfl) (Y.AtFrom.cons (hC.at 1 rfl) (Y.AtFrom.cons (hC.at 2 rfl) (Y.AtFrom.nil _ _ _))))))) ?_
     clear F ac
     intro ac F
     refine Y.pval F (X.w0 rfl) rfl (X.move rfl (F.ev 11 (.int .i64 i))) ?_
     clear F ac
     intro ac F
     refine Y.pval F (X.w0 rfl) rfl (X.move rfl (F.ev 1 (.int .i64 t))) ?_
     clear F ac
     intro ac F
     refine Y.pcall F (X.w0 rfl) rfl (X.enter (F := 33) rfl (X.kc (.func (.func 33) #[] #[]) rfl) (X.a3 (F.ev 64 (.agg #[.int .i64 gr, .int .i64 hold, .slice na n nc])) (F.ev 65 (.int .i64 i)) (F.ev 66 (.int .i64 t))) (enters_of Try.func33 (by kernel_rfl) rfl _)) (noises_any na n nc gr hold i t nd w31 hnd) ?_
     clear F ac
     rintro e w35 ⟨za, zm, zc, rfl, hz, g⟩
     refine ⟨_, rfl, ?_⟩
     intro ac F
     replace G := G.trans g
     replace hC := hC.gr g
     replace GB_ := GB_.trans g
     replace hnd := hnd.gr g
     replace hl := hl.gr g
     replace hi12 := hi12.gr g
     clear g
     have hzl := hz.len
     refine Y.pval F (X.w0 rfl) rfl (X.move rfl (F.ev 67 (.tuple #[.slice za zm zc, .int .i64 (nodeE gr hold nd i t)]))) ?_
     clear F ac
     intro ac F
     refine Y.pval F (X.w0 rfl) rfl (X.extract rfl (F.ev 63 (.tuple #[.slice za zm zc, .int .i64 (nodeE gr hold nd i t)])) rfl) ?_
     clear F ac
     intro ac F
     refine Y.pval F (X.w0 rfl) rfl (X.extract rfl (F.ev 63 (.tuple #[.slice za zm zc, .int .i64 (nodeE gr hold nd i t)])) rfl) ?_
     clear F ac
     intro ac F
     refine Y.pval F (X.w0 rfl) rfl (X.assign rfl (F.ev 68 (.slice za zm zc))) ?_
     clear F ac
     intro ac F
     refine Y.pval F (X.w0 rfl) rfl (X.assign rfl (F.ev 69 (.int .i64 (nodeE gr hold nd i t)))) ?_
     clear F ac
     intro ac F
     refine Y.nil ?_
     replace F : Fr ac 186 [(0, .agg #[.int .i64 gr, .int .i64 hold, .slice na n nc]), (1, .int .i64 t), (2, .slice la m lc), (3, .pointer (some ⟨w.heap.size, 0, none⟩)), (8, .slice ea12 n ec12), (9, .int .i64 (playE gr hold nd t (withoutL l 1))), (10, .int .i64 (sumN nd hold t i)), (11, .int .i64 i), (12, .int .i64 (worstV gr hold nd i t)), (13, .int .i64 (nodeE gr hold nd i t)), (14, .slice za zm zc), (15, .int .i64 (nodeE gr hold nd i t)), (29, .bool false), (41, .bool false), (48, .bool false), (53, .bool true)] := F.sub _
     refine X.thenN ?_
     refine Y.seq ?_
     refine Y.seq ?_
     refine Y.lit (by kernel_rfl) ?_
     refine Y.pval F (X.w0 rfl) rfl (X.move rfl (F.ev 13 (.int .i64 (nodeE gr hold nd i t)))) ?_
     clear F ac
     intro ac F
     refine Y.pval F (X.w0 rfl) rfl (X.binop rfl (F.ev 70 (.int .i64 (nodeE gr hold nd i t))) (X.kc (.int .i64 0) rfl) (X.neqI Try.underlying26 rfl)) ?_
     clear F ac
     intro ac F
     refine Y.pval F (X.w0 rfl) rfl (X.move rfl (F.ev 71 (.bool ((nodeE gr hold nd i t : Int) != 0)))) ?_
     clear F ac
     intro ac F
     have h37 : ((nodeE gr hold nd i t : Int) != 0) = false := by rw [ho1]; rfl
     try rw [h37] at F
     refine Y.pval F (X.w1 rfl (F.yl (j := 2) (d := 72) (b := false) rfl (by kernel_rfl))) rfl (X.move rfl (F.ev 15 (.int .i64 (nodeE gr hold nd i t)))) ?_
     clear F ac
     intro ac F
     refine Y.pval F (X.w1 rfl (F.yl (j := 2) (d := 72) (b := false) rfl (by kernel_rfl))) rfl (X.binop rfl (F.ev 73 (.int .i64 (nodeE gr hold nd i t))) (X.kc (.int .i64 0) rfl) (X.neqI Try.underlying26 h37)) ?_
     clear F ac
     intro ac F
     refine Y.pval F (X.w0 rfl) rfl (X.pickF rfl (F.ev 72 (.bool false)) (F.ev 74 (.bool false))) ?_
     clear F ac
     intro ac F
     refine Y.pval F (X.w0 rfl) rfl (X.move rfl (F.ev 75 (.bool false))) ?_
     clear F ac
     intro ac F
     refine Y.pval F (X.w1 rfl (F.yl (j := 6) (d := 76) (b := false) rfl (by kernel_rfl))) rfl (X.move rfl (F.ev 8 (.slice ea12 n ec12))) ?_
     clear F ac
     intro ac F
     refine Y.pval F (X.w1 rfl (F.yl (j := 6) (d := 76) (b := false) rfl (by kernel_rfl))) rfl (X.move rfl (F.ev 11 (.int .i64 i))) ?_
     clear F ac
     intro ac F
     obtain ⟨pd38, pe38, -, pc38⟩ := hi12.at (j := i) (by omega)
     subst pe38
     replace hC : RCells w35 [(⟨w.heap.size, 0, none⟩, .int .i64 gr), (⟨w.heap.size, 1, none⟩, .int .i64 hold), (⟨w.heap.size, 2, none⟩, .slice na n nc), (pd38.add i, .int .i64 ((playEn gr hold nd t (withoutL l 1))[i]?.getD 0))] := hC.append ((RCells.cons pc38 (RCells.nil _)))
     clear pc38
     refine Y.pval F (X.w1 rfl (F.yl (j := 6) (d := 76) (b := false) rfl (by kernel_rfl))) rfl (X.index rfl (F.ev 77 (.slice (some pd38) n ec12)) (F.ev 78 (.int .i64 i)) (X.idx (k := i) Try.underlying34 (Try.siz3 _) (by omega) (by omega) (by rw [Nat.mul_one]))) ?_
     clear F ac
     intro ac F
     refine Y.pval F (X.w1 rfl (F.yl (j := 6) (d := 76) (b := false) rfl (by kernel_rfl))) rfl (X.load rfl (F.ev 79 (.pointer (some (pd38.add i)))) (X.ld1 (Try.agg3 _) (hC.at 3 rfl))) ?_
     clear F ac
     intro ac F
     refine Y.pval F (X.w1 rfl (F.yl (j := 6) (d := 76) (b := false) rfl (by kernel_rfl))) rfl (X.move rfl (F.ev 12 (.int .i64 (worstV gr hold nd i t)))) ?_
     clear F ac
     intro ac F
     refine Y.pval F (X.w1 rfl (F.yl (j := 6) (d := 76) (b := false) rfl (by kernel_rfl))) rfl (X.binop rfl (F.ev 80 (.int .i64 ((playEn gr hold nd t (withoutL l 1))[i]?.getD 0))) (F.ev 81 (.int .i64 (worstV gr hold nd i t))) (X.gtrI Try.underlying3 rfl)) ?_
     clear F ac
     intro ac F
     refine Y.pval F (X.w0 rfl) rfl (X.pickF rfl (F.ev 76 (.bool false)) (F.ev 82 (.bool (decide ((worstV gr hold nd i t : Int) < ((playEn gr hold nd t (withoutL l 1))[i]?.getD 0)))))) ?_
     clear F ac
     intro ac F
     refine Y.pval F (X.w0 rfl) rfl (X.move rfl (F.ev 83 (.bool (decide ((worstV gr hold nd i t : Int) < ((playEn gr hold nd t (withoutL l 1))[i]?.getD 0)))))) ?_
     clear F ac
     intro ac F
     have h40 : decide ((worstV gr hold nd i t : Int) < ((playEn gr hold nd t (withoutL l 1))[i]?.getD 0)) = false := decide_eq_false (by have := hbl.2; omega)
     have h40p : ¬ ((worstV gr hold nd i t : Int) < ((playEn gr hold nd t (withoutL l 1))[i]?.getD 0)) := of_decide_eq_false h40
     try rw [h40] at F
     refine Y.pval F (X.w1 rfl (F.yl (j := 14) (d := 84) (b := false) rfl (by kernel_rfl))) rfl (X.move rfl (F.ev 14 (.slice za zm zc))) ?_
     clear F ac
     intro ac F
     refine Y.pval F (X.w1 rfl (F.yl (j := 14) (d := 84) (b := false) rfl (by kernel_rfl))) rfl (X.len1 Try.underlying34 rfl (F.ev 85 (.slice za zm zc))) ?_
     clear F ac
     intro ac F
     refine Y.pval F (X.w1 rfl (F.yl (j := 14) (d := 84) (b := false) rfl (by kernel_rfl))) rfl (X.move rfl (F.ev 1 (.int .i64 t))) ?_
     clear F ac
     intro ac F
     refine Y.pval F (X.w1 rfl (F.yl (j := 14) (d := 84) (b := false) rfl (by kernel_rfl))) rfl (X.binop rfl (F.ev 86 (.int .i64 zm)) (F.ev 87 (.int .i64 t)) (X.gtrI Try.underlying3 rfl)) ?_
     clear F ac
     intro ac F
     refine Y.pval F (X.w0 rfl) rfl (X.pickF rfl (F.ev 84 (.bool false)) (F.ev 88 (.bool (decide ((t : Int) < zm))))) ?_
     clear F ac
     intro ac F
     refine Y.nil ?_
     replace F : Fr ac 186 [(0, .agg #[.int .i64 gr, .int .i64 hold, .slice na n nc]), (1, .int .i64 t), (2, .slice la m lc), (3, .pointer (some ⟨w.heap.size, 0, none⟩)), (8, .slice (some pd38) n ec12), (9, .int .i64 (playE gr hold nd t (withoutL l 1))), (10, .int .i64 (sumN nd hold t i)), (11, .int .i64 i), (12, .int .i64 (worstV gr hold nd i t)), (13, .int .i64 (nodeE gr hold nd i t)), (14, .slice za zm zc), (15, .int .i64 (nodeE gr hold nd i t)), (29, .bool false), (41, .bool false), (48, .bool false), (53, .bool true), (89, .bool (decide ((t : Int) < zm)))] := F.sub _
     refine X.thenN ?_
     have h42 : decide ((t : Int) < zm) = false := decide_eq_false (by omega)
     have h42p : ¬ ((t : Int) < zm) := of_decide_eq_false h42
     try rw [h42] at F
     refine Y.condF (F.ev 89 (.bool false)) ?_
     refine Y.skip ?_
     refine X.thenN ?_
     refine Y.seq ?_
     refine Y.lit (by kernel_rfl) ?_
     refine Y.pval F (X.w0 rfl) rfl (X.move rfl (F.ev 10 (.int .i64 (sumN nd hold t i)))) ?_
     clear F ac
     intro ac F
     refine Y.pval F (X.w0 rfl) rfl (X.move rfl (F.ev 12 (.int .i64 (worstV gr hold nd i t)))) ?_
     clear F ac
     intro ac F
     refine Y.pval F (X.w0 rfl) rfl (X.binop rfl (F.ev 90 (.int .i64 (sumN nd hold t i))) (F.ev 91 (.int .i64 (worstV gr hold nd i t))) (X.addI Try.underlying3 rfl (by omega) (by omega))) ?_
     clear F ac
     intro ac F
     refine Y.pval F (X.w0 rfl) rfl (X.assign rfl (F.ev 92 (.int .i64 ((sumN nd hold t i : Int) + (worstV gr hold nd i t))))) ?_
     clear F ac
     intro ac F
     refine Y.nil ?_
     replace F : Fr ac 186 [(0, .agg #[.int .i64 gr, .int .i64 hold, .slice na n nc]), (1, .int .i64 t), (2, .slice la m lc), (3, .pointer (some ⟨w.heap.size, 0, none⟩)), (8, .slice (some pd38) n ec12), (9, .int .i64 (playE gr hold nd t (withoutL l 1))), (10, .int .i64 ((sumN nd hold t i : Int) + (worstV gr hold nd i t))), (11, .int .i64 i), (12, .int .i64 (worstV gr hold nd i t)), (13, .int .i64 (nodeE gr hold nd i t)), (14, .slice za zm zc), (15, .int .i64 (nodeE gr hold nd i t)), (29, .bool false), (41, .bool false), (48, .bool false), (53, .bool true), (89, .bool false)] := F.sub _
     refine X.thenN ?_
     refine Y.seq ?_
     refine Y.lit (by kernel_rfl) ?_
     refine Y.pval F (X.w0 rfl) rfl (X.assign rfl (X.kc (.slice none 0 0) rfl)) ?_
     clear F ac
     intro ac F
     refine Y.nil ?_
     replace F : Fr ac 186 [(0, .agg #[.int .i64 gr, .int .i64 hold, .slice na n nc]), (1, .int .i64 t), (2, .slice la m lc), (3, .pointer (some ⟨w.heap.size, 0, none⟩)), (8, .slice (some pd38) n ec12), (9, .int .i64 (playE gr hold nd t (withoutL l 1))), (10, .int .i64 ((sumN nd hold t i : Int) + (worstV gr hold nd i t))), (11, .int .i64 i), (12, .int .i64 (worstV gr hold nd i t)), (13, .int .i64 (nodeE gr hold nd i t)), (14, .slice za zm zc), (15, .int .i64 (nodeE gr hold nd i t)), (16, .slice none 0 0), (29, .bool false), (41, .bool false), (48, .bool false), (53, .bool true), (89, .bool false)] := F.sub _
     refine X.thenN ?_
     refine Y.seq ?_
     refine Y.seq ?_
     have hO := OwnR.nil w35 w35.heap.size 33 4
     have hnd0 := hnd
     have hl0 := hl
     have hi120 := hi12
     have hz0 := hz
     have hC0 := hC
     have G0_ := G
     have GW := Gr.refl w35
     refine Y.lit (by kernel_rfl) ?_
     refine Y.pval F (X.w0 rfl) rfl (X.assign rfl (X.kc (.int .i64 0) rfl)) ?_
     clear F ac
     intro ac F
     refine Y.nil ?_
     replace F : Fr ac 186 [(0, .agg #[.int .i64 gr, .int .i64 hold, .slice na n nc]), (1, .int .i64 t), (2, .slice la m lc), (3, .pointer (some ⟨w.heap.size, 0, none⟩)), (8, .slice (some pd38) n ec12), (9, .int .i64 (playE gr hold nd t (withoutL l 1))), (10, .int .i64 ((sumN nd hold t i : Int) + (worstV gr hold nd i t))), (11, .int .i64 i), (12, .int .i64 (worstV gr hold nd i t)), (13, .int .i64 (nodeE gr hold nd i t)), (14, .slice za zm zc), (15, .int .i64 (nodeE gr hold nd i t)), (16, (.slice none 0 0)), (17, .int .i64 0), (29, .bool false), (41, .bool false), (48, .bool false), (53, .bool true), (89, .bool false)] := F.sub _
     refine X.thenN ?_
     refine Y.block ?_
     refine Y.loop (fun me_ ac wr => ∃ (j : Nat), ∃ v : Value, me_ = zm - j ∧ Gr w35 wr ∧ j ≤ zm ∧ OwnR wr w35.heap.size 33 4 v (ownL ((noiR gr hold nd i t).take j) i).length (flat4 (ownL ((noiR gr hold nd i t).take j) i)) ∧ Fr ac 186 [(0, .agg #[.int .i64 gr, .int .i64 hold, .slice na n nc]), (1, .int .i64 t), (2, .slice la m lc), (3, .pointer (some ⟨w.heap.size, 0, none⟩)), (8, .slice (some pd38) n ec12), (9, .int .i64 (playE gr hold nd t (withoutL l 1))), (10, .int .i64 ((sumN nd hold t i : Int) + (worstV gr hold nd i t))), (11, .int .i64 i), (12, .int .i64 (worstV gr hold nd i t)), (13, .int .i64 (nodeE gr hold nd i t)), (14, .slice za zm zc), (15, .int .i64 (nodeE gr hold nd i t)), (16, v), (17, .int .i64 j), (29, .bool false), (41, .bool false), (48, .bool false), (53, .bool true), (89, .bool false)]) _ ⟨0, _, rfl, GW, Nat.zero_le _, hO, F.sub _⟩ ?_
     clear F GW hnd hl hi12 hz hO
     intro me_ ac w43 hI
     obtain ⟨j, v, rfl, GW, hj, hO, F⟩ := hI
     replace G := G0_.trans GW
     have hnd := hnd0.gr GW
     have hl := hl0.gr GW
     have hi12 := hi120.gr GW
     have hz := hz0.gr GW
     replace hC := hC0.gr GW
     refine Y.seq ?_
     refine Y.seq ?_
     refine Y.lit (by kernel_rfl) ?_
     refine Y.pval F (X.w0 rfl) rfl (X.move rfl (F.ev 17 (.int .i64 j))) ?_
     clear F ac
     intro ac F
     refine Y.pval F (X.w0 rfl) rfl (X.move rfl (F.ev 14 (.slice za zm zc))) ?_
     clear F ac
     intro ac F
     refine Y.pval F (X.w0 rfl) rfl (X.len1 Try.underlying34 rfl (F.ev 94 (.slice za zm zc))) ?_
     clear F ac
     intro ac F
     refine Y.pval F (X.w0 rfl) rfl (X.binop rfl (F.ev 93 (.int .i64 j)) (F.ev 95 (.int .i64 zm)) (X.lssI Try.underlying3 rfl)) ?_
     clear F ac
     intro ac F
     refine Y.nil ?_
     replace F : Fr ac 186 [(0, .agg #[.int .i64 gr, .int .i64 hold, .slice na n nc]), (1, .int .i64 t), (2, .slice la m lc), (3, .pointer (some ⟨w.heap.size, 0, none⟩)), (8, .slice (some pd38) n ec12), (9, .int .i64 (playE gr hold nd t (withoutL l 1))), (10, .int .i64 ((sumN nd hold t i : Int) + (worstV gr hold nd i t))), (11, .int .i64 i), (12, .int .i64 (worstV gr hold nd i t)), (13, .int .i64 (nodeE gr hold nd i t)), (14, .slice za zm zc), (15, .int .i64 (nodeE gr hold nd i t)), (16, v), (17, .int .i64 j), (29, .bool false), (41, .bool false), (48, .bool false), (53, .bool true), (89, .bool false), (96, .bool (decide ((j : Int) < zm)))] := F.sub _
     refine X.thenN ?_
     cases h44 : decide ((j : Int) < zm) with
     | false =>
      try rw [h44] at F
      have h44p : ¬ ((j : Int) < zm) := of_decide_eq_false h44
      obtain rfl : zm = j := by omega
      refine Y.condF (F.ev 96 (.bool false)) ?_
      refine Y.exit ?_
      refine X.thenX ?_
      refine X.thenX ?_
      refine X.blockX ?_
      refine X.thenN ?_
      refine Y.seq ?_
      rw [List.take_of_length_le (show (noiR gr hold nd i t).length ≤ zm by omega)] at hO
      obtain ⟨al, alc, rfl, hal⟩ := hO.nudges rfl (fun y hy => by obtain ⟨d, _, rfl⟩ := List.mem_map.1 hy; rfl) (by unfold ownL; rw [List.length_map]; omega)
      obtain ⟨N, hN⟩ : ∃ N, (ownL (noiR gr hold nd i t) i).length = N := ⟨_, rfl⟩
      rw [hN] at hal F
      replace GB_ := GB_.trans GW
      clear hO GW
      refine Y.lit (by kernel_rfl) ?_
      refine Y.pval F (X.w0 rfl) rfl (X.load rfl (F.ev 3 (.pointer (some ⟨w.heap.size, 0, none⟩))) (X.ldN (Try.agg24 _) (Try.siz24 _) (Y.atz (⟨w.heap.size, 0, none⟩) (Y.AtFrom.cons (hC.at 0 rfl) (Y.AtFrom.cons (hC.at 1 rfl) (Y.AtFrom.cons (hC.at 2 rfl) (Y.AtFrom.nil _ _ _))))))) ?_
      clear F ac
      intro ac F
      refine Y.pval F (X.w0 rfl) rfl (X.move rfl (F.ev 1 (.int .i64 t))) ?_
      clear F ac
      intro ac F
      refine Y.pval F (X.w0 rfl) rfl (X.move rfl (F.ev 16 (.slice al N alc))) ?_
      clear F ac
      intro ac F
      refine Y.pcall F (X.w0 rfl) rfl (X.enter (F := 18) rfl (X.kc (.func (.func 18) #[] #[]) rfl) (X.a3 (F.ev 109 (.agg #[.int .i64 gr, .int .i64 hold, .slice na n nc])) (F.ev 110 (.int .i64 t)) (F.ev 111 (.slice al N alc))) (enters_of Try.func18 (by kernel_rfl) rfl _)) (play_any na al n nc N alc gr hold t nd (ownL (noiR gr hold nd i t) i) w43 hnd hal) ?_
      clear F ac
      rintro e w47 ⟨ra46, rn46, rc46, ea46, en46, ec46, rfl, hr46, he46, g⟩
      refine ⟨_, rfl, ?_⟩
      intro ac F
      replace G := G.trans g
      replace hC := hC.gr g
      replace GB_ := GB_.trans g
      replace hnd := hnd.gr g
      replace hl := hl.gr g
      replace hi12 := hi12.gr g
      replace hz := hz.gr g
      replace hal := hal.gr g
      clear g
      refine Y.pval F (X.w0 rfl) rfl (X.move rfl (F.ev 112 (.tuple #[.slice ra46 rn46 rc46, .slice ea46 en46 ec46, .int .i64 (playE gr hold nd t (ownL (noiR gr hold nd i t) i))]))) ?_
      clear F ac
      intro ac F
      refine Y.pval F (X.w0 rfl) rfl (X.extract rfl (F.ev 108 (.tuple #[.slice ra46 rn46 rc46, .slice ea46 en46 ec46, .int .i64 (playE gr hold nd t (ownL (noiR gr hold nd i t) i))])) rfl) ?_
      clear F ac
      intro ac F
      refine Y.pval F (X.w0 rfl) rfl (X.extract rfl (F.ev 108 (.tuple #[.slice ra46 rn46 rc46, .slice ea46 en46 ec46, .int .i64 (playE gr hold nd t (ownL (noiR gr hold nd i t) i))])) rfl) ?_
      clear F ac
      intro ac F
      refine Y.pval F (X.w0 rfl) rfl (X.extract rfl (F.ev 108 (.tuple #[.slice ra46 rn46 rc46, .slice ea46 en46 ec46, .int .i64 (playE gr hold nd t (ownL (noiR gr hold nd i t) i))])) rfl) ?_
      clear F ac
      intro ac F
      refine Y.pval F (X.w0 rfl) rfl (X.assign rfl (F.ev 113 (.slice ra46 rn46 rc46))) ?_
      clear F ac
      intro ac F
      refine Y.pval F (X.w0 rfl) rfl (X.assign rfl (F.ev 114 (.slice ea46 en46 ec46))) ?_
      clear F ac
      intro ac F
      refine Y.pval F (X.w0 rfl) rfl (X.assign rfl (F.ev 115 (.int .i64 (playE gr hold nd t (ownL (noiR gr hold nd i t) i))))) ?_
      clear F ac
      intro ac F
      refine Y.nil ?_
      replace F : Fr ac 186 [(0, .agg #[.int .i64 gr, .int .i64 hold, .slice na n nc]), (1, .int .i64 t), (2, .slice la m lc), (3, .pointer (some ⟨w.heap.size, 0, none⟩)), (8, .slice (some pd38) n ec12), (9, .int .i64 (playE gr hold nd t (withoutL l 1))), (10, .int .i64 ((sumN nd hold t i : Int) + (worstV gr hold nd i t))), (11, .int .i64 i), (12, .int .i64 (worstV gr hold nd i t)), (13, .int .i64 (nodeE gr hold nd i t)), (14, .slice za zm zc), (15, .int .i64 (playE gr hold nd t (ownL (noiR gr hold nd i t) i))), (16, .slice al N alc), (17, .int .i64 zm), (18, .slice ra46 rn46 rc46), (19, .slice ea46 en46 ec46), (29, .bool false), (41, .bool false), (48, .bool false), (53, .bool true), (89, .bool false), (96, .bool false)] := F.sub _
      refine X.thenN ?_
      refine Y.seq ?_
      refine Y.seq ?_
      refine Y.lit (by kernel_rfl) ?_
      refine Y.pval F (X.w0 rfl) rfl (X.move rfl (F.ev 15 (.int .i64 (playE gr hold nd t (ownL (noiR gr hold nd i t) i))))) ?_
      clear F ac
      intro ac F
      refine Y.pval F (X.w0 rfl) rfl (X.binop rfl (F.ev 116 (.int .i64 (playE gr hold nd t (ownL (noiR gr hold nd i t) i)))) (X.kc (.int .i64 0) rfl) (X.neqI Try.underlying26 rfl)) ?_
      clear F ac
      intro ac F
      refine Y.pval F (X.w0 rfl) rfl (X.move rfl (F.ev 117 (.bool ((playE gr hold nd t (ownL (noiR gr hold nd i t) i) : Int) != 0)))) ?_
      clear F ac
      intro ac F
      have h49 : ((playE gr hold nd t (ownL (noiR gr hold nd i t) i) : Int) != 0) = false := by rw [ho3]; rfl
      try rw [h49] at F
      have hok := playE_ok ho3
      have hc := hok.c
      have ht0 := hok.t0
      have h16 := hc.n16
      obtain rfl : rn46 = t.toNat := by have h8 := (by have h9 := hr46.len; rw [playRows_len ho3] at h9; exact h9); exact h8.symm
      obtain rfl : n = en46 := by have h9 := he46.len; rw [playEn_len ho3, hlen] at h9; exact h9
      refine Y.pval F (X.w1 rfl (F.yl (j := 2) (d := 118) (b := false) rfl (by kernel_rfl))) rfl (X.move rfl (F.ev 19 (.slice ea46 n ec46))) ?_
      clear F ac
      intro ac F
      refine Y.pval F (X.w1 rfl (F.yl (j := 2) (d := 118) (b := false) rfl (by kernel_rfl))) rfl (X.len1 Try.underlying34 rfl (F.ev 119 (.slice ea46 n ec46))) ?_
      clear F ac
      intro ac F
      refine Y.pval F (X.w1 rfl (F.yl (j := 2) (d := 118) (b := false) rfl (by kernel_rfl))) rfl (X.field rfl (F.ev 3 (.pointer (some ⟨w.heap.size, 0, none⟩))) (X.fld Try.underlying24 rfl (Try.siz22 _) rfl rfl)) ?_
      clear F ac
      intro ac F
      refine Y.pval F (X.w1 rfl (F.yl (j := 2) (d := 118) (b := false) rfl (by kernel_rfl))) rfl (X.load rfl (F.ev 121 (.pointer (some ⟨w.heap.size, 2, none⟩))) (X.ld1 (Try.agg22 _) (hC.at 2 rfl))) ?_
      clear F ac
      intro ac F
      refine Y.pval F (X.w1 rfl (F.yl (j := 2) (d := 118) (b := false) rfl (by kernel_rfl))) rfl (X.len1 Try.underlying22 rfl (F.ev 122 (.slice na n nc))) ?_
      clear F ac
      intro ac F
      refine Y.pval F (X.w1 rfl (F.yl (j := 2) (d := 118) (b := false) rfl (by kernel_rfl))) rfl (X.binop rfl (F.ev 120 (.int .i64 n)) (F.ev 123 (.int .i64 n)) (X.neqI Try.underlying3 (show ((n : Int) != n) = false by simp))) ?_
      clear F ac
      intro ac F
      refine Y.pval F (X.w0 rfl) rfl (X.pickF rfl (F.ev 118 (.bool false)) (F.ev 124 (.bool false))) ?_
      clear F ac
      intro ac F
      refine Y.pval F (X.w0 rfl) rfl (X.move rfl (F.ev 125 (.bool false))) ?_
      clear F ac
      intro ac F
      refine Y.pval F (X.w1 rfl (F.yl (j := 10) (d := 126) (b := false) rfl (by kernel_rfl))) rfl (X.move rfl (F.ev 19 (.slice ea46 n ec46))) ?_
      clear F ac
      intro ac F
      refine Y.pval F (X.w1 rfl (F.yl (j := 10) (d := 126) (b := false) rfl (by kernel_rfl))) rfl (X.move rfl (F.ev 11 (.int .i64 i))) ?_
      clear F ac
      intro ac F
      obtain ⟨pd50, pe50, -, pc50⟩ := he46.at (j := i) (by omega)
      subst pe50
      replace hC : RCells w47 [(⟨w.heap.size, 0, none⟩, .int .i64 gr), (⟨w.heap.size, 1, none⟩, .int .i64 hold), (⟨w.heap.size, 2, none⟩, .slice na n nc), (pd38.add i, .int .i64 ((playEn gr hold nd t (withoutL l 1))[i]?.getD 0)), (pd50.add i, .int .i64 ((playEn gr hold nd t (ownL (noiR gr hold nd i t) i))[i]?.getD 0))] := hC.append ((RCells.cons pc50 (RCells.nil _)))
      clear pc50
      refine Y.pval F (X.w1 rfl (F.yl (j := 10) (d := 126) (b := false) rfl (by kernel_rfl))) rfl (X.index rfl (F.ev 127 (.slice (some pd50) n ec46)) (F.ev 128 (.int .i64 i)) (X.idx (k := i) Try.underlying34 (Try.siz3 _) (by omega) (by omega) (by rw [Nat.mul_one]))) ?_
      clear F ac
      intro ac F
      refine Y.pval F (X.w1 rfl (F.yl (j := 10) (d := 126) (b := false) rfl (by kernel_rfl))) rfl (X.load rfl (F.ev 129 (.pointer (some (pd50.add i)))) (X.ld1 (Try.agg3 _) (hC.at 4 rfl))) ?_
      clear F ac
      intro ac F
      refine Y.pval F (X.w1 rfl (F.yl (j := 10) (d := 126) (b := false) rfl (by kernel_rfl))) rfl (X.move rfl (F.ev 12 (.int .i64 (worstV gr hold nd i t)))) ?_
      clear F ac
      intro ac F
      refine Y.pval F (X.w1 rfl (F.yl (j := 10) (d := 126) (b := false) rfl (by kernel_rfl))) rfl (X.binop rfl (F.ev 130 (.int .i64 ((playEn gr hold nd t (ownL (noiR gr hold nd i t) i))[i]?.getD 0))) (F.ev 131 (.int .i64 (worstV gr hold nd i t))) (X.neqI Try.underlying3 rfl)) ?_
      clear F ac
      intro ac F
      refine Y.pval F (X.w0 rfl) rfl (X.pickF rfl (F.ev 126 (.bool false)) (F.ev 132 (.bool (((playEn gr hold nd t (ownL (noiR gr hold nd i t) i))[i]?.getD 0 : Int) != (worstV gr hold nd i t))))) ?_
      clear F ac
      intro ac F
      refine Y.pval F (X.w0 rfl) rfl (X.move rfl (F.ev 133 (.bool (((playEn gr hold nd t (ownL (noiR gr hold nd i t) i))[i]?.getD 0 : Int) != (worstV gr hold nd i t))))) ?_
      clear F ac
      intro ac F
      have h52 : (((playEn gr hold nd t (ownL (noiR gr hold nd i t) i))[i]?.getD 0 : Int) != (worstV gr hold nd i t)) = false := by rw [ho4]; simp
      try rw [h52] at F
      refine Y.pval F (X.w1 rfl (F.yl (j := 18) (d := 134) (b := false) rfl (by kernel_rfl))) rfl (X.move rfl (F.ev 18 (.slice ra46 t.toNat rc46))) ?_
      clear F ac
      intro ac F
      refine Y.pval F (X.w1 rfl (F.yl (j := 18) (d := 134) (b := false) rfl (by kernel_rfl))) rfl (X.len1 Try.underlying34 rfl (F.ev 135 (.slice ra46 t.toNat rc46))) ?_
      clear F ac
      intro ac F
      refine Y.pval F (X.w1 rfl (F.yl (j := 18) (d := 134) (b := false) rfl (by kernel_rfl))) rfl (X.move rfl (F.ev 1 (.int .i64 t))) ?_
      clear F ac
      intro ac F
      refine Y.pval F (X.w1 rfl (F.yl (j := 18) (d := 134) (b := false) rfl (by kernel_rfl))) rfl (X.binop rfl (F.ev 136 (.int .i64 t.toNat)) (F.ev 137 (.int .i64 t)) (X.neqI Try.underlying3 rfl)) ?_
      clear F ac
      intro ac F
      refine Y.pval F (X.w0 rfl) rfl (X.pickF rfl (F.ev 134 (.bool false)) (F.ev 138 (.bool ((t.toNat : Int) != t)))) ?_
      clear F ac
      intro ac F
      refine Y.nil ?_
      replace F : Fr ac 186 [(0, .agg #[.int .i64 gr, .int .i64 hold, .slice na n nc]), (1, .int .i64 t), (2, .slice la m lc), (3, .pointer (some ⟨w.heap.size, 0, none⟩)), (8, .slice (some pd38) n ec12), (9, .int .i64 (playE gr hold nd t (withoutL l 1))), (10, .int .i64 ((sumN nd hold t i : Int) + (worstV gr hold nd i t))), (11, .int .i64 i), (12, .int .i64 (worstV gr hold nd i t)), (13, .int .i64 (nodeE gr hold nd i t)), (14, .slice za zm zc), (15, .int .i64 (playE gr hold nd t (ownL (noiR gr hold nd i t) i))), (16, .slice al N alc), (17, .int .i64 zm), (18, .slice ra46 t.toNat rc46), (19, .slice (some pd50) n ec46), (29, .bool false), (41, .bool false), (48, .bool false), (53, .bool true), (89, .bool false), (96, .bool false), (139, .bool ((t.toNat : Int) != t))] := F.sub _
      refine X.thenN ?_
      have h54 : ((t.toNat : Int) != t) = false := bne_eq_false_iff_eq.2 (by omega)
      try rw [h54] at F
      refine Y.condF (F.ev 139 (.bool false)) ?_
      refine Y.skip ?_
      refine X.thenN ?_
      refine Y.seq ?_
      refine Y.lit (by kernel_rfl) ?_
      refine Y.pval F (X.w0 rfl) rfl (X.assign rfl (X.kc (.int .i64 0) rfl)) ?_
      clear F ac
      intro ac F
      refine Y.nil ?_
      replace F : Fr ac 186 [(0, .agg #[.int .i64 gr, .int .i64 hold, .slice na n nc]), (1, .int .i64 t), (2, .slice la m lc), (3, .pointer (some ⟨w.heap.size, 0, none⟩)), (8, .slice (some pd38) n ec12), (9, .int .i64 (playE gr hold nd t (withoutL l 1))), (10, .int .i64 ((sumN nd hold t i : Int) + (worstV gr hold nd i t))), (11, .int .i64 i), (12, .int .i64 (worstV gr hold nd i t)), (13, .int .i64 (nodeE gr hold nd i t)), (14, .slice za zm zc), (15, .int .i64 (playE gr hold nd t (ownL (noiR gr hold nd i t) i))), (16, .slice al N alc), (17, .int .i64 zm), (18, .slice ra46 t.toNat rc46), (19, .slice (some pd50) n ec46), (20, .int .i64 0), (29, .bool false), (41, .bool false), (48, .bool false), (53, .bool true), (89, .bool false), (96, .bool false), (139, .bool false)] := F.sub _
      refine X.thenN ?_
      refine Y.block ?_
      have hndBBB := hnd
      have hlBBB := hl
      have hi12BBB := hi12
      have hzBBB := hz
      have halBBB := hal
      have hr46BBB := hr46
      have he46BBB := he46
      have hCBBB := hC
      have GBBB := G
      refine Y.loop (fun me_ ac wr => ∃ (q : Nat), me_ = zm - q ∧ Gr w47 wr ∧ q ≤ zm ∧ Fr ac 186 [(0, .agg #[.int .i64 gr, .int .i64 hold, .slice na n nc]), (1, .int .i64 t), (2, .slice la m lc), (3, .pointer (some ⟨w.heap.size, 0, none⟩)), (8, .slice (some pd38) n ec12), (9, .int .i64 (playE gr hold nd t (withoutL l 1))), (10, .int .i64 ((sumN nd hold t i : Int) + (worstV gr hold nd i t))), (11, .int .i64 i), (12, .int .i64 (worstV gr hold nd i t)), (13, .int .i64 (nodeE gr hold nd i t)), (14, .slice za zm zc), (15, .int .i64 (playE gr hold nd t (ownL (noiR gr hold nd i t) i))), (16, .slice al N alc), (17, .int .i64 zm), (18, .slice ra46 t.toNat rc46), (19, .slice (some pd50) n ec46), (20, .int .i64 q), (29, .bool false), (41, .bool false), (48, .bool false), (53, .bool true), (89, .bool false), (96, .bool false), (139, .bool false)]) _ ⟨0, rfl, Gr.refl _, Nat.zero_le _, F.sub _⟩ ?_
      clear F
      intro me_ ac w55 hI
      obtain ⟨q, rfl, gr, hj, F⟩ := hI
      replace G := GBBB.trans gr
      replace hC := hCBBB.gr gr
      replace hnd := hndBBB.gr gr
      replace hl := hlBBB.gr gr
      replace hi12 := hi12BBB.gr gr
      replace hz := hzBBB.gr gr
      replace hal := halBBB.gr gr
      replace hr46 := hr46BBB.gr gr
      replace he46 := he46BBB.gr gr
      replace GB_ := GB_.trans gr
      have GBBB_ := gr
      clear gr
      refine Y.seq ?_
      refine Y.seq ?_
      refine Y.lit (by kernel_rfl) ?_
      refine Y.pval F (X.w0 rfl) rfl (X.move rfl (F.ev 20 (.int .i64 q))) ?_
      clear F ac
      intro ac F
      refine Y.pval F (X.w0 rfl) rfl (X.move rfl (F.ev 14 (.slice za zm zc))) ?_
      clear F ac
      intro ac F
      refine Y.pval F (X.w0 rfl) rfl (X.len1 Try.underlying34 rfl (F.ev 141 (.slice za zm zc))) ?_
      clear F ac
      intro ac F
      refine Y.pval F (X.w0 rfl) rfl (X.binop rfl (F.ev 140 (.int .i64 q)) (F.ev 142 (.int .i64 zm)) (X.lssI Try.underlying3 rfl)) ?_
      clear F ac
      intro ac F
      refine Y.nil ?_
      replace F : Fr ac 186 [(0, .agg #[.int .i64 gr, .int .i64 hold, .slice na n nc]), (1, .int .i64 t), (2, .slice la m lc), (3, .pointer (some ⟨w.heap.size, 0, none⟩)), (8, .slice (some pd38) n ec12), (9, .int .i64 (playE gr hold nd t (withoutL l 1))), (10, .int .i64 ((sumN nd hold t i : Int) + (worstV gr hold nd i t))), (11, .int .i64 i), (12, .int .i64 (worstV gr hold nd i t)), (13, .int .i64 (nodeE gr hold nd i t)), (14, .slice za zm zc), (15, .int .i64 (playE gr hold nd t (ownL (noiR gr hold nd i t) i))), (16, .slice al N alc), (17, .int .i64 zm), (18, .slice ra46 t.toNat rc46), (19, .slice (some pd50) n ec46), (20, .int .i64 q), (29, .bool false), (41, .bool false), (48, .bool false), (53, .bool true), (89, .bool false), (96, .bool false), (139, .bool false), (143, .bool (decide ((q : Int) < zm)))] := F.sub _
      refine X.thenN ?_
      cases h56 : decide ((q : Int) < zm) with
      | false =>
       try rw [h56] at F
       have h56p : ¬ ((q : Int) < zm) := of_decide_eq_false h56
       refine Y.condF (F.ev 143 (.bool false)) ?_
       refine Y.exit ?_
       refine X.thenX ?_
       refine X.thenX ?_
       refine X.blockX ?_
       refine X.blockN ?_
       refine X.thenN ?_
       refine Y.lit (by kernel_rfl) ?_
       refine Y.pval F (X.w0 rfl) rfl (X.move rfl (F.ev 11 (.int .i64 i))) ?_
       clear F ac
       intro ac F
       refine Y.pval F (X.w0 rfl) rfl (X.binop rfl (F.ev 54 (.int .i64 i)) (X.kc (.int .i64 1) rfl) (X.addI Try.underlying3 rfl (by omega) (by omega))) ?_
       clear F ac
       intro ac F
       refine Y.pval F (X.w0 rfl) rfl (X.assign rfl (F.ev 55 (.int .i64 ((i : Int) + 1)))) ?_
       clear F ac
       intro ac F
       refine Y.nil ?_
       replace F : Fr ac 186 [(0, .agg #[.int .i64 gr, .int .i64 hold, .slice na n nc]), (1, .int .i64 t), (2, .slice la m lc), (3, .pointer (some ⟨w.heap.size, 0, none⟩)), (8, .slice (some pd38) n ec12), (9, .int .i64 (playE gr hold nd t (withoutL l 1))), (10, .int .i64 ((sumN nd hold t i : Int) + (worstV gr hold nd i t))), (11, .int .i64 ((i : Int) + 1)), (12, .int .i64 (worstV gr hold nd i t)), (13, .int .i64 (nodeE gr hold nd i t)), (14, .slice za zm zc), (15, .int .i64 (playE gr hold nd t (ownL (noiR gr hold nd i t) i))), (16, .slice al N alc), (17, .int .i64 zm), (18, .slice ra46 t.toNat rc46), (19, .slice (some pd50) n ec46), (20, .int .i64 q), (29, .bool false), (41, .bool false), (48, .bool false), (53, .bool true), (89, .bool false), (96, .bool false), (139, .bool false), (143, .bool false)] := F.sub _
       refine X.thenN ?_
       refine ⟨_, ?_, i + 1, rfl, GB_, by omega, (by rw [show sumN nd hold t (i + 1) = sumN nd hold t i + worstV gr hold nd i t from by simp only [sumN]; unfold worstV; rw [if_pos ho1, Int.toNat_natCast]]; exact F.sub _)⟩
       omega
      | true =>
       try rw [h56] at F
       have h56p : ((q : Int) < zm) := of_decide_eq_true h56
       obtain ⟨k0, k1, k2, k3⟩ := ho5 q (by omega)
       refine Y.condT (F.ev 143 (.bool true)) ?_
       refine Y.skip ?_
       refine X.thenN ?_
       refine Y.seq ?_
       refine Y.block ?_
       refine Y.seq ?_
       refine Y.lit (by kernel_rfl) ?_
       refine Y.pval F (X.w0 rfl) rfl (X.move rfl (F.ev 14 (.slice za zm zc))) ?_
       clear F ac
       intro ac F
       refine Y.pval F (X.w0 rfl) rfl (X.move rfl (F.ev 20 (.int .i64 q))) ?_
       clear F ac
       intro ac F
       obtain ⟨pd57, pe57, -, pc57⟩ := hz.at (j := q) (by omega)
       subst pe57
       replace hC : RCells w55 [(⟨w.heap.size, 0, none⟩, .int .i64 gr), (⟨w.heap.size, 1, none⟩, .int .i64 hold), (⟨w.heap.size, 2, none⟩, .slice na n nc), (pd38.add i, .int .i64 ((playEn gr hold nd t (withoutL l 1))[i]?.getD 0)), (pd50.add i, .int .i64 ((playEn gr hold nd t (ownL (noiR gr hold nd i t) i))[i]?.getD 0)), (pd57.add q, .int .i64 ((noiR gr hold nd i t)[q]?.getD 0))] := hC.append ((RCells.cons pc57 (RCells.nil _)))
       clear pc57
       refine Y.pval F (X.w0 rfl) rfl (X.index rfl (F.ev 146 (.slice (some pd57) zm zc)) (F.ev 147 (.int .i64 q)) (X.idx (k := q) Try.underlying34 (Try.siz3 _) (by omega) (by omega) (by rw [Nat.mul_one]))) ?_
       clear F ac
       intro ac F
       refine Y.pval F (X.w0 rfl) rfl (X.load rfl (F.ev 148 (.pointer (some (pd57.add q)))) (X.ld1 (Try.agg3 _) (hC.at 5 rfl))) ?_
       clear F ac
       intro ac F
       refine Y.pval F (X.w0 rfl) rfl (X.assign rfl (F.ev 149 (.int .i64 ((noiR gr hold nd i t)[q]?.getD 0)))) ?_
       clear F ac
       intro ac F
       refine Y.nil ?_
       replace F : Fr ac 186 [(0, .agg #[.int .i64 gr, .int .i64 hold, .slice na n nc]), (1, .int .i64 t), (2, .slice la m lc), (3, .pointer (some ⟨w.heap.size, 0, none⟩)), (8, .slice (some pd38) n ec12), (9, .int .i64 (playE gr hold nd t (withoutL l 1))), (10, .int .i64 ((sumN nd hold t i : Int) + (worstV gr hold nd i t))), (11, .int .i64 i), (12, .int .i64 (worstV gr hold nd i t)), (13, .int .i64 (nodeE gr hold nd i t)), (14, .slice (some pd57) zm zc), (15, .int .i64 (playE gr hold nd t (ownL (noiR gr hold nd i t) i))), (16, .slice al N alc), (17, .int .i64 zm), (18, .slice ra46 t.toNat rc46), (19, .slice (some pd50) n ec46), (20, .int .i64 q), (21, .int .i64 ((noiR gr hold nd i t)[q]?.getD 0)), (29, .bool false), (41, .bool false), (48, .bool false), (53, .bool true), (89, .bool false), (96, .bool false), (139, .bool false), (143, .bool true)] := F.sub _
       refine X.thenN ?_
       refine Y.seq ?_
       refine Y.lit (by kernel_rfl) ?_
       refine Y.pval F (X.w0 rfl) rfl (X.move rfl (F.ev 18 (.slice ra46 t.toNat rc46))) ?_
       clear F ac
       intro ac F
       refine Y.pval F (X.w0 rfl) rfl (X.move rfl (F.ev 21 (.int .i64 ((noiR gr hold nd i t)[q]?.getD 0)))) ?_
       clear F ac
       intro ac F
       obtain ⟨pd58, pe58, -, pc58⟩ := hr46.at (j := ((noiR gr hold nd i t)[q]?.getD 0).toNat) (by omega)
       subst pe58
       replace hC : RCells w55 [(⟨w.heap.size, 0, none⟩, .int .i64 gr), (⟨w.heap.size, 1, none⟩, .int .i64 hold), (⟨w.heap.size, 2, none⟩, .slice na n nc), (pd38.add i, .int .i64 ((playEn gr hold nd t (withoutL l 1))[i]?.getD 0)), (pd50.add i, .int .i64 ((playEn gr hold nd t (ownL (noiR gr hold nd i t) i))[i]?.getD 0)), (pd57.add q, .int .i64 ((noiR gr hold nd i t)[q]?.getD 0)), (pd58.add (((noiR gr hold nd i t)[q]?.getD 0).toNat), .int .i64 ((playRows gr hold nd t (ownL (noiR gr hold nd i t) i))[((noiR gr hold nd i t)[q]?.getD 0).toNat]?.getD 0))] := hC.append ((RCells.cons pc58 (RCells.nil _)))
       clear pc58
       refine Y.pval F (X.w0 rfl) rfl (X.index rfl (F.ev 150 (.slice (some pd58) t.toNat rc46)) (F.ev 151 (.int .i64 ((noiR gr hold nd i t)[q]?.getD 0))) (X.idx (k := ((noiR gr hold nd i t)[q]?.getD 0).toNat) Try.underlying34 (Try.siz3 _) (by omega) (by omega) (by rw [Nat.mul_one]))) ?_
       clear F ac
       intro ac F
       refine Y.pval F (X.w0 rfl) rfl (X.load rfl (F.ev 152 (.pointer (some (pd58.add (((noiR gr hold nd i t)[q]?.getD 0).toNat))))) (X.ld1 (Try.agg3 _) (hC.at 6 rfl))) ?_
       clear F ac
       intro ac F
       refine Y.pval F (X.w0 rfl) rfl (X.move rfl (F.ev 11 (.int .i64 i))) ?_
       clear F ac
       intro ac F
       refine Y.pcall F (X.w0 rfl) rfl (X.enter (F := 17) rfl (X.kc (.func (.func 17) #[] #[]) rfl) (X.a2 (F.ev 153 (.int .i64 ((playRows gr hold nd t (ownL (noiR gr hold nd i t) i))[((noiR gr hold nd i t)[q]?.getD 0).toNat]?.getD 0))) (F.ev 154 (.int .i64 i))) (enters_of Try.func17 (by kernel_rfl) rfl _)) (bit_any ((playRows gr hold nd t (ownL (noiR gr hold nd i t) i))[((noiR gr hold nd i t)[q]?.getD 0).toNat]?.getD 0) i w55 (by omega)) ?_
       clear F ac
       rintro e w' ⟨rfl, hw_⟩
       obtain rfl : w55 = w' := hw_.symm
       clear hw_
       refine ⟨_, rfl, ?_⟩
       intro ac F
       refine Y.pval F (X.w0 rfl) rfl (X.notB rfl (F.ev 155 (.bool (bitB ((playRows gr hold nd t (ownL (noiR gr hold nd i t) i))[((noiR gr hold nd i t)[q]?.getD 0).toNat]?.getD 0) i))) rfl) ?_
       clear F ac
       intro ac F
       refine Y.pval F (X.w0 rfl) rfl (X.move rfl (F.ev 156 (.bool (!(bitB ((playRows gr hold nd t (ownL (noiR gr hold nd i t) i))[((noiR gr hold nd i t)[q]?.getD 0).toNat]?.getD 0) i))))) ?_
       clear F ac
       intro ac F
       have h60 : bitB ((playRows gr hold nd t (ownL (noiR gr hold nd i t) i))[((noiR gr hold nd i t)[q]?.getD 0).toNat]?.getD 0) i = true := k2
       try rw [h60] at F
       refine Y.pval F (X.w1 rfl (F.yl (j := 7) (d := 157) (b := false) rfl (by kernel_rfl))) rfl (X.move rfl (F.ev 21 (.int .i64 ((noiR gr hold nd i t)[q]?.getD 0)))) ?_
       clear F ac
       intro ac F
       refine Y.pval F (X.w1 rfl (F.yl (j := 7) (d := 157) (b := false) rfl (by kernel_rfl))) rfl (X.binop rfl (F.ev 158 (.int .i64 ((noiR gr hold nd i t)[q]?.getD 0))) (X.kc (.int .i64 0) rfl) (X.gtrI Try.underlying3 rfl)) ?_
       clear F ac
       intro ac F
       refine Y.pval F (X.w1 rfl (F.yl (j := 7) (d := 157) (b := false) rfl (by kernel_rfl))) rfl (X.move rfl (F.ev 159 (.bool (decide ((0 : Int) < ((noiR gr hold nd i t)[q]?.getD 0)))))) ?_
       clear F ac
       intro ac F
       cases h61 : decide ((0 : Int) < ((noiR gr hold nd i t)[q]?.getD 0)) with
       | false =>
        try rw [h61] at F
        have h61p : ¬ ((0 : Int) < ((noiR gr hold nd i t)[q]?.getD 0)) := of_decide_eq_false h61
        refine Y.pskip F (X.w2 rfl (F.yl (j := 10) (d := 160) (b := false) rfl (by kernel_rfl)) rfl) rfl ?_
        clear F ac
        intro ac F
        refine Y.pskip F (X.w2 rfl (F.yl (j := 10) (d := 160) (b := false) rfl (by kernel_rfl)) rfl) rfl ?_
        clear F ac
        intro ac F
        refine Y.pskip F (X.w2 rfl (F.yl (j := 10) (d := 160) (b := false) rfl (by kernel_rfl)) rfl) rfl ?_
        clear F ac
        intro ac F
        refine Y.pskip F (X.w2 rfl (F.yl (j := 10) (d := 160) (b := false) rfl (by kernel_rfl)) rfl) rfl ?_
        clear F ac
        intro ac F
        refine Y.pskip F (X.w2 rfl (F.yl (j := 10) (d := 160) (b := false) rfl (by kernel_rfl)) rfl) rfl ?_
        clear F ac
        intro ac F
        refine Y.pskip F (X.w2 rfl (F.yl (j := 10) (d := 160) (b := false) rfl (by kernel_rfl)) rfl) rfl ?_
        clear F ac
        intro ac F
        refine Y.pskip F (X.w2 rfl (F.yl (j := 10) (d := 160) (b := false) rfl (by kernel_rfl)) rfl) rfl ?_
        clear F ac
        intro ac F
        refine Y.pval F (X.w1 rfl (F.yl (j := 7) (d := 157) (b := false) rfl (by kernel_rfl))) rfl (X.pickF rfl (F.ev 160 (.bool false)) (X.kc (.bool false) rfl)) ?_
        clear F ac
        intro ac F
        refine Y.pval F (X.w0 rfl) rfl (X.pickF rfl (F.ev 157 (.bool false)) (F.ev 168 (.bool false))) ?_
        clear F ac
        intro ac F
        refine Y.nil ?_
        replace F : Fr ac 186 [(0, .agg #[.int .i64 gr, .int .i64 hold, .slice na n nc]), (1, .int .i64 t), (2, .slice la m lc), (3, .pointer (some ⟨w.heap.size, 0, none⟩)), (8, .slice (some pd38) n ec12), (9, .int .i64 (playE gr hold nd t (withoutL l 1))), (10, .int .i64 ((sumN nd hold t i : Int) + (worstV gr hold nd i t))), (11, .int .i64 i), (12, .int .i64 (worstV gr hold nd i t)), (13, .int .i64 (nodeE gr hold nd i t)), (14, .slice (some pd57) zm zc), (15, .int .i64 (playE gr hold nd t (ownL (noiR gr hold nd i t) i))), (16, .slice al N alc), (17, .int .i64 zm), (18, .slice (some pd58) t.toNat rc46), (19, .slice (some pd50) n ec46), (20, .int .i64 q), (21, .int .i64 ((noiR gr hold nd i t)[q]?.getD 0)), (29, .bool false), (41, .bool false), (48, .bool false), (53, .bool true), (89, .bool false), (96, .bool false), (139, .bool false), (143, .bool true), (169, .bool false)] := F.sub _
        refine X.thenN ?_
        refine Y.condF (F.ev 169 (.bool false)) ?_
        refine Y.skip ?_
        refine X.blockN ?_
        refine X.thenN ?_
        refine Y.lit (by kernel_rfl) ?_
        refine Y.pval F (X.w0 rfl) rfl (X.move rfl (F.ev 20 (.int .i64 q))) ?_
        clear F ac
        intro ac F
        refine Y.pval F (X.w0 rfl) rfl (X.binop rfl (F.ev 144 (.int .i64 q)) (X.kc (.int .i64 1) rfl) (X.addI Try.underlying3 rfl (by omega) (by omega))) ?_
        clear F ac
        intro ac F
        refine Y.pval F (X.w0 rfl) rfl (X.assign rfl (F.ev 145 (.int .i64 ((q : Int) + 1)))) ?_
        clear F ac
        intro ac F
        refine Y.nil ?_
        replace F : Fr ac 186 [(0, .agg #[.int .i64 gr, .int .i64 hold, .slice na n nc]), (1, .int .i64 t), (2, .slice la m lc), (3, .pointer (some ⟨w.heap.size, 0, none⟩)), (8, .slice (some pd38) n ec12), (9, .int .i64 (playE gr hold nd t (withoutL l 1))), (10, .int .i64 ((sumN nd hold t i : Int) + (worstV gr hold nd i t))), (11, .int .i64 i), (12, .int .i64 (worstV gr hold nd i t)), (13, .int .i64 (nodeE gr hold nd i t)), (14, .slice (some pd57) zm zc), (15, .int .i64 (playE gr hold nd t (ownL (noiR gr hold nd i t) i))), (16, .slice al N alc), (17, .int .i64 zm), (18, .slice (some pd58) t.toNat rc46), (19, .slice (some pd50) n ec46), (20, .int .i64 ((q : Int) + 1)), (21, .int .i64 ((noiR gr hold nd i t)[q]?.getD 0)), (29, .bool false), (41, .bool false), (48, .bool false), (53, .bool true), (89, .bool false), (96, .bool false), (139, .bool false), (143, .bool true), (169, .bool false)] := F.sub _
        refine X.thenN ?_
        refine ⟨_, ?_, q + 1, rfl, GBBB_, by omega, F.sub _⟩
        omega
       | true =>
        try rw [h61] at F
        have h61p : ((0 : Int) < ((noiR gr hold nd i t)[q]?.getD 0)) := of_decide_eq_true h61
        refine Y.pval F (X.w1 rfl (F.yl (j := 10) (d := 160) (b := true) rfl (by kernel_rfl))) rfl (X.move rfl (F.ev 18 (.slice (some pd58) t.toNat rc46))) ?_
        clear F ac
        intro ac F
        refine Y.pval F (X.w1 rfl (F.yl (j := 10) (d := 160) (b := true) rfl (by kernel_rfl))) rfl (X.move rfl (F.ev 21 (.int .i64 ((noiR gr hold nd i t)[q]?.getD 0)))) ?_
        clear F ac
        intro ac F
        refine Y.pval F (X.w1 rfl (F.yl (j := 10) (d := 160) (b := true) rfl (by kernel_rfl))) rfl (X.binop rfl (F.ev 162 (.int .i64 ((noiR gr hold nd i t)[q]?.getD 0))) (X.kc (.int .i64 1) rfl) (X.subI Try.underlying3 rfl (by omega) (by omega))) ?_
        clear F ac
        intro ac F
        obtain ⟨pd62, pe62, -, pc62⟩ := hr46.at (j := (((noiR gr hold nd i t)[q]?.getD 0 : Int) - 1).toNat) (by omega)
        injection pe62 with pe62
        subst pe62
        replace hC : RCells w55 [(⟨w.heap.size, 0, none⟩, .int .i64 gr), (⟨w.heap.size, 1, none⟩, .int .i64 hold), (⟨w.heap.size, 2, none⟩, .slice na n nc), (pd38.add i, .int .i64 ((playEn gr hold nd t (withoutL l 1))[i]?.getD 0)), (pd50.add i, .int .i64 ((playEn gr hold nd t (ownL (noiR gr hold nd i t) i))[i]?.getD 0)), (pd57.add q, .int .i64 ((noiR gr hold nd i t)[q]?.getD 0)), (pd58.add (((noiR gr hold nd i t)[q]?.getD 0).toNat), .int .i64 ((playRows gr hold nd t (ownL (noiR gr hold nd i t) i))[((noiR gr hold nd i t)[q]?.getD 0).toNat]?.getD 0)), (pd58.add ((((noiR gr hold nd i t)[q]?.getD 0 : Int) - 1).toNat), .int .i64 ((playRows gr hold nd t (ownL (noiR gr hold nd i t) i))[(((noiR gr hold nd i t)[q]?.getD 0 : Int) - 1).toNat]?.getD 0))] := hC.append ((RCells.cons pc62 (RCells.nil _)))
        clear pc62
        refine Y.pval F (X.w1 rfl (F.yl (j := 10) (d := 160) (b := true) rfl (by kernel_rfl))) rfl (X.index rfl (F.ev 161 (.slice (some pd58) t.toNat rc46)) (F.ev 163 (.int .i64 (((noiR gr hold nd i t)[q]?.getD 0 : Int) - 1))) (X.idx (k := (((noiR gr hold nd i t)[q]?.getD 0 : Int) - 1).toNat) Try.underlying34 (Try.siz3 _) (by omega) (by omega) (by rw [Nat.mul_one]))) ?_
        clear F ac
        intro ac F
        refine Y.pval F (X.w1 rfl (F.yl (j := 10) (d := 160) (b := true) rfl (by kernel_rfl))) rfl (X.load rfl (F.ev 164 (.pointer (some (pd58.add ((((noiR gr hold nd i t)[q]?.getD 0 : Int) - 1).toNat))))) (X.ld1 (Try.agg3 _) (hC.at 7 rfl))) ?_
        clear F ac
        intro ac F
        refine Y.pval F (X.w1 rfl (F.yl (j := 10) (d := 160) (b := true) rfl (by kernel_rfl))) rfl (X.move rfl (F.ev 11 (.int .i64 i))) ?_
        clear F ac
        intro ac F
        refine Y.pcall F (X.w1 rfl (F.yl (j := 10) (d := 160) (b := true) rfl (by kernel_rfl))) rfl (X.enter (F := 17) rfl (X.kc (.func (.func 17) #[] #[]) rfl) (X.a2 (F.ev 165 (.int .i64 ((playRows gr hold nd t (ownL (noiR gr hold nd i t) i))[(((noiR gr hold nd i t)[q]?.getD 0 : Int) - 1).toNat]?.getD 0))) (F.ev 166 (.int .i64 i))) (enters_of Try.func17 (by kernel_rfl) rfl _)) (bit_any ((playRows gr hold nd t (ownL (noiR gr hold nd i t) i))[(((noiR gr hold nd i t)[q]?.getD 0 : Int) - 1).toNat]?.getD 0) i w55 (by omega)) ?_
        clear F ac
        rintro e w' ⟨rfl, hw_⟩
        obtain rfl : w55 = w' := hw_.symm
        clear hw_
        refine ⟨_, rfl, ?_⟩
        intro ac F
        refine Y.pval F (X.w1 rfl (F.yl (j := 7) (d := 157) (b := false) rfl (by kernel_rfl))) rfl (X.pickT rfl (F.ev 160 (.bool true)) (F.ev 167 (.bool (bitB ((playRows gr hold nd t (ownL (noiR gr hold nd i t) i))[(((noiR gr hold nd i t)[q]?.getD 0 : Int) - 1).toNat]?.getD 0) i)))) ?_
        clear F ac
        intro ac F
        refine Y.pval F (X.w0 rfl) rfl (X.pickF rfl (F.ev 157 (.bool false)) (F.ev 168 (.bool (bitB ((playRows gr hold nd t (ownL (noiR gr hold nd i t) i))[(((noiR gr hold nd i t)[q]?.getD 0 : Int) - 1).toNat]?.getD 0) i)))) ?_
        clear F ac
        intro ac F
        refine Y.nil ?_
        replace F : Fr ac 186 [(0, .agg #[.int .i64 gr, .int .i64 hold, .slice na n nc]), (1, .int .i64 t), (2, .slice la m lc), (3, .pointer (some ⟨w.heap.size, 0, none⟩)), (8, .slice (some pd38) n ec12), (9, .int .i64 (playE gr hold nd t (withoutL l 1))), (10, .int .i64 ((sumN nd hold t i : Int) + (worstV gr hold nd i t))), (11, .int .i64 i), (12, .int .i64 (worstV gr hold nd i t)), (13, .int .i64 (nodeE gr hold nd i t)), (14, .slice (some pd57) zm zc), (15, .int .i64 (playE gr hold nd t (ownL (noiR gr hold nd i t) i))), (16, .slice al N alc), (17, .int .i64 zm), (18, .slice (some pd58) t.toNat rc46), (19, .slice (some pd50) n ec46), (20, .int .i64 q), (21, .int .i64 ((noiR gr hold nd i t)[q]?.getD 0)), (29, .bool false), (41, .bool false), (48, .bool false), (53, .bool true), (89, .bool false), (96, .bool false), (139, .bool false), (143, .bool true), (169, .bool (bitB ((playRows gr hold nd t (ownL (noiR gr hold nd i t) i))[(((noiR gr hold nd i t)[q]?.getD 0 : Int) - 1).toNat]?.getD 0) i))] := F.sub _
        refine X.thenN ?_
        have h64 : bitB ((playRows gr hold nd t (ownL (noiR gr hold nd i t) i))[(((noiR gr hold nd i t)[q]?.getD 0 : Int) - 1).toNat]?.getD 0) i = false := k3 (by omega)
        try rw [h64] at F
        refine Y.condF (F.ev 169 (.bool false)) ?_
        refine Y.skip ?_
        refine X.blockN ?_
        refine X.thenN ?_
        refine Y.lit (by kernel_rfl) ?_
        refine Y.pval F (X.w0 rfl) rfl (X.move rfl (F.ev 20 (.int .i64 q))) ?_
        clear F ac
        intro ac F
        refine Y.pval F (X.w0 rfl) rfl (X.binop rfl (F.ev 144 (.int .i64 q)) (X.kc (.int .i64 1) rfl) (X.addI Try.underlying3 rfl (by omega) (by omega))) ?_
        clear F ac
        intro ac F
        refine Y.pval F (X.w0 rfl) rfl (X.assign rfl (F.ev 145 (.int .i64 ((q : Int) + 1)))) ?_
        clear F ac
        intro ac F
        refine Y.nil ?_
        replace F : Fr ac 186 [(0, .agg #[.int .i64 gr, .int .i64 hold, .slice na n nc]), (1, .int .i64 t), (2, .slice la m lc), (3, .pointer (some ⟨w.heap.size, 0, none⟩)), (8, .slice (some pd38) n ec12), (9, .int .i64 (playE gr hold nd t (withoutL l 1))), (10, .int .i64 ((sumN nd hold t i : Int) + (worstV gr hold nd i t))), (11, .int .i64 i), (12, .int .i64 (worstV gr hold nd i t)), (13, .int .i64 (nodeE gr hold nd i t)), (14, .slice (some pd57) zm zc), (15, .int .i64 (playE gr hold nd t (ownL (noiR gr hold nd i t) i))), (16, .slice al N alc), (17, .int .i64 zm), (18, .slice (some pd58) t.toNat rc46), (19, .slice (some pd50) n ec46), (20, .int .i64 ((q : Int) + 1)), (21, .int .i64 ((noiR gr hold nd i t)[q]?.getD 0)), (29, .bool false), (41, .bool false), (48, .bool false), (53, .bool true), (89, .bool false), (96, .bool false), (139, .bool false), (143, .bool true), (169, .bool false)] := F.sub _
        refine X.thenN ?_
        refine ⟨_, ?_, q + 1, rfl, GBBB_, by omega, F.sub _⟩
        omega
     | true =>
      try rw [h44] at F
      have h44p : ((j : Int) < zm) := of_decide_eq_true h44
      refine Y.condT (F.ev 96 (.bool true)) ?_
      refine Y.skip ?_
      refine X.thenN ?_
      refine Y.seq ?_
      refine Y.block ?_
      refine Y.lit (by kernel_rfl) ?_
      refine Y.pval F (X.w0 rfl) rfl (X.move rfl (F.ev 16 (v))) ?_
      clear F ac
      intro ac F
      refine Y.pval F (X.w0 rfl) rfl (X.move rfl (F.ev 14 (.slice za zm zc))) ?_
      clear F ac
      intro ac F
      refine Y.pval F (X.w0 rfl) rfl (X.move rfl (F.ev 17 (.int .i64 j))) ?_
      clear F ac
      intro ac F
      obtain ⟨pd65, pe65, -, pc65⟩ := hz.at (j := j) (by omega)
      subst pe65
      replace hC : RCells w43 [(⟨w.heap.size, 0, none⟩, .int .i64 gr), (⟨w.heap.size, 1, none⟩, .int .i64 hold), (⟨w.heap.size, 2, none⟩, .slice na n nc), (pd38.add i, .int .i64 ((playEn gr hold nd t (withoutL l 1))[i]?.getD 0)), (pd65.add j, .int .i64 ((noiR gr hold nd i t)[j]?.getD 0))] := hC.append ((RCells.cons pc65 (RCells.nil _)))
      clear pc65
      refine Y.pval F (X.w0 rfl) rfl (X.index rfl (F.ev 100 (.slice (some pd65) zm zc)) (F.ev 101 (.int .i64 j)) (X.idx (k := j) Try.underlying34 (Try.siz3 _) (by omega) (by omega) (by rw [Nat.mul_one]))) ?_
      clear F ac
      intro ac F
      refine Y.pval F (X.w0 rfl) rfl (X.load rfl (F.ev 102 (.pointer (some (pd65.add j)))) (X.ld1 (Try.agg3 _) (hC.at 4 rfl))) ?_
      clear F ac
      intro ac F
      refine Y.pval F (X.w0 rfl) rfl (X.move rfl (F.ev 11 (.int .i64 i))) ?_
      clear F ac
      intro ac F
      refine Y.pval F (X.w0 rfl) rfl (Y.bd rfl (Y.b012 (F.ev 103 (.int .i64 ((noiR gr hold nd i t)[j]?.getD 0))) (X.kc (.int .i64 3) rfl) (F.ev 104 (.int .i64 i))) (Try.bd33d _ _ _ _)) ?_
      clear F ac
      intro ac F
      refine Y.pval F (X.w0 rfl) rfl (X.bs rfl (X.b1 (F.ev 105 (.agg #[.int .i64 ((noiR gr hold nd i t)[j]?.getD 0), .int .i64 3, .int .i64 i, .int .i64 0]))) (Try.bs25 ((noiR gr hold nd i t)[j]?.getD 0) 3 i 0 _)) ?_
      clear F ac
      intro ac F
      have g := Gr.alloc w43 (.cells #[.int .i64 ((noiR gr hold nd i t)[j]?.getD 0), .int .i64 3, .int .i64 i, .int .i64 0] 33)
      have hb := heap_alloc_new w43 (.cells #[.int .i64 ((noiR gr hold nd i t)[j]?.getD 0), .int .i64 3, .int .i64 i, .int .i64 0] 33)
      have hbl : w43.heap.size < (w43.alloc (.cells #[.int .i64 ((noiR gr hold nd i t)[j]?.getD 0), .int .i64 3, .int .i64 i, .int .i64 0] 33)).heap.size := by simp
      generalize w43.alloc (.cells #[.int .i64 ((noiR gr hold nd i t)[j]?.getD 0), .int .i64 3, .int .i64 i, .int .i64 0] 33) = w66 at *
      replace G := G.trans g
      replace hC := hC.gr g
      replace GW := GW.trans g
      replace hnd := hnd.gr g
      replace hl := hl.gr g
      replace hi12 := hi12.gr g
      replace hz := hz.gr g
      replace hO := hO.gr g
      have hbk := hb
      clear g hb hbl
      refine Y.wpL_plain rfl fun _ hK => wp_pushV Try.underlying25 Try.info33 rfl (by decide) rfl (F.ev 99 (v)) (F.ev 106 (.slice (some ⟨w43.heap.size, 0, none⟩) 1 1)) hO (m := 1) (news := [.int .i64 ((noiR gr hold nd i t)[j]?.getD 0), .int .i64 3, .int .i64 i, .int .i64 0]) rfl (cells_at (vs := [.int .i64 ((noiR gr hold nd i t)[j]?.getD 0), .int .i64 3, .int .i64 i, .int .i64 0]) hbk) rfl (by have := own_room (noiR gr hold nd i t) i j; omega) (by decide) GW.size (fun v_w67 w67 hO' hon hat => hK _ _ ?_)
      refine Y.pput F rfl ?_
      clear F ac hbk
      intro ac F
      have hge := fun b e => (hO.ge (b := b) e).1
      replace GW := GW.own hon hge
      clear hO hge hon hat
      have hO := hO'
      clear hO'
      replace G := G0_.trans GW
      replace hnd := hnd0.gr GW
      replace hl := hl0.gr GW
      replace hi12 := hi120.gr GW
      have hz := hz0.gr GW
      replace hC := hC0.gr GW
      refine Y.pval F (X.w0 rfl) rfl (X.assign rfl (F.ev 107 (v_w67))) ?_
      clear F ac
      intro ac F
      refine Y.nil ?_
      replace F : Fr ac 186 [(0, .agg #[.int .i64 gr, .int .i64 hold, .slice na n nc]), (1, .int .i64 t), (2, .slice la m lc), (3, .pointer (some ⟨w.heap.size, 0, none⟩)), (8, .slice (some pd38) n ec12), (9, .int .i64 (playE gr hold nd t (withoutL l 1))), (10, .int .i64 ((sumN nd hold t i : Int) + (worstV gr hold nd i t))), (11, .int .i64 i), (12, .int .i64 (worstV gr hold nd i t)), (13, .int .i64 (nodeE gr hold nd i t)), (14, .slice (some pd65) zm zc), (15, .int .i64 (nodeE gr hold nd i t)), (16, v_w67), (17, .int .i64 j), (29, .bool false), (41, .bool false), (48, .bool false), (53, .bool true), (89, .bool false), (96, .bool true)] := F.sub _
      refine X.blockN ?_
      refine X.thenN ?_
      refine Y.lit (by kernel_rfl) ?_
      refine Y.pval F (X.w0 rfl) rfl (X.move rfl (F.ev 17 (.int .i64 j))) ?_
      clear F ac
      intro ac F
      refine Y.pval F (X.w0 rfl) rfl (X.binop rfl (F.ev 97 (.int .i64 j)) (X.kc (.int .i64 1) rfl) (X.addI Try.underlying3 rfl (by omega) (by omega))) ?_
      clear F ac
      intro ac F
      refine Y.pval F (X.w0 rfl) rfl (X.assign rfl (F.ev 98 (.int .i64 ((j : Int) + 1)))) ?_
      clear F ac
      intro ac F
      refine Y.nil ?_
      replace F : Fr ac 186 [(0, .agg #[.int .i64 gr, .int .i64 hold, .slice na n nc]), (1, .int .i64 t), (2, .slice la m lc), (3, .pointer (some ⟨w.heap.size, 0, none⟩)), (8, .slice (some pd38) n ec12), (9, .int .i64 (playE gr hold nd t (withoutL l 1))), (10, .int .i64 ((sumN nd hold t i : Int) + (worstV gr hold nd i t))), (11, .int .i64 i), (12, .int .i64 (worstV gr hold nd i t)), (13, .int .i64 (nodeE gr hold nd i t)), (14, .slice (some pd65) zm zc), (15, .int .i64 (nodeE gr hold nd i t)), (16, v_w67), (17, .int .i64 ((j : Int) + 1)), (29, .bool false), (41, .bool false), (48, .bool false), (53, .bool true), (89, .bool false), (96, .bool true)] := F.sub _
      refine X.thenN ?_
      refine ⟨_, ?_, j + 1, _, rfl, GW, by omega, (by rw [ownL_take (by omega), flat4_snoc, List.length_append]; exact hO), F.sub _⟩
      omega
   | true =>
    try rw [h14] at F
    have h14p : ¬ (playE gr hold nd t (withoutL l 1) : Int) = 0 := by simpa using h14
    refine Y.condT (F.ev 41 (.bool true)) ?_
    refine Y.seq ?_
    refine Y.lit (by kernel_rfl) ?_
    refine Y.pcall F (X.w0 rfl) rfl (X.enter (F := 16) rfl (X.kc (.func (.func 16) #[] #[]) rfl) rfl (enters_of Try.func16 (by kernel_rfl) rfl _)) (works_any w13) ?_
    clear F ac
    rintro e w70 ⟨rfl, g⟩
    refine ⟨_, rfl, ?_⟩
    intro ac F
    replace G := G.trans g
    replace hC := hC.gr g
    replace hnd := hnd.gr g
    replace hl := hl.gr g
    replace hi12 := hi12.gr g
    clear g
    refine Y.pval F (X.w0 rfl) rfl (X.assign rfl (F.ev 42 (.bool true))) ?_
    clear F ac
    intro ac F
    refine Y.nil ?_
    replace F : Fr ac 186 [(0, .agg #[.int .i64 gr, .int .i64 hold, .slice na n nc]), (1, .int .i64 t), (2, .slice la m lc), (3, .pointer (some ⟨w.heap.size, 0, none⟩)), (6, .bool true), (8, .slice ea12 en12 ec12), (9, .int .i64 (playE gr hold nd t (withoutL l 1))), (29, .bool false), (41, .bool true)] := F.sub _
    refine X.thenN ?_
    refine Y.ret ?_
    refine X.thenR ?_
    exact Y.ret0 (v := .bool true) F (Y.rs1 F rfl (by kernel_rfl)) ⟨rfl, G⟩
  | true =>
   try rw [h5] at F
   have h5p : ((200 : Int) < m) := of_decide_eq_true h5
   refine Y.condT (F.ev 29 (.bool true)) ?_
   refine Y.seq ?_
   refine Y.lit (by kernel_rfl) ?_
   refine Y.pcall F (X.w0 rfl) rfl (X.enter (F := 16) rfl (X.kc (.func (.func 16) #[] #[]) rfl) rfl (enters_of Try.func16 (by kernel_rfl) rfl _)) (works_any w3) ?_
   clear F ac
   rintro e w73 ⟨rfl, g⟩
   refine ⟨_, rfl, ?_⟩
   intro ac F
   replace G := G.trans g
   replace hC := hC.gr g
   replace hnd := hnd.gr g
   replace hl := hl.gr g
   clear g
   refine Y.pval F (X.w0 rfl) rfl (X.assign rfl (F.ev 30 (.bool true))) ?_
   clear F ac
   intro ac F
   refine Y.nil ?_
   replace F : Fr ac 186 [(0, .agg #[.int .i64 gr, .int .i64 hold, .slice na n nc]), (1, .int .i64 t), (2, .slice la m lc), (3, .pointer (some ⟨w.heap.size, 0, none⟩)), (6, .bool true), (29, .bool true)] := F.sub _
   refine X.thenN ?_
   refine Y.ret ?_
   refine X.thenR ?_
   exact Y.ret0 (v := .bool true) F (Y.rs1 F rfl (by kernel_rfl)) ⟨rfl, G⟩
 | true =>
  try rw [h4] at F
  have h4p : ((100 : Int) < t) := of_decide_eq_true h4
  refine Y.pskip F (X.w2 rfl (F.yl (j := 2) (d := 25) (b := true) rfl (by kernel_rfl)) rfl) rfl ?_
  clear F ac
  intro ac F
  refine Y.pskip F (X.w2 rfl (F.yl (j := 2) (d := 25) (b := true) rfl (by kernel_rfl)) rfl) rfl ?_
  clear F ac
  intro ac F
  refine Y.pskip F (X.w2 rfl (F.yl (j := 2) (d := 25) (b := true) rfl (by kernel_rfl)) rfl) rfl ?_
  clear F ac
  intro ac F
  refine Y.pval F (X.w0 rfl) rfl (X.pickT rfl (F.ev 25 (.bool true)) (X.kc (.bool true) rfl)) ?_
  clear F ac
  intro ac F
  refine Y.nil ?_
  replace F : Fr ac 186 [(0, .agg #[.int .i64 gr, .int .i64 hold, .slice na n nc]), (1, .int .i64 t), (2, .slice la m lc), (3, .pointer (some ⟨w.heap.size, 0, none⟩)), (6, .bool false), (29, .bool true)] := F.sub _
  refine X.thenN ?_
  refine Y.condT (F.ev 29 (.bool true)) ?_
  refine Y.seq ?_
  refine Y.lit (by kernel_rfl) ?_
  refine Y.pcall F (X.w0 rfl) rfl (X.enter (F := 16) rfl (X.kc (.func (.func 16) #[] #[]) rfl) rfl (enters_of Try.func16 (by kernel_rfl) rfl _)) (works_any w3) ?_
  clear F ac
  rintro e w76 ⟨rfl, g⟩
  refine ⟨_, rfl, ?_⟩
  intro ac F
  replace G := G.trans g
  replace hC := hC.gr g
  replace hnd := hnd.gr g
  replace hl := hl.gr g
  clear g
  refine Y.pval F (X.w0 rfl) rfl (X.assign rfl (F.ev 30 (.bool true))) ?_
  clear F ac
  intro ac F
  refine Y.nil ?_
  replace F : Fr ac 186 [(0, .agg #[.int .i64 gr, .int .i64 hold, .slice na n nc]), (1, .int .i64 t), (2, .slice la m lc), (3, .pointer (some ⟨w.heap.size, 0, none⟩)), (6, .bool true), (29, .bool true)] := F.sub _
  refine X.thenN ?_
  refine Y.ret ?_
  refine X.thenR ?_
  exact Y.ret0 (v := .bool true) F (Y.rs1 F rfl (by kernel_rfl)) ⟨rfl, G⟩
end Go.Proofs.Ytoalamakhjbedaa
