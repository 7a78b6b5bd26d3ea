/- Contracts: the reference's kept, hopeless and bound. -/
import Derived.Test.YtodedneanlekdaaBd7
namespace Go.Proofs.Ytodedneanlekdaa
set_option linter.unusedSimpArgs false
set_option linter.unusedVariables false
open Go.RowKit

theorem X.mulI {P : Program} {W : World} {t : TypeId} (_hu : P.underlying t = some (.int .i64)) {x y : Operand} {p q z : Int} (hz : p * q = z) (h0 : -9223372036854775808 ≤ z) (h1 : z ≤ 9223372036854775807) : (do eqGuard .mul t x y (.int .i64 p) (.int .i64 q); binOp .mul t (.int .i64 p) (.int .i64 q) : Sem Value).run P W = .ok (.int .i64 z) W := by
  subst hz; simp [eqGuard, binOp, go_sem, IntWalk.i64_in _ ⟨h0, h1⟩]
theorem onS_eq {g : Nat → Int} {xs : List Int} {h : Int} {k : Nat} (e : xs[k]?.getD 0 = h) : onS g xs h (k + 1) = onS g xs h k + g k := by
  simp only [onS]; rw [if_pos (show xg xs k = h from e)]
theorem onS_ne {g : Nat → Int} {xs : List Int} {h : Int} {k : Nat} (e : ¬ xs[k]?.getD 0 = h) : onS g xs h (k + 1) = onS g xs h k := by
  simp only [onS]; rw [if_neg (show ¬ xg xs k = h from e), Int.add_zero]
theorem prod8 {a b : Int} (h0 : 0 ≤ a ∧ a ≤ 100000) (h1 : 0 ≤ b ∧ b ≤ 100001) : 0 ≤ a * b ∧ a * b ≤ 10000100000 := by
  refine ⟨Int.mul_nonneg h0.1 h1.1, ?_⟩
  have := Int.mul_le_mul h0.2 h1.2 h1.1 (by decide)
  omega
theorem hund_bd {p : Pb} (hp : PbOk p) {n : Int} (hn : 0 ≤ n ∧ n ≤ 100001) {i : Nat} (hi : i < p.nt) : 0 ≤ hund p n i ∧ hund p n i ≤ 100002000 := by
  have := prod8 (hp.tt i hi) hn
  unfold hund; omega
def levR (p : Pb) (xs : List Int) (h : Nat) (j : Nat) : Bool := !decide (xs[j]?.getD 0 = (h : Int)) || decide (p.tv j 3 ≤ p.hv h 3)
def fitR (p : Pb) (n : Int) (xs : List Int) (h : Nat) : Bool := fitB p (hund p n) xs h && allN (levR p xs h) xs.length
theorem levR_ok {p : Pb} {xs : List Int} {h j : Nat} (e : ¬ xs[j]?.getD 0 = (h : Int) ∨ p.tv j 3 ≤ p.hv h 3) : levR p xs h j = true := by
  unfold levR; rcases e with e | e <;> simp [e]
theorem hopR_lev {p : Pb} {n : Int} {xs : List Int} {i k : Nat} (hk : k < xs.length) (e : xs[k]?.getD 0 = (i : Int)) (h : ¬ p.tv k 3 ≤ p.hv i 3) : hopeB p (hund p n) xs = true := by
  have h2 : lvlB p xs k = false := by
    unfold lvlB; rw [show xg xs k = (i : Int) from e]; simpa using h
  unfold hopeB; rw [allN_false hk h2, Bool.and_false]; rfl
theorem hopR_fit {p : Pb} {n : Int} {xs : List Int} {i : Nat} (hi : i < p.nh) (h : ¬ (onS (fun j => p.tv j 1) xs i xs.length ≤ p.hv i 1 ∧ onS (hund p n) xs i xs.length ≤ p.hv i 2)) : hopeB p (hund p n) xs = true := by
  have h2 : fitB p (hund p n) xs i = false := by
    unfold fitB
    by_cases h1 : onS (fun j => p.tv j 1) xs i xs.length ≤ p.hv i 1
    · rw [decide_eq_false (fun h2 => h ⟨h1, h2⟩), Bool.and_false]
    · rw [decide_eq_false h1, Bool.false_and]
  unfold hopeB; rw [allN_false hi h2]; rfl
theorem fitR_ok {p : Pb} {n : Int} {xs : List Int} {i : Nat} (h1 : onS (fun j => p.tv j 1) xs i xs.length ≤ p.hv i 1) (h2 : onS (hund p n) xs i xs.length ≤ p.hv i 2) (h3 : allN (levR p xs i) xs.length = true) : fitR p n xs i = true := by
  unfold fitR fitB; rw [decide_eq_true h1, decide_eq_true h2, h3]; rfl
theorem hopR_kept {p : Pb} {n : Int} {xs : List Int} {j : Nat} (hj : j < p.nb) (h : keptB p xs j = false) : hopeB p (hund p n) xs = true := by
  unfold hopeB; rw [allN_false hj h, Bool.and_false]; rfl
theorem hopR_no {p : Pb} {n : Int} {xs : List Int} (hx : HosOk p xs) (h1 : allN (fitR p n xs) p.nh = true) (h2 : allN (keptB p xs) p.nb = true) : hopeB p (hund p n) xs = false := by
  have e1 : allN (fitB p (hund p n) xs) p.nh = true := allN_iff.2 fun i hi => by
    have := allN_iff.1 h1 i hi
    unfold fitR at this
    rw [Bool.and_eq_true] at this
    exact this.1
  have e2 : allN (lvlB p xs) xs.length = true := allN_iff.2 fun k hk => by
    have hh := hx k hk
    have := allN_iff.1 h1 (xg xs k).toNat (by omega)
    unfold fitR at this
    rw [Bool.and_eq_true] at this
    have h3 := allN_iff.1 this.2 k hk
    unfold levR at h3
    have h4 : xs[k]?.getD 0 = (((xg xs k).toNat : Nat) : Int) := by show xg xs k = _; omega
    rw [decide_eq_true h4] at h3
    exact h3
  unfold hopeB; rw [e1, e2, h2]; rfl
theorem used_t {xs : List Int} {h : Int} {k : Nat} (e : usedN xs h k = true) : usedN xs h (k + 1) = true := by simp [usedN, e]
theorem used_f {xs : List Int} {h : Int} {k : Nat} (e : usedN xs h k = false) : usedN xs h (k + 1) = (xs[k]?.getD 0 == h) := by
  simp only [usedN, e, Bool.false_or]; rfl
theorem price2_1 {p : Pb} {xs : List Int} {i : Nat} (h : usedN xs i xs.length = true) : sumZ (priceI p xs) (i + 1) = sumZ (priceI p xs) i + p.hv i 5 := by
  simp only [sumZ]; rw [show priceI p xs i = p.hv i 5 from if_pos h]
theorem price2_0 {p : Pb} {xs : List Int} {i : Nat} (h : usedN xs i xs.length = false) : sumZ (priceI p xs) (i + 1) = sumZ (priceI p xs) i := by
  simp only [sumZ]; rw [show priceI p xs i = 0 from if_neg (by rw [h]; decide), Int.add_zero]
theorem priceI_bd {p : Pb} (hp : PbOk p) {xs : List Int} {i : Nat} (hi : i ≤ p.nh) : 0 ≤ sumZ (priceI p xs) i ∧ sumZ (priceI p xs) i ≤ 600000 := by
  have h := sumZ_bd (f := priceI p xs) (n := i) (c := 100000) (fun j hj => by
    have := hp.hp j (by omega)
    unfold priceI; split <;> omega)
  have := hp.h6
  omega
set_option maxRecDepth 100000 in
set_option maxHeartbeats 2000000 in
theorem kept2_any (p : Pb) (ta ha ba la : Option Addr) (tc hc bc lc : Nat) (a : Option Addr) (c : Nat) (xs : List Int) (w : World) (hP : PbAt w p ta ha ba la tc hc bc lc) (hX : Ints w a xs.length xs) (hp : PbOk p) (hx : HosOk p xs) (j : Nat) (hj : j < p.nb) :
  Calls Try.prog 108 #[.agg #[.slice ta p.nt tc, .slice ha p.nh hc, .slice ba p.nb bc, .slice la p.nl lc], .agg #[Vi (p.bv j 0), Vi (p.bv j 1), Vi (p.bv j 2)], .slice a xs.length c] w fun e w' => e = .returned (.bool (keptB p xs j)) ∧ Gr w w' := by
 have G := Gr.refl w
 have hpt := hP.t
 have hph := hP.h
 have hpb := hP.b
 have hpl := hP.l
 have hplen := hP.len
 obtain ⟨hn1, hn2, hn3, hn4⟩ := hplen
 have hcp1 := hpt.cap
 have hcp2 := hph.cap
 have hcp3 := hpb.cap
 have hcp4 := hpl.cap
 have hxs := hX
 have hlt := hxs.lt
 have hba := hp.ba j hj
 have hbk := hp.bk j hj
 have hbt := hp.bt j hj
 have hbh := hp.bh j hj
 refine Y.calls 76 Try.func108 rfl rfl ?_
 intro ac F0
 have F : Fr ac 76 [(0, .agg #[.slice ta p.nt tc, .slice ha p.nh hc, .slice ba p.nb bc, .slice la p.nl lc]), (1, .agg #[Vi (p.bv j 0), Vi (p.bv j 1), Vi (p.bv j 2)]), (2, .slice a xs.length c)] := F0.sub _
 clear F0
 refine Y.seq ?_
 refine Y.lit (by kernel_rfl) ?_
 refine Y.pv F (X.box rfl (F.ev 0 (.agg #[.slice ta p.nt tc, .slice ha p.nh hc, .slice ba p.nb bc, .slice la p.nl lc])) X.bx) ?_;clear F ac;intro ac F
 have g := Gr.alloc w (.cells #[.slice ta p.nt tc, .slice ha p.nh hc, .slice ba p.nb bc, .slice la p.nl lc] 27)
 have hb := heap_alloc_new w (.cells #[.slice ta p.nt tc, .slice ha p.nh hc, .slice ba p.nb bc, .slice la p.nl lc] 27)
 have hbl : w.heap.size < (w.alloc (.cells #[.slice ta p.nt tc, .slice ha p.nh hc, .slice ba p.nb bc, .slice la p.nl lc] 27)).heap.size := by simp
 have hC2 : RCells (w.alloc (.cells #[.slice ta p.nt tc, .slice ha p.nh hc, .slice ba p.nb bc, .slice la p.nl lc] 27)) [(Ad w.heap.size 0, .slice ta p.nt tc), (Ad w.heap.size 1, .slice ha p.nh hc), (Ad w.heap.size 2, .slice ba p.nb bc), (Ad w.heap.size 3, .slice la p.nl lc)] := (RCells.nil w).box (b := w.heap.size) #[.slice ta p.nt tc, .slice ha p.nh hc, .slice ba p.nb bc, .slice la p.nl lc] 27 rfl
 generalize w.alloc (.cells #[.slice ta p.nt tc, .slice ha p.nh hc, .slice ba p.nb bc, .slice la p.nl lc] 27) = w3 at *
 replace G := G.trans g
 have hC := hC2
 clear hC2
 replace hpt := hpt.gr g
 replace hph := hph.gr g
 replace hpb := hpb.gr g
 replace hpl := hpl.gr g
 replace hxs := hxs.gr g
 clear g hb hbl
 refine Y.pv F (X.box rfl (F.ev 1 (.agg #[Vi (p.bv j 0), Vi (p.bv j 1), Vi (p.bv j 2)])) X.bx) ?_;clear F ac;intro ac F
 have g := Gr.alloc w3 (.cells #[Vi (p.bv j 0), Vi (p.bv j 1), Vi (p.bv j 2)] 65)
 have hb := heap_alloc_new w3 (.cells #[Vi (p.bv j 0), Vi (p.bv j 1), Vi (p.bv j 2)] 65)
 have hbl : w3.heap.size < (w3.alloc (.cells #[Vi (p.bv j 0), Vi (p.bv j 1), Vi (p.bv j 2)] 65)).heap.size := by simp
 have hC2 : RCells (w3.alloc (.cells #[Vi (p.bv j 0), Vi (p.bv j 1), Vi (p.bv j 2)] 65)) [(Ad w.heap.size 0, .slice ta p.nt tc), (Ad w.heap.size 1, .slice ha p.nh hc), (Ad w.heap.size 2, .slice ba p.nb bc), (Ad w.heap.size 3, .slice la p.nl lc), (Ad w3.heap.size 0, Vi (p.bv j 0)), (Ad w3.heap.size 1, Vi (p.bv j 1)), (Ad w3.heap.size 2, Vi (p.bv j 2))] := hC.box (b := w3.heap.size) #[Vi (p.bv j 0), Vi (p.bv j 1), Vi (p.bv j 2)] 65 rfl
 generalize w3.alloc (.cells #[Vi (p.bv j 0), Vi (p.bv j 1), Vi (p.bv j 2)] 65) = w4 at *
 replace G := G.trans g
 replace hC := hC2
 clear hC2
 replace hpt := hpt.gr g
 replace hph := hph.gr g
 replace hpb := hpb.gr g
 replace hpl := hpl.gr g
 replace hxs := hxs.gr g
 clear g hb hbl
 refine Y.pv F (X.assign rfl (X.kc (.bool false) rfl)) ?_;clear F ac;intro ac F
 refine Y.nil ?_
 replace F : Fr ac 76 [(2, .slice a xs.length c), (3, Vp w.heap.size), (4, Vp w3.heap.size)] := F.sub _
 refine X.thenN ?_
 refine Y.seq ?_
 refine Y.seq ?_
 refine Y.lit (by kernel_rfl) ?_
 refine Y.pv F (X.field rfl (F.ev 4 (Vp w3.heap.size)) (X.fld Try.underlying65 rfl (Try.siz3 _) rfl rfl)) ?_;clear F ac;intro ac F
 refine Y.pv F (X.load rfl (F.ev 9 (.pointer (some ⟨w3.heap.size, 1, none⟩))) (X.ld1 (Try.agg3 _) (hC.at 5 rfl))) ?_;clear F ac;intro ac F
 refine Y.pv F (X.move rfl (F.ev 2 (.slice a xs.length c))) ?_;clear F ac;intro ac F
 refine Y.pv F (X.len1 Try.underlying34 rfl (F.ev 11 (.slice a xs.length c))) ?_;clear F ac;intro ac F
 refine Y.pv F (X.binop rfl (F.ev 10 (Vi (p.bv j 1))) (F.ev 12 (Vi xs.length)) (X.geqI Try.underlying3 rfl)) ?_;clear F ac;intro ac F
 refine Y.nil ?_
 replace F : Fr ac 76 [(2, .slice a xs.length c), (3, Vp w.heap.size), (4, Vp w3.heap.size), (13, .bool (decide ((xs.length : Int) ≤ (p.bv j 1))))] := F.sub _
 refine X.thenN ?_
 cases h5 : decide ((xs.length : Int) ≤ (p.bv j 1)) with
 | false =>
  try rw [h5] at F
  have h5p : ¬ ((xs.length : Int) ≤ (p.bv j 1)) := of_decide_eq_false h5
  have hxa := hx (p.bv j 1).toNat (by omega)
  have hea : xs[(p.bv j 1).toNat]?.getD 0 = xg xs (p.bv j 1).toNat := rfl
  refine Y.condF (F.ev 13 (.bool false)) ?_
  refine Y.skip ?_
  refine X.thenN ?_
  refine Y.seq ?_
  refine Y.seq ?_
  refine Y.lit (by kernel_rfl) ?_
  refine Y.pv F (X.field rfl (F.ev 4 (Vp w3.heap.size)) (X.fld Try.underlying65 rfl (Try.siz3 _) rfl rfl)) ?_;clear F ac;intro ac F
  refine Y.pv F (X.load rfl (F.ev 14 (Vp w3.heap.size)) (X.ld1 (Try.agg3 _) (hC.at 4 rfl))) ?_;clear F ac;intro ac F
  refine Y.pv F (X.binop rfl (F.ev 15 (Vi (p.bv j 0))) (X.kc (Vi 4) rfl) (X.eqlI Try.underlying3 rfl)) ?_;clear F ac;intro ac F
  refine Y.nil ?_
  replace F : Fr ac 76 [(2, .slice a xs.length c), (3, Vp w.heap.size), (4, Vp w3.heap.size), (16, .bool ((p.bv j 0 : Int) == 4))] := F.sub _
  refine X.thenN ?_
  cases h6 : ((p.bv j 0 : Int) == 4) with
  | false =>
   try rw [h6] at F
   have h6p : ¬ (p.bv j 0 : Int) = 4 := by simpa using h6
   refine Y.condF (F.ev 16 (.bool false)) ?_
   refine Y.skip ?_
   refine X.thenN ?_
   refine Y.seq ?_
   refine Y.seq ?_
   refine Y.lit (by kernel_rfl) ?_
   refine Y.pv F (X.field rfl (F.ev 4 (Vp w3.heap.size)) (X.fld Try.underlying65 rfl (Try.siz3 _) rfl rfl)) ?_;clear F ac;intro ac F
   refine Y.pv F (X.load rfl (F.ev 25 (Vp w3.heap.size)) (X.ld1 (Try.agg3 _) (hC.at 4 rfl))) ?_;clear F ac;intro ac F
   refine Y.pv F (X.binop rfl (F.ev 26 (Vi (p.bv j 0))) (X.kc (Vi 5) rfl) (X.eqlI Try.underlying3 rfl)) ?_;clear F ac;intro ac F
   refine Y.nil ?_
   replace F : Fr ac 76 [(2, .slice a xs.length c), (3, Vp w.heap.size), (4, Vp w3.heap.size), (27, .bool ((p.bv j 0 : Int) == 5))] := F.sub _
   refine X.thenN ?_
   cases h7 : ((p.bv j 0 : Int) == 5) with
   | false =>
    try rw [h7] at F
    have h7p : ¬ (p.bv j 0 : Int) = 5 := by simpa using h7
    refine Y.condF (F.ev 27 (.bool false)) ?_
    refine Y.skip ?_
    refine X.thenN ?_
    refine Y.seq ?_
    refine Y.seq ?_
    refine Y.lit (by kernel_rfl) ?_
    refine Y.pv F (X.field rfl (F.ev 4 (Vp w3.heap.size)) (X.fld Try.underlying65 rfl (Try.siz3 _) rfl rfl)) ?_;clear F ac;intro ac F
    refine Y.pv F (X.load rfl (F.ev 36 (.pointer (some ⟨w3.heap.size, 2, none⟩))) (X.ld1 (Try.agg3 _) (hC.at 6 rfl))) ?_;clear F ac;intro ac F
    refine Y.pv F (X.move rfl (F.ev 2 (.slice a xs.length c))) ?_;clear F ac;intro ac F
    refine Y.pv F (X.len1 Try.underlying34 rfl (F.ev 38 (.slice a xs.length c))) ?_;clear F ac;intro ac F
    refine Y.pv F (X.binop rfl (F.ev 37 (Vi (p.bv j 2))) (F.ev 39 (Vi xs.length)) (X.geqI Try.underlying3 rfl)) ?_;clear F ac;intro ac F
    refine Y.nil ?_
    replace F : Fr ac 76 [(2, .slice a xs.length c), (3, Vp w.heap.size), (4, Vp w3.heap.size), (40, .bool (decide ((xs.length : Int) ≤ (p.bv j 2))))] := F.sub _
    refine X.thenN ?_
    cases h8 : decide ((xs.length : Int) ≤ (p.bv j 2)) with
    | false =>
     try rw [h8] at F
     have h8p : ¬ ((xs.length : Int) ≤ (p.bv j 2)) := of_decide_eq_false h8
     have hxb := hx (p.bv j 2).toNat (by omega)
     have heb : xs[(p.bv j 2).toNat]?.getD 0 = xg xs (p.bv j 2).toNat := rfl
     have hb0 : p.bv j 0 ≤ 3 := by have := hp.bk j hj; omega
     refine Y.condF (F.ev 40 (.bool false)) ?_
     refine Y.skip ?_
     refine X.thenN ?_
     refine Y.seq ?_
     obtain ⟨pd9, pe9, -, pc9⟩ := hxs.at (j := (p.bv j 1).toNat) (by omega)
     subst pe9
     replace hC : RCells w4 [(Ad w.heap.size 0, .slice ta p.nt tc), (Ad w.heap.size 1, .slice ha p.nh hc), (Ad w.heap.size 2, .slice ba p.nb bc), (Ad w.heap.size 3, .slice la p.nl lc), (Ad w3.heap.size 0, Vi (p.bv j 0)), (Ad w3.heap.size 1, Vi (p.bv j 1)), (Ad w3.heap.size 2, Vi (p.bv j 2)), (pd9.add ((p.bv j 1).toNat), Vi (xs[(p.bv j 1).toNat]?.getD 0))] := hC.append ((RCells.cons pc9 (RCells.nil _)))
     clear pc9
     obtain ⟨pd10, pe10, -, pc10⟩ := hxs.at (j := (p.bv j 2).toNat) (by omega)
     injection pe10 with pe10
     subst pe10
     replace hC : RCells w4 [(Ad w.heap.size 0, .slice ta p.nt tc), (Ad w.heap.size 1, .slice ha p.nh hc), (Ad w.heap.size 2, .slice ba p.nb bc), (Ad w.heap.size 3, .slice la p.nl lc), (Ad w3.heap.size 0, Vi (p.bv j 0)), (Ad w3.heap.size 1, Vi (p.bv j 1)), (Ad w3.heap.size 2, Vi (p.bv j 2)), (pd9.add ((p.bv j 1).toNat), Vi (xs[(p.bv j 1).toNat]?.getD 0)), (pd9.add ((p.bv j 2).toNat), Vi (xs[(p.bv j 2).toNat]?.getD 0))] := hC.append ((RCells.cons pc10 (RCells.nil _)))
     clear pc10
     refine Y.region F [some (.slice (some pd9) xs.length c), some (.pointer (some ⟨w3.heap.size, 1, none⟩)), some (Vi (p.bv j 1)), some (.pointer (some (pd9.add ((p.bv j 1).toNat)))), some (Vi (xs[(p.bv j 1).toNat]?.getD 0)), some (.slice (some pd9) xs.length c), some (.pointer (some ⟨w3.heap.size, 2, none⟩)), some (Vi (p.bv j 2)), some (.pointer (some (pd9.add ((p.bv j 2).toNat)))), some (Vi (xs[(p.bv j 2).toNat]?.getD 0)), some (Vi (xs[(p.bv j 1).toNat]?.getD 0)), some (Vi (xs[(p.bv j 2).toNat]?.getD 0))] [] rfl ⟨by kernel_rfl, of_decide_eq_true (by kernel_rfl), by kernel_rfl, by kernel_rfl, by kernel_rfl⟩ ⟨?_, ?_, ?_, ?_, ?_, ?_, ?_, ?_, ?_, ?_, ?_, ?_, trivial⟩ ?_
     ·intro ac done u W Sx hR
      exact X.vl (X.move rfl (Sx.ev 2 (.slice (some pd9) xs.length c))) hR.st0
     ·intro ac done u W Sx hR
      exact X.vl (X.field rfl (Sx.ev 4 (Vp w3.heap.size)) (X.fld Try.underlying65 rfl (Try.siz3 _) rfl rfl)) hR.st0
     ·intro ac done u W Sx hR
      have g : Gr w4 W := hR.1
      exact X.vl (X.load rfl (Sx.ev 42 (.pointer (some ⟨w3.heap.size, 1, none⟩))) (X.ld1 (Try.agg3 _) ((hC.gr g).at 5 rfl))) hR.st0
     ·intro ac done u W Sx hR
      exact X.val (X.w0 rfl) rfl (X.index rfl (Sx.ev 41 (.slice (some pd9) xs.length c)) (Sx.ev 43 (Vi (p.bv j 1))) (X.idx (k := (p.bv j 1).toNat) Try.underlying34 (Try.siz3 _) (by omega) (by omega) (by rw [Nat.mul_one]))) hR.st0
     ·intro ac done u W Sx hR
      have g : Gr w4 W := hR.1
      exact X.vl (X.load rfl (Sx.ev 44 (.pointer (some (pd9.add ((p.bv j 1).toNat))))) (X.ld1 (Try.agg3 _) ((hC.gr g).at 7 rfl))) hR.st0
     ·intro ac done u W Sx hR
      exact X.vl (X.move rfl (Sx.ev 2 (.slice (some pd9) xs.length c))) hR.st0
     ·intro ac done u W Sx hR
      exact X.vl (X.field rfl (Sx.ev 4 (Vp w3.heap.size)) (X.fld Try.underlying65 rfl (Try.siz3 _) rfl rfl)) hR.st0
     ·intro ac done u W Sx hR
      have g : Gr w4 W := hR.1
      exact X.vl (X.load rfl (Sx.ev 47 (.pointer (some ⟨w3.heap.size, 2, none⟩))) (X.ld1 (Try.agg3 _) ((hC.gr g).at 6 rfl))) hR.st0
     ·intro ac done u W Sx hR
      exact X.val (X.w0 rfl) rfl (X.index rfl (Sx.ev 46 (.slice (some pd9) xs.length c)) (Sx.ev 48 (Vi (p.bv j 2))) (X.idx (k := (p.bv j 2).toNat) Try.underlying34 (Try.siz3 _) (by omega) (by omega) (by rw [Nat.mul_one]))) hR.st0
     ·intro ac done u W Sx hR
      have g : Gr w4 W := hR.1
      exact X.vl (X.load rfl (Sx.ev 49 (.pointer (some (pd9.add ((p.bv j 2).toNat))))) (X.ld1 (Try.agg3 _) ((hC.gr g).at 8 rfl))) hR.st0
     ·intro ac done u W Sx hR
      exact X.vl (X.assign rfl (Sx.ev 45 (Vi (xs[(p.bv j 1).toNat]?.getD 0)))) hR.st0
     ·intro ac done u W Sx hR
      exact X.vl (X.assign rfl (Sx.ev 50 (Vi (xs[(p.bv j 2).toNat]?.getD 0)))) hR.st0
     intro ac u w11 hs hd hl ho hR
     have g : Gr w4 w11 := hR.1
     replace F : Fr ac 76 [(3, Vp w.heap.size), (4, Vp w3.heap.size), (7, Vi (xs[(p.bv j 1).toNat]?.getD 0)), (8, Vi (xs[(p.bv j 2).toNat]?.getD 0))] := X.fr hs hd hl _ (by kernel_rfl)
     clear hs hd hl ho hR
     replace G := G.trans g
     replace hC := hC.gr g
     replace hpt := hpt.gr g
     replace hph := hph.gr g
     replace hpb := hpb.gr g
     replace hpl := hpl.gr g
     replace hxs := hxs.gr g
     clear g
     refine X.thenN ?_
     refine Y.seq ?_
     refine Y.seq ?_
     refine Y.lit (by kernel_rfl) ?_
     refine Y.pv F (X.field rfl (F.ev 4 (Vp w3.heap.size)) (X.fld Try.underlying65 rfl (Try.siz3 _) rfl rfl)) ?_;clear F ac;intro ac F
     refine Y.pv F (X.load rfl (F.ev 51 (Vp w3.heap.size)) (X.ld1 (Try.agg3 _) (hC.at 4 rfl))) ?_;clear F ac;intro ac F
     refine Y.nil ?_
     replace F : Fr ac 76 [(3, Vp w.heap.size), (7, Vi (xs[(p.bv j 1).toNat]?.getD 0)), (8, Vi (xs[(p.bv j 2).toNat]?.getD 0)), (52, Vi (p.bv j 0))] := F.sub _
     refine X.thenN ?_
     refine Y.block ?_
     refine Y.seq ?_
     refine Y.lit (by kernel_rfl) ?_
     refine Y.pv F (X.binop rfl (F.ev 52 (Vi (p.bv j 0))) (X.kc (Vi 1) rfl) (X.eqlI Try.underlying3 rfl)) ?_;clear F ac;intro ac F
     refine Y.pv F (X.assign rfl (F.ev 54 (.bool ((p.bv j 0 : Int) == 1)))) ?_;clear F ac;intro ac F
     refine Y.nil ?_
     replace F : Fr ac 76 [(3, Vp w.heap.size), (7, Vi (xs[(p.bv j 1).toNat]?.getD 0)), (8, Vi (xs[(p.bv j 2).toNat]?.getD 0)), (52, Vi (p.bv j 0)), (53, .bool ((p.bv j 0 : Int) == 1))] := F.sub _
     refine X.thenN ?_
     cases h12 : ((p.bv j 0 : Int) == 1) with
     | false =>
      try rw [h12] at F
      have h12p : ¬ (p.bv j 0 : Int) = 1 := by simpa using h12
      refine Y.condF (F.ev 53 (.bool false)) ?_
      refine Y.seq ?_
      refine Y.lit (by kernel_rfl) ?_
      refine Y.pv F (X.binop rfl (F.ev 52 (Vi (p.bv j 0))) (X.kc (Vi 2) rfl) (X.eqlI Try.underlying3 rfl)) ?_;clear F ac;intro ac F
      refine Y.pv F (X.assign rfl (F.ev 59 (.bool ((p.bv j 0 : Int) == 2)))) ?_;clear F ac;intro ac F
      refine Y.nil ?_
      replace F : Fr ac 76 [(3, Vp w.heap.size), (7, Vi (xs[(p.bv j 1).toNat]?.getD 0)), (8, Vi (xs[(p.bv j 2).toNat]?.getD 0)), (58, .bool ((p.bv j 0 : Int) == 2))] := F.sub _
      refine X.thenN ?_
      cases h13 : ((p.bv j 0 : Int) == 2) with
      | false =>
       try rw [h13] at F
       have h13p : ¬ (p.bv j 0 : Int) = 2 := by simpa using h13
       refine Y.condF (F.ev 58 (.bool false)) ?_
       refine Y.skip ?_
       refine X.blockN ?_
       refine X.thenN ?_
       refine Y.seq ?_
       obtain ⟨pd14, pe14, -, pc14⟩ := hph.at (j := (xs[(p.bv j 1).toNat]?.getD 0).toNat) (by omega)
       subst pe14
       replace hC : RCells w11 [(Ad w.heap.size 0, .slice ta p.nt tc), (Ad w.heap.size 1, .slice (some pd14) p.nh hc), (Ad w.heap.size 2, .slice ba p.nb bc), (Ad w.heap.size 3, .slice la p.nl lc), (Ad w3.heap.size 0, Vi (p.bv j 0)), (Ad w3.heap.size 1, Vi (p.bv j 1)), (Ad w3.heap.size 2, Vi (p.bv j 2)), (pd9.add ((p.bv j 1).toNat), Vi (xs[(p.bv j 1).toNat]?.getD 0)), (pd9.add ((p.bv j 2).toNat), Vi (xs[(p.bv j 2).toNat]?.getD 0)), (pd14.add (((xs[(p.bv j 1).toNat]?.getD 0).toNat) * 6), .string (p.hn ((xs[(p.bv j 1).toNat]?.getD 0).toNat))), (⟨(pd14.add (((xs[(p.bv j 1).toNat]?.getD 0).toNat) * 6)).block, (pd14.add (((xs[(p.bv j 1).toNat]?.getD 0).toNat) * 6)).off + 1, none⟩, Vi (p.hv ((xs[(p.bv j 1).toNat]?.getD 0).toNat) 1)), (⟨(pd14.add (((xs[(p.bv j 1).toNat]?.getD 0).toNat) * 6)).block, (pd14.add (((xs[(p.bv j 1).toNat]?.getD 0).toNat) * 6)).off + 2, none⟩, Vi (p.hv ((xs[(p.bv j 1).toNat]?.getD 0).toNat) 2)), (⟨(pd14.add (((xs[(p.bv j 1).toNat]?.getD 0).toNat) * 6)).block, (pd14.add (((xs[(p.bv j 1).toNat]?.getD 0).toNat) * 6)).off + 3, none⟩, Vi (p.hv ((xs[(p.bv j 1).toNat]?.getD 0).toNat) 3)), (⟨(pd14.add (((xs[(p.bv j 1).toNat]?.getD 0).toNat) * 6)).block, (pd14.add (((xs[(p.bv j 1).toNat]?.getD 0).toNat) * 6)).off + 4, none⟩, Vi (p.hv ((xs[(p.bv j 1).toNat]?.getD 0).toNat) 4)), (⟨(pd14.add (((xs[(p.bv j 1).toNat]?.getD 0).toNat) * 6)).block, (pd14.add (((xs[(p.bv j 1).toNat]?.getD 0).toNat) * 6)).off + 5, none⟩, Vi (p.hv ((xs[(p.bv j 1).toNat]?.getD 0).toNat) 5))] := hC.append ((RCells.cons (pc14 0 (by decide)) (RCells.cons (pc14 1 (by decide)) (RCells.cons (pc14 2 (by decide)) (RCells.cons (pc14 3 (by decide)) (RCells.cons (pc14 4 (by decide)) (RCells.cons (pc14 5 (by decide)) (RCells.nil _))))))))
       clear pc14
       obtain ⟨pd15, pe15, -, pc15⟩ := hph.at (j := (xs[(p.bv j 2).toNat]?.getD 0).toNat) (by omega)
       injection pe15 with pe15
       subst pe15
       replace hC : RCells w11 [(Ad w.heap.size 0, .slice ta p.nt tc), (Ad w.heap.size 1, .slice (some pd14) p.nh hc), (Ad w.heap.size 2, .slice ba p.nb bc), (Ad w.heap.size 3, .slice la p.nl lc), (Ad w3.heap.size 0, Vi (p.bv j 0)), (Ad w3.heap.size 1, Vi (p.bv j 1)), (Ad w3.heap.size 2, Vi (p.bv j 2)), (pd9.add ((p.bv j 1).toNat), Vi (xs[(p.bv j 1).toNat]?.getD 0)), (pd9.add ((p.bv j 2).toNat), Vi (xs[(p.bv j 2).toNat]?.getD 0)), (pd14.add (((xs[(p.bv j 1).toNat]?.getD 0).toNat) * 6), .string (p.hn ((xs[(p.bv j 1).toNat]?.getD 0).toNat))), (⟨(pd14.add (((xs[(p.bv j 1).toNat]?.getD 0).toNat) * 6)).block, (pd14.add (((xs[(p.bv j 1).toNat]?.getD 0).toNat) * 6)).off + 1, none⟩, Vi (p.hv ((xs[(p.bv j 1).toNat]?.getD 0).toNat) 1)), (⟨(pd14.add (((xs[(p.bv j 1).toNat]?.getD 0).toNat) * 6)).block, (pd14.add (((xs[(p.bv j 1).toNat]?.getD 0).toNat) * 6)).off + 2, none⟩, Vi (p.hv ((xs[(p.bv j 1).toNat]?.getD 0).toNat) 2)), (⟨(pd14.add (((xs[(p.bv j 1).toNat]?.getD 0).toNat) * 6)).block, (pd14.add (((xs[(p.bv j 1).toNat]?.getD 0).toNat) * 6)).off + 3, none⟩, Vi (p.hv ((xs[(p.bv j 1).toNat]?.getD 0).toNat) 3)), (⟨(pd14.add (((xs[(p.bv j 1).toNat]?.getD 0).toNat) * 6)).block, (pd14.add (((xs[(p.bv j 1).toNat]?.getD 0).toNat) * 6)).off + 4, none⟩, Vi (p.hv ((xs[(p.bv j 1).toNat]?.getD 0).toNat) 4)), (⟨(pd14.add (((xs[(p.bv j 1).toNat]?.getD 0).toNat) * 6)).block, (pd14.add (((xs[(p.bv j 1).toNat]?.getD 0).toNat) * 6)).off + 5, none⟩, Vi (p.hv ((xs[(p.bv j 1).toNat]?.getD 0).toNat) 5)), (pd14.add (((xs[(p.bv j 2).toNat]?.getD 0).toNat) * 6), .string (p.hn ((xs[(p.bv j 2).toNat]?.getD 0).toNat))), (⟨(pd14.add (((xs[(p.bv j 2).toNat]?.getD 0).toNat) * 6)).block, (pd14.add (((xs[(p.bv j 2).toNat]?.getD 0).toNat) * 6)).off + 1, none⟩, Vi (p.hv ((xs[(p.bv j 2).toNat]?.getD 0).toNat) 1)), (⟨(pd14.add (((xs[(p.bv j 2).toNat]?.getD 0).toNat) * 6)).block, (pd14.add (((xs[(p.bv j 2).toNat]?.getD 0).toNat) * 6)).off + 2, none⟩, Vi (p.hv ((xs[(p.bv j 2).toNat]?.getD 0).toNat) 2)), (⟨(pd14.add (((xs[(p.bv j 2).toNat]?.getD 0).toNat) * 6)).block, (pd14.add (((xs[(p.bv j 2).toNat]?.getD 0).toNat) * 6)).off + 3, none⟩, Vi (p.hv ((xs[(p.bv j 2).toNat]?.getD 0).toNat) 3)), (⟨(pd14.add (((xs[(p.bv j 2).toNat]?.getD 0).toNat) * 6)).block, (pd14.add (((xs[(p.bv j 2).toNat]?.getD 0).toNat) * 6)).off + 4, none⟩, Vi (p.hv ((xs[(p.bv j 2).toNat]?.getD 0).toNat) 4)), (⟨(pd14.add (((xs[(p.bv j 2).toNat]?.getD 0).toNat) * 6)).block, (pd14.add (((xs[(p.bv j 2).toNat]?.getD 0).toNat) * 6)).off + 5, none⟩, Vi (p.hv ((xs[(p.bv j 2).toNat]?.getD 0).toNat) 5))] := hC.append ((RCells.cons (pc15 0 (by decide)) (RCells.cons (pc15 1 (by decide)) (RCells.cons (pc15 2 (by decide)) (RCells.cons (pc15 3 (by decide)) (RCells.cons (pc15 4 (by decide)) (RCells.cons (pc15 5 (by decide)) (RCells.nil _))))))))
       clear pc15
       refine Y.region F [some (.pointer (some ⟨w.heap.size, 1, none⟩)), some (.slice (some pd14) p.nh hc), some (Vi (xs[(p.bv j 1).toNat]?.getD 0)), some (.pointer (some (pd14.add (((xs[(p.bv j 1).toNat]?.getD 0).toNat) * 6)))), some (.pointer (some (⟨(pd14.add (((xs[(p.bv j 1).toNat]?.getD 0).toNat) * 6)).block, (pd14.add (((xs[(p.bv j 1).toNat]?.getD 0).toNat) * 6)).off + 4, none⟩))), some (Vi (p.hv ((xs[(p.bv j 1).toNat]?.getD 0).toNat) 4)), some (.pointer (some ⟨w.heap.size, 1, none⟩)), some (.slice (some pd14) p.nh hc), some (Vi (xs[(p.bv j 2).toNat]?.getD 0)), some (.pointer (some (pd14.add (((xs[(p.bv j 2).toNat]?.getD 0).toNat) * 6)))), some (.pointer (some (⟨(pd14.add (((xs[(p.bv j 2).toNat]?.getD 0).toNat) * 6)).block, (pd14.add (((xs[(p.bv j 2).toNat]?.getD 0).toNat) * 6)).off + 4, none⟩))), some (Vi (p.hv ((xs[(p.bv j 2).toNat]?.getD 0).toNat) 4)), some (.bool ((p.hv ((xs[(p.bv j 1).toNat]?.getD 0).toNat) 4 : Int) != (p.hv ((xs[(p.bv j 2).toNat]?.getD 0).toNat) 4))), some (.bool ((p.hv ((xs[(p.bv j 1).toNat]?.getD 0).toNat) 4 : Int) != (p.hv ((xs[(p.bv j 2).toNat]?.getD 0).toNat) 4)))] [] rfl ⟨by kernel_rfl, of_decide_eq_true (by kernel_rfl), by kernel_rfl, by kernel_rfl, by kernel_rfl⟩ ⟨?_, ?_, ?_, ?_, ?_, ?_, ?_, ?_, ?_, ?_, ?_, ?_, ?_, ?_, trivial⟩ ?_
       ·intro ac done u W Sx hR
        exact X.vl (X.field rfl (Sx.ev 3 (Vp w.heap.size)) (X.fld Try.underlying27 rfl (Try.siz23 _) rfl rfl)) hR.st0
       ·intro ac done u W Sx hR
        have g : Gr w11 W := hR.1
        exact X.vl (X.load rfl (Sx.ev 63 (.pointer (some ⟨w.heap.size, 1, none⟩))) (X.ld1 (Try.agg23 _) ((hC.gr g).at 1 rfl))) hR.st0
       ·intro ac done u W Sx hR
        exact X.vl (X.move rfl (Sx.ev 7 (Vi (xs[(p.bv j 1).toNat]?.getD 0)))) hR.st0
       ·intro ac done u W Sx hR
        exact X.vl (X.index rfl (Sx.ev 64 (.slice (some pd14) p.nh hc)) (Sx.ev 65 (Vi (xs[(p.bv j 1).toNat]?.getD 0))) (X.idx (k := (xs[(p.bv j 1).toNat]?.getD 0).toNat) Try.underlying23 (Try.siz53 _) (by omega) (by omega) rfl)) hR.st0
       ·intro ac done u W Sx hR
        exact X.vl (X.field rfl (Sx.ev 66 (.pointer (some (pd14.add (((xs[(p.bv j 1).toNat]?.getD 0).toNat) * 6))))) (X.fld Try.underlying53 rfl (Try.siz3 _) rfl rfl)) hR.st0
       ·intro ac done u W Sx hR
        have g : Gr w11 W := hR.1
        exact X.vl (X.load rfl (Sx.ev 67 (.pointer (some (⟨(pd14.add (((xs[(p.bv j 1).toNat]?.getD 0).toNat) * 6)).block, (pd14.add (((xs[(p.bv j 1).toNat]?.getD 0).toNat) * 6)).off + 4, none⟩)))) (X.ld1 (Try.agg3 _) ((hC.gr g).at 13 rfl))) hR.st0
       ·intro ac done u W Sx hR
        exact X.vl (X.field rfl (Sx.ev 3 (Vp w.heap.size)) (X.fld Try.underlying27 rfl (Try.siz23 _) rfl rfl)) hR.st0
       ·intro ac done u W Sx hR
        have g : Gr w11 W := hR.1
        exact X.vl (X.load rfl (Sx.ev 69 (.pointer (some ⟨w.heap.size, 1, none⟩))) (X.ld1 (Try.agg23 _) ((hC.gr g).at 1 rfl))) hR.st0
       ·intro ac done u W Sx hR
        exact X.vl (X.move rfl (Sx.ev 8 (Vi (xs[(p.bv j 2).toNat]?.getD 0)))) hR.st0
       ·intro ac done u W Sx hR
        exact X.vl (X.index rfl (Sx.ev 70 (.slice (some pd14) p.nh hc)) (Sx.ev 71 (Vi (xs[(p.bv j 2).toNat]?.getD 0))) (X.idx (k := (xs[(p.bv j 2).toNat]?.getD 0).toNat) Try.underlying23 (Try.siz53 _) (by omega) (by omega) rfl)) hR.st0
       ·intro ac done u W Sx hR
        exact X.vl (X.field rfl (Sx.ev 72 (.pointer (some (pd14.add (((xs[(p.bv j 2).toNat]?.getD 0).toNat) * 6))))) (X.fld Try.underlying53 rfl (Try.siz3 _) rfl rfl)) hR.st0
       ·intro ac done u W Sx hR
        have g : Gr w11 W := hR.1
        exact X.vl (X.load rfl (Sx.ev 73 (.pointer (some (⟨(pd14.add (((xs[(p.bv j 2).toNat]?.getD 0).toNat) * 6)).block, (pd14.add (((xs[(p.bv j 2).toNat]?.getD 0).toNat) * 6)).off + 4, none⟩)))) (X.ld1 (Try.agg3 _) ((hC.gr g).at 19 rfl))) hR.st0
       ·intro ac done u W Sx hR
        exact X.vl (X.binop rfl (Sx.ev 68 (Vi (p.hv ((xs[(p.bv j 1).toNat]?.getD 0).toNat) 4))) (Sx.ev 74 (Vi (p.hv ((xs[(p.bv j 2).toNat]?.getD 0).toNat) 4))) (X.neqI Try.underlying3 rfl)) hR.st0
       ·intro ac done u W Sx hR
        exact X.vl (X.assign rfl (Sx.ev 75 (.bool ((p.hv ((xs[(p.bv j 1).toNat]?.getD 0).toNat) 4 : Int) != (p.hv ((xs[(p.bv j 2).toNat]?.getD 0).toNat) 4))))) hR.st0
       intro ac u w16 hs hd hl ho hR
       have g : Gr w11 w16 := hR.1
       replace F : Fr ac 76 [(6, .bool ((p.hv ((xs[(p.bv j 1).toNat]?.getD 0).toNat) 4 : Int) != (p.hv ((xs[(p.bv j 2).toNat]?.getD 0).toNat) 4)))] := X.fr hs hd hl _ (by kernel_rfl)
       clear hs hd hl ho hR
       replace G := G.trans g
       replace hC := hC.gr g
       replace hpt := hpt.gr g
       replace hph := hph.gr g
       replace hpb := hpb.gr g
       replace hpl := hpl.gr g
       replace hxs := hxs.gr g
       clear g
       refine X.thenN ?_
       refine Y.ret ?_
       exact Y.ret0 (v := .bool ((p.hv ((xs[(p.bv j 1).toNat]?.getD 0).toNat) 4 : Int) != (p.hv ((xs[(p.bv j 2).toNat]?.getD 0).toNat) 4))) F (Y.rs1 F rfl (by kernel_rfl)) ⟨by rw [kept_3 (by omega) (by omega) (by omega) (by omega) (by omega) (by omega)], G⟩
      | true =>
       try rw [h13] at F
       have h13p : (p.bv j 0 : Int) = 2 := by simpa using h13
       refine Y.condT (F.ev 58 (.bool true)) ?_
       refine Y.seq ?_
       refine Y.lit (by kernel_rfl) ?_
       refine Y.pv F (X.move rfl (F.ev 7 (Vi (xs[(p.bv j 1).toNat]?.getD 0)))) ?_;clear F ac;intro ac F
       refine Y.pv F (X.move rfl (F.ev 8 (Vi (xs[(p.bv j 2).toNat]?.getD 0)))) ?_;clear F ac;intro ac F
       refine Y.pv F (X.binop rfl (F.ev 60 (Vi (xs[(p.bv j 1).toNat]?.getD 0))) (F.ev 61 (Vi (xs[(p.bv j 2).toNat]?.getD 0))) (X.eqlI Try.underlying3 rfl)) ?_;clear F ac;intro ac F
       refine Y.pv F (X.assign rfl (F.ev 62 (.bool ((xs[(p.bv j 1).toNat]?.getD 0 : Int) == (xs[(p.bv j 2).toNat]?.getD 0))))) ?_;clear F ac;intro ac F
       refine Y.nil ?_
       replace F : Fr ac 76 [(6, .bool ((xs[(p.bv j 1).toNat]?.getD 0 : Int) == (xs[(p.bv j 2).toNat]?.getD 0)))] := F.sub _
       refine X.thenN ?_
       refine Y.ret ?_
       refine X.blockR ?_
       refine X.thenR ?_
       exact Y.ret0 (v := .bool ((xs[(p.bv j 1).toNat]?.getD 0 : Int) == (xs[(p.bv j 2).toNat]?.getD 0))) F (Y.rs1 F rfl (by kernel_rfl)) ⟨by rw [kept_2 (by omega) (by omega) (by omega)], G⟩
     | true =>
      try rw [h12] at F
      have h12p : (p.bv j 0 : Int) = 1 := by simpa using h12
      refine Y.condT (F.ev 53 (.bool true)) ?_
      refine Y.seq ?_
      refine Y.lit (by kernel_rfl) ?_
      refine Y.pv F (X.move rfl (F.ev 7 (Vi (xs[(p.bv j 1).toNat]?.getD 0)))) ?_;clear F ac;intro ac F
      refine Y.pv F (X.move rfl (F.ev 8 (Vi (xs[(p.bv j 2).toNat]?.getD 0)))) ?_;clear F ac;intro ac F
      refine Y.pv F (X.binop rfl (F.ev 55 (Vi (xs[(p.bv j 1).toNat]?.getD 0))) (F.ev 56 (Vi (xs[(p.bv j 2).toNat]?.getD 0))) (X.neqI Try.underlying3 rfl)) ?_;clear F ac;intro ac F
      refine Y.pv F (X.assign rfl (F.ev 57 (.bool ((xs[(p.bv j 1).toNat]?.getD 0 : Int) != (xs[(p.bv j 2).toNat]?.getD 0))))) ?_;clear F ac;intro ac F
      refine Y.nil ?_
      replace F : Fr ac 76 [(6, .bool ((xs[(p.bv j 1).toNat]?.getD 0 : Int) != (xs[(p.bv j 2).toNat]?.getD 0)))] := F.sub _
      refine X.thenN ?_
      refine Y.ret ?_
      refine X.blockR ?_
      refine X.thenR ?_
      exact Y.ret0 (v := .bool ((xs[(p.bv j 1).toNat]?.getD 0 : Int) != (xs[(p.bv j 2).toNat]?.getD 0))) F (Y.rs1 F rfl (by kernel_rfl)) ⟨by rw [kept_1 (by omega) (by omega) (by omega)], G⟩
    | true =>
     try rw [h8] at F
     have h8p : ((xs.length : Int) ≤ (p.bv j 2)) := of_decide_eq_true h8
     refine Y.condT (F.ev 40 (.bool true)) ?_
     refine Y.seq ?_
     refine Y.lit (by kernel_rfl) ?_
     refine Y.pv F (X.assign rfl (X.kc (.bool true) rfl)) ?_;clear F ac;intro ac F
     refine Y.nil ?_
     replace F : Fr ac 76 [(6, .bool true)] := F.sub _
     refine X.thenN ?_
     refine Y.ret ?_
     refine X.thenR ?_
     exact Y.ret0 (v := .bool true) F (Y.rs1 F rfl (by kernel_rfl)) ⟨by rw [kept_b (by omega) (by omega) (by omega) (by omega)], G⟩
   | true =>
    try rw [h7] at F
    have h7p : (p.bv j 0 : Int) = 5 := by simpa using h7
    refine Y.condT (F.ev 27 (.bool true)) ?_
    refine Y.seq ?_
    obtain ⟨pd17, pe17, -, pc17⟩ := hxs.at (j := (p.bv j 1).toNat) (by omega)
    subst pe17
    replace hC : RCells w4 [(Ad w.heap.size 0, .slice ta p.nt tc), (Ad w.heap.size 1, .slice ha p.nh hc), (Ad w.heap.size 2, .slice ba p.nb bc), (Ad w.heap.size 3, .slice la p.nl lc), (Ad w3.heap.size 0, Vi (p.bv j 0)), (Ad w3.heap.size 1, Vi (p.bv j 1)), (Ad w3.heap.size 2, Vi (p.bv j 2)), (pd17.add ((p.bv j 1).toNat), Vi (xs[(p.bv j 1).toNat]?.getD 0))] := hC.append ((RCells.cons pc17 (RCells.nil _)))
    clear pc17
    refine Y.region F [some (.slice (some pd17) xs.length c), some (.pointer (some ⟨w3.heap.size, 1, none⟩)), some (Vi (p.bv j 1)), some (.pointer (some (pd17.add ((p.bv j 1).toNat)))), some (Vi (xs[(p.bv j 1).toNat]?.getD 0)), some (.pointer (some ⟨w3.heap.size, 2, none⟩)), some (Vi (p.bv j 2)), some (.bool ((xs[(p.bv j 1).toNat]?.getD 0 : Int) == (p.bv j 2))), some (.bool ((xs[(p.bv j 1).toNat]?.getD 0 : Int) == (p.bv j 2)))] [] rfl ⟨by kernel_rfl, of_decide_eq_true (by kernel_rfl), by kernel_rfl, by kernel_rfl, by kernel_rfl⟩ ⟨?_, ?_, ?_, ?_, ?_, ?_, ?_, ?_, ?_, trivial⟩ ?_
    ·intro ac done u W Sx hR
     exact X.vl (X.move rfl (Sx.ev 2 (.slice (some pd17) xs.length c))) hR.st0
    ·intro ac done u W Sx hR
     exact X.vl (X.field rfl (Sx.ev 4 (Vp w3.heap.size)) (X.fld Try.underlying65 rfl (Try.siz3 _) rfl rfl)) hR.st0
    ·intro ac done u W Sx hR
     have g : Gr w4 W := hR.1
     exact X.vl (X.load rfl (Sx.ev 29 (.pointer (some ⟨w3.heap.size, 1, none⟩))) (X.ld1 (Try.agg3 _) ((hC.gr g).at 5 rfl))) hR.st0
    ·intro ac done u W Sx hR
     exact X.val (X.w0 rfl) rfl (X.index rfl (Sx.ev 28 (.slice (some pd17) xs.length c)) (Sx.ev 30 (Vi (p.bv j 1))) (X.idx (k := (p.bv j 1).toNat) Try.underlying34 (Try.siz3 _) (by omega) (by omega) (by rw [Nat.mul_one]))) hR.st0
    ·intro ac done u W Sx hR
     have g : Gr w4 W := hR.1
     exact X.vl (X.load rfl (Sx.ev 31 (.pointer (some (pd17.add ((p.bv j 1).toNat))))) (X.ld1 (Try.agg3 _) ((hC.gr g).at 7 rfl))) hR.st0
    ·intro ac done u W Sx hR
     exact X.vl (X.field rfl (Sx.ev 4 (Vp w3.heap.size)) (X.fld Try.underlying65 rfl (Try.siz3 _) rfl rfl)) hR.st0
    ·intro ac done u W Sx hR
     have g : Gr w4 W := hR.1
     exact X.vl (X.load rfl (Sx.ev 33 (.pointer (some ⟨w3.heap.size, 2, none⟩))) (X.ld1 (Try.agg3 _) ((hC.gr g).at 6 rfl))) hR.st0
    ·intro ac done u W Sx hR
     exact X.vl (X.binop rfl (Sx.ev 32 (Vi (xs[(p.bv j 1).toNat]?.getD 0))) (Sx.ev 34 (Vi (p.bv j 2))) (X.eqlI Try.underlying3 rfl)) hR.st0
    ·intro ac done u W Sx hR
     exact X.vl (X.assign rfl (Sx.ev 35 (.bool ((xs[(p.bv j 1).toNat]?.getD 0 : Int) == (p.bv j 2))))) hR.st0
    intro ac u w18 hs hd hl ho hR
    have g : Gr w4 w18 := hR.1
    replace F : Fr ac 76 [(6, .bool ((xs[(p.bv j 1).toNat]?.getD 0 : Int) == (p.bv j 2)))] := X.fr hs hd hl _ (by kernel_rfl)
    clear hs hd hl ho hR
    replace G := G.trans g
    replace hC := hC.gr g
    replace hpt := hpt.gr g
    replace hph := hph.gr g
    replace hpb := hpb.gr g
    replace hpl := hpl.gr g
    replace hxs := hxs.gr g
    clear g
    refine X.thenN ?_
    refine Y.ret ?_
    refine X.thenR ?_
    exact Y.ret0 (v := .bool ((xs[(p.bv j 1).toNat]?.getD 0 : Int) == (p.bv j 2))) F (Y.rs1 F rfl (by kernel_rfl)) ⟨by rw [kept_5 (by omega) (by omega)], G⟩
  | true =>
   try rw [h6] at F
   have h6p : (p.bv j 0 : Int) = 4 := by simpa using h6
   refine Y.condT (F.ev 16 (.bool true)) ?_
   refine Y.seq ?_
   obtain ⟨pd19, pe19, -, pc19⟩ := hxs.at (j := (p.bv j 1).toNat) (by omega)
   subst pe19
   replace hC : RCells w4 [(Ad w.heap.size 0, .slice ta p.nt tc), (Ad w.heap.size 1, .slice ha p.nh hc), (Ad w.heap.size 2, .slice ba p.nb bc), (Ad w.heap.size 3, .slice la p.nl lc), (Ad w3.heap.size 0, Vi (p.bv j 0)), (Ad w3.heap.size 1, Vi (p.bv j 1)), (Ad w3.heap.size 2, Vi (p.bv j 2)), (pd19.add ((p.bv j 1).toNat), Vi (xs[(p.bv j 1).toNat]?.getD 0))] := hC.append ((RCells.cons pc19 (RCells.nil _)))
   clear pc19
   refine Y.region F [some (.slice (some pd19) xs.length c), some (.pointer (some ⟨w3.heap.size, 1, none⟩)), some (Vi (p.bv j 1)), some (.pointer (some (pd19.add ((p.bv j 1).toNat)))), some (Vi (xs[(p.bv j 1).toNat]?.getD 0)), some (.pointer (some ⟨w3.heap.size, 2, none⟩)), some (Vi (p.bv j 2)), some (.bool ((xs[(p.bv j 1).toNat]?.getD 0 : Int) != (p.bv j 2))), some (.bool ((xs[(p.bv j 1).toNat]?.getD 0 : Int) != (p.bv j 2)))] [] rfl ⟨by kernel_rfl, of_decide_eq_true (by kernel_rfl), by kernel_rfl, by kernel_rfl, by kernel_rfl⟩ ⟨?_, ?_, ?_, ?_, ?_, ?_, ?_, ?_, ?_, trivial⟩ ?_
   ·intro ac done u W Sx hR
    exact X.vl (X.move rfl (Sx.ev 2 (.slice (some pd19) xs.length c))) hR.st0
   ·intro ac done u W Sx hR
    exact X.vl (X.field rfl (Sx.ev 4 (Vp w3.heap.size)) (X.fld Try.underlying65 rfl (Try.siz3 _) rfl rfl)) hR.st0
   ·intro ac done u W Sx hR
    have g : Gr w4 W := hR.1
    exact X.vl (X.load rfl (Sx.ev 18 (.pointer (some ⟨w3.heap.size, 1, none⟩))) (X.ld1 (Try.agg3 _) ((hC.gr g).at 5 rfl))) hR.st0
   ·intro ac done u W Sx hR
    exact X.val (X.w0 rfl) rfl (X.index rfl (Sx.ev 17 (.slice (some pd19) xs.length c)) (Sx.ev 19 (Vi (p.bv j 1))) (X.idx (k := (p.bv j 1).toNat) Try.underlying34 (Try.siz3 _) (by omega) (by omega) (by rw [Nat.mul_one]))) hR.st0
   ·intro ac done u W Sx hR
    have g : Gr w4 W := hR.1
    exact X.vl (X.load rfl (Sx.ev 20 (.pointer (some (pd19.add ((p.bv j 1).toNat))))) (X.ld1 (Try.agg3 _) ((hC.gr g).at 7 rfl))) hR.st0
   ·intro ac done u W Sx hR
    exact X.vl (X.field rfl (Sx.ev 4 (Vp w3.heap.size)) (X.fld Try.underlying65 rfl (Try.siz3 _) rfl rfl)) hR.st0
   ·intro ac done u W Sx hR
    have g : Gr w4 W := hR.1
    exact X.vl (X.load rfl (Sx.ev 22 (.pointer (some ⟨w3.heap.size, 2, none⟩))) (X.ld1 (Try.agg3 _) ((hC.gr g).at 6 rfl))) hR.st0
   ·intro ac done u W Sx hR
    exact X.vl (X.binop rfl (Sx.ev 21 (Vi (xs[(p.bv j 1).toNat]?.getD 0))) (Sx.ev 23 (Vi (p.bv j 2))) (X.neqI Try.underlying3 rfl)) hR.st0
   ·intro ac done u W Sx hR
    exact X.vl (X.assign rfl (Sx.ev 24 (.bool ((xs[(p.bv j 1).toNat]?.getD 0 : Int) != (p.bv j 2))))) hR.st0
   intro ac u w20 hs hd hl ho hR
   have g : Gr w4 w20 := hR.1
   replace F : Fr ac 76 [(6, .bool ((xs[(p.bv j 1).toNat]?.getD 0 : Int) != (p.bv j 2)))] := X.fr hs hd hl _ (by kernel_rfl)
   clear hs hd hl ho hR
   replace G := G.trans g
   replace hC := hC.gr g
   replace hpt := hpt.gr g
   replace hph := hph.gr g
   replace hpb := hpb.gr g
   replace hpl := hpl.gr g
   replace hxs := hxs.gr g
   clear g
   refine X.thenN ?_
   refine Y.ret ?_
   refine X.thenR ?_
   exact Y.ret0 (v := .bool ((xs[(p.bv j 1).toNat]?.getD 0 : Int) != (p.bv j 2))) F (Y.rs1 F rfl (by kernel_rfl)) ⟨by rw [kept_4 (by omega) (by omega)], G⟩
 | true =>
  try rw [h5] at F
  have h5p : ((xs.length : Int) ≤ (p.bv j 1)) := of_decide_eq_true h5
  refine Y.condT (F.ev 13 (.bool true)) ?_
  refine Y.seq ?_
  refine Y.lit (by kernel_rfl) ?_
  refine Y.pv F (X.assign rfl (X.kc (.bool true) rfl)) ?_;clear F ac;intro ac F
  refine Y.nil ?_
  replace F : Fr ac 76 [(6, .bool true)] := F.sub _
  refine X.thenN ?_
  refine Y.ret ?_
  refine X.thenR ?_
  exact Y.ret0 (v := .bool true) F (Y.rs1 F rfl (by kernel_rfl)) ⟨by rw [kept_a (by omega)], G⟩
set_option maxRecDepth 100000 in
set_option maxHeartbeats 4000000 in
theorem hop2_any (p : Pb) (ta ha ba la : Option Addr) (tc hc bc lc : Nat) (a : Option Addr) (c : Nat) (xs : List Int) (hu : Int) (w : World) (hP : PbAt w p ta ha ba la tc hc bc lc) (hX : Ints w a xs.length xs) (hp : PbOk p) (hx : HosOk p xs) (hn : xs.length ≤ p.nt) (hhu : 0 ≤ hu ∧ hu ≤ 100001) :
  Calls Try.prog 75 #[.agg #[.slice ta p.nt tc, .slice ha p.nh hc, .slice ba p.nb bc, .slice la p.nl lc], .slice a xs.length c, Vi hu] w fun e w' => e = .returned (.bool (hopeB p (hund p hu) xs)) ∧ Gr w w' := by
 have G := Gr.refl w
 have hpt := hP.t
 have hph := hP.h
 have hpb := hP.b
 have hpl := hP.l
 have hplen := hP.len
 obtain ⟨hn1, hn2, hn3, hn4⟩ := hplen
 have hcp1 := hpt.cap
 have hcp2 := hph.cap
 have hcp3 := hpb.cap
 have hcp4 := hpl.cap
 have hxs := hX
 have hlt := hxs.lt
 have h6 := hp.h6
 have h10 := hp.t10
 refine Y.calls 98 Try.func75 rfl rfl ?_
 intro ac F0
 have F : Fr ac 98 [(0, .agg #[.slice ta p.nt tc, .slice ha p.nh hc, .slice ba p.nb bc, .slice la p.nl lc]), (1, .slice a xs.length c), (2, Vi hu)] := F0.sub _
 clear F0
 refine Y.seq ?_
 refine Y.lit (by kernel_rfl) ?_
 have hgs3 : w.heap.size ≤ w.heap.size := G.size
 refine Y.pv F (X.box rfl (F.ev 0 (.agg #[.slice ta p.nt tc, .slice ha p.nh hc, .slice ba p.nb bc, .slice la p.nl lc])) X.bx) ?_;clear F ac;intro ac F
 have hgs5 : w.heap.size ≤ w.heap.size := G.size
 have g := Gr.alloc w (.cells #[.slice ta p.nt tc, .slice ha p.nh hc, .slice ba p.nb bc, .slice la p.nl lc] 27)
 have hb := heap_alloc_new w (.cells #[.slice ta p.nt tc, .slice ha p.nh hc, .slice ba p.nb bc, .slice la p.nl lc] 27)
 have hbl : w.heap.size < (w.alloc (.cells #[.slice ta p.nt tc, .slice ha p.nh hc, .slice ba p.nb bc, .slice la p.nl lc] 27)).heap.size := by simp
 have hC2 : RCells (w.alloc (.cells #[.slice ta p.nt tc, .slice ha p.nh hc, .slice ba p.nb bc, .slice la p.nl lc] 27)) [(Ad w.heap.size 0, .slice ta p.nt tc), (Ad w.heap.size 1, .slice ha p.nh hc), (Ad w.heap.size 2, .slice ba p.nb bc), (Ad w.heap.size 3, .slice la p.nl lc)] := (RCells.nil w).box (b := w.heap.size) #[.slice ta p.nt tc, .slice ha p.nh hc, .slice ba p.nb bc, .slice la p.nl lc] 27 rfl
 generalize w.alloc (.cells #[.slice ta p.nt tc, .slice ha p.nh hc, .slice ba p.nb bc, .slice la p.nl lc] 27) = w6 at *
 replace G := G.trans g
 have hC := hC2
 clear hC2
 replace hpt := hpt.gr g
 replace hph := hph.gr g
 replace hpb := hpb.gr g
 replace hpl := hpl.gr g
 replace hxs := hxs.gr g
 have hsz4 := hbl
 clear g hb hbl
 refine Y.pv F (X.assign rfl (X.kc (.bool false) rfl)) ?_;clear F ac;intro ac F
 refine Y.nil ?_
 replace F : Fr ac 98 [(1, .slice a xs.length c), (2, Vi hu), (3, Vp w.heap.size)] := F.sub _
 refine X.thenN ?_
 refine Y.seq ?_
 refine Y.seq ?_
 refine Y.lit (by kernel_rfl) ?_
 refine Y.pv F (X.assign rfl (X.kc (Vi 0) rfl)) ?_;clear F ac;intro ac F
 refine Y.nil ?_
 replace F : Fr ac 98 [(1, .slice a xs.length c), (2, Vi hu), (3, Vp w.heap.size), (7, Vi 0)] := F.sub _
 refine X.thenN ?_
 refine Y.block ?_
 refine Y.loop (fun me_ ac wr => ∃ (i : Nat), me_ = p.nh - i ∧ Only (fun b => False) w6 wr ∧ i ≤ p.nh ∧ allN (fitR p hu xs) i = true ∧ Fr ac 98 [(1, .slice a xs.length c), (2, Vi hu), (3, Vp w.heap.size), (7, Vi i)]) _ ⟨0, rfl, Only.refl _ _, Nat.zero_le _, rfl, F.sub _⟩ ?_
 have hptB1 := hpt
 have hphB1 := hph
 have hpbB1 := hpb
 have hplB1 := hpl
 have hxsB1 := hxs
 have GB1 := G
 have hCB1 := hC
 clear F ac
 intro me_ ac w7 hI
 obtain ⟨i, rfl, hO1, hi0, hok, F⟩ := hI
 replace G := GB1.trans (hO1.gr (fun _ _ h => h))
 replace hpt := (hP.t).gr G
 replace hph := (hP.h).gr G
 replace hpb := (hP.b).gr G
 replace hpl := (hP.l).gr G
 replace hxs := (hX).gr G
 replace hC := (RCells.cons (hO1.cell (hCB1.at 0 rfl) (fun h => h)) (RCells.cons (hO1.cell (hCB1.at 1 rfl) (fun h => h)) (RCells.cons (hO1.cell (hCB1.at 2 rfl) (fun h => h)) (RCells.cons (hO1.cell (hCB1.at 3 rfl) (fun h => h)) (RCells.nil _)))))
 refine Y.seq ?_
 refine Y.seq ?_
 refine Y.lit (by kernel_rfl) ?_
 refine Y.pv F (X.move rfl (F.ev 7 (Vi i))) ?_;clear F ac;intro ac F
 refine Y.pv F (X.field rfl (F.ev 3 (Vp w.heap.size)) (X.fld Try.underlying27 rfl (Try.siz23 _) rfl rfl)) ?_;clear F ac;intro ac F
 refine Y.pv F (X.load rfl (F.ev 13 (.pointer (some ⟨w.heap.size, 1, none⟩))) (X.ld1 (Try.agg23 _) (hC.at 1 rfl))) ?_;clear F ac;intro ac F
 refine Y.pv F (X.len1 Try.underlying23 rfl (F.ev 14 (.slice ha p.nh hc))) ?_;clear F ac;intro ac F
 refine Y.pv F (X.binop rfl (F.ev 12 (Vi i)) (F.ev 15 (Vi p.nh)) (X.lssI Try.underlying3 rfl)) ?_;clear F ac;intro ac F
 refine Y.nil ?_
 replace F : Fr ac 98 [(1, .slice a xs.length c), (2, Vi hu), (3, Vp w.heap.size), (7, Vi i), (16, .bool (decide ((i : Int) < p.nh)))] := F.sub _
 refine X.thenN ?_
 cases h8 : decide ((i : Int) < p.nh) with
 | false =>
  try rw [h8] at F
  have h8p : ¬ ((i : Int) < p.nh) := of_decide_eq_false h8
  obtain rfl : i = p.nh := by omega
  have hall1 := hok
  refine Y.condF (F.ev 16 (.bool false)) ?_
  refine Y.exit ?_
  refine X.thenX ?_
  refine X.thenX ?_
  refine X.blockX ?_
  refine X.thenN ?_
  refine Y.seq ?_
  refine Y.seq ?_
  refine Y.lit (by kernel_rfl) ?_
  refine Y.pv F (X.assign rfl (X.kc (Vi 0) rfl)) ?_;clear F ac;intro ac F
  refine Y.nil ?_
  replace F : Fr ac 98 [(1, .slice a xs.length c), (3, Vp w.heap.size), (11, Vi 0)] := F.sub _
  refine X.thenN ?_
  refine Y.block ?_
  refine Y.loop (fun me_ ac wr => ∃ (j : Nat), me_ = p.nb - j ∧ Only (fun b => False) w7 wr ∧ j ≤ p.nb ∧ allN (keptB p xs) j = true ∧ Fr ac 98 [(1, .slice a xs.length c), (3, Vp w.heap.size), (11, Vi j)]) _ ⟨0, rfl, Only.refl _ _, Nat.zero_le _, rfl, F.sub _⟩ ?_
  have hptB1 := hpt
  have hphB1 := hph
  have hpbB1 := hpb
  have hplB1 := hpl
  have hxsB1 := hxs
  have GB1 := G
  have hCB1 := hC
  clear F ac
  intro me_ ac w9 hI
  obtain ⟨j, rfl, hO1, hj0, hkp, F⟩ := hI
  replace G := GB1.trans (hO1.gr (fun _ _ h => h))
  replace hpt := (hP.t).gr G
  replace hph := (hP.h).gr G
  replace hpb := (hP.b).gr G
  replace hpl := (hP.l).gr G
  replace hxs := (hX).gr G
  replace hC := (RCells.cons (hO1.cell (hCB1.at 0 rfl) (fun h => h)) (RCells.cons (hO1.cell (hCB1.at 1 rfl) (fun h => h)) (RCells.cons (hO1.cell (hCB1.at 2 rfl) (fun h => h)) (RCells.cons (hO1.cell (hCB1.at 3 rfl) (fun h => h)) (RCells.nil _)))))
  refine Y.seq ?_
  refine Y.seq ?_
  refine Y.lit (by kernel_rfl) ?_
  refine Y.pv F (X.move rfl (F.ev 11 (Vi j))) ?_;clear F ac;intro ac F
  refine Y.pv F (X.field rfl (F.ev 3 (Vp w.heap.size)) (X.fld Try.underlying27 rfl (Try.siz24 _) rfl rfl)) ?_;clear F ac;intro ac F
  refine Y.pv F (X.load rfl (F.ev 83 (.pointer (some ⟨w.heap.size, 2, none⟩))) (X.ld1 (Try.agg24 _) (hC.at 2 rfl))) ?_;clear F ac;intro ac F
  refine Y.pv F (X.len1 Try.underlying24 rfl (F.ev 84 (.slice ba p.nb bc))) ?_;clear F ac;intro ac F
  refine Y.pv F (X.binop rfl (F.ev 82 (Vi j)) (F.ev 85 (Vi p.nb)) (X.lssI Try.underlying3 rfl)) ?_;clear F ac;intro ac F
  refine Y.nil ?_
  replace F : Fr ac 98 [(1, .slice a xs.length c), (3, Vp w.heap.size), (11, Vi j), (86, .bool (decide ((j : Int) < p.nb)))] := F.sub _
  refine X.thenN ?_
  cases h10 : decide ((j : Int) < p.nb) with
  | false =>
   try rw [h10] at F
   have h10p : ¬ ((j : Int) < p.nb) := of_decide_eq_false h10
   obtain rfl : j = p.nb := by omega
   refine Y.condF (F.ev 86 (.bool false)) ?_
   refine Y.exit ?_
   refine X.thenX ?_
   refine X.thenX ?_
   refine X.blockX ?_
   refine X.thenN ?_
   refine Y.seq ?_
   refine Y.lit (by kernel_rfl) ?_
   refine Y.pv F (X.assign rfl (X.kc (.bool false) rfl)) ?_;clear F ac;intro ac F
   refine Y.nil ?_
   replace F : Fr ac 98 [(6, .bool false)] := F.sub _
   refine X.thenN ?_
   refine Y.ret ?_
   exact Y.ret0 (v := .bool false) F (Y.rs1 F rfl (by kernel_rfl)) ⟨by rw [hopR_no hx hall1 hkp], G⟩
  | true =>
   try rw [h10] at F
   have h10p : ((j : Int) < p.nb) := of_decide_eq_true h10
   have hj : j < p.nb := by omega
   refine Y.condT (F.ev 86 (.bool true)) ?_
   refine Y.skip ?_
   refine X.thenN ?_
   refine Y.seq ?_
   refine Y.block ?_
   refine Y.seq ?_
   obtain ⟨pd11, pe11, -, pc11⟩ := hpb.at (j := j) (by omega)
   subst pe11
   replace hC : RCells w9 [(Ad w.heap.size 0, .slice ta p.nt tc), (Ad w.heap.size 1, .slice ha p.nh hc), (Ad w.heap.size 2, .slice (some pd11) p.nb bc), (Ad w.heap.size 3, .slice la p.nl lc), (pd11.add (j * 3), Vi (p.bv j 0)), (⟨(pd11.add (j * 3)).block, (pd11.add (j * 3)).off + 1, none⟩, Vi (p.bv j 1)), (⟨(pd11.add (j * 3)).block, (pd11.add (j * 3)).off + 2, none⟩, Vi (p.bv j 2))] := hC.append ((RCells.cons (pc11 0 (by decide)) (RCells.cons (pc11 1 (by decide)) (RCells.cons (pc11 2 (by decide)) (RCells.nil _)))))
   clear pc11
   refine Y.region F [some (.agg #[.slice ta p.nt tc, .slice ha p.nh hc, .slice (some pd11) p.nb bc, .slice la p.nl lc]), some (.pointer (some ⟨w.heap.size, 2, none⟩)), some (.slice (some pd11) p.nb bc), some (Vi j), some (.pointer (some (pd11.add (j * 3)))), some (.agg #[Vi (p.bv j 0), Vi (p.bv j 1), Vi (p.bv j 2)]), some (.slice a xs.length c), some (.bool (keptB p xs j)), some (.bool (!(keptB p xs j)))] [] rfl ⟨by kernel_rfl, of_decide_eq_true (by kernel_rfl), by kernel_rfl, by kernel_rfl, by kernel_rfl⟩ ⟨?_, ?_, ?_, ?_, ?_, ?_, ?_, ?_, ?_, trivial⟩ ?_
   ·intro ac done u W Sx hR
    have g : Gr w9 W := hR.1
    exact X.vl (X.load rfl (Sx.ev 3 (Vp w.heap.size)) (X.ldN (Try.agg27 _) (Try.siz27 _) (Y.atz (⟨w.heap.size, 0, none⟩) (Y.AtFrom.cons ((hC.gr g).at 0 rfl) (Y.AtFrom.cons ((hC.gr g).at 1 rfl) (Y.AtFrom.cons ((hC.gr g).at 2 rfl) (Y.AtFrom.cons ((hC.gr g).at 3 rfl) (Y.AtFrom.nil _ _ _)))))))) hR.st0
   ·intro ac done u W Sx hR
    exact X.vl (X.field rfl (Sx.ev 3 (Vp w.heap.size)) (X.fld Try.underlying27 rfl (Try.siz24 _) rfl rfl)) hR.st0
   ·intro ac done u W Sx hR
    have g : Gr w9 W := hR.1
    exact X.vl (X.load rfl (Sx.ev 90 (.pointer (some ⟨w.heap.size, 2, none⟩))) (X.ld1 (Try.agg24 _) ((hC.gr g).at 2 rfl))) hR.st0
   ·intro ac done u W Sx hR
    exact X.vl (X.move rfl (Sx.ev 11 (Vi j))) hR.st0
   ·intro ac done u W Sx hR
    exact X.vl (X.index rfl (Sx.ev 91 (.slice (some pd11) p.nb bc)) (Sx.ev 92 (Vi j)) (X.idx (k := j) Try.underlying24 (Try.siz65 _) (by omega) (by omega) rfl)) hR.st0
   ·intro ac done u W Sx hR
    have g : Gr w9 W := hR.1
    exact X.vl (X.load rfl (Sx.ev 93 (.pointer (some (pd11.add (j * 3))))) (X.ldN (Try.agg65 _) (Try.siz65 _) (Y.atz (pd11.add (j * 3)) (Y.AtFrom.cons ((hC.gr g).at 4 rfl) (Y.AtFrom.cons ((hC.gr g).at 5 rfl) (Y.AtFrom.cons ((hC.gr g).at 6 rfl) (Y.AtFrom.nil _ _ _))))))) hR.st0
   ·intro ac done u W Sx hR
    exact X.vl (X.move rfl (Sx.ev 1 (.slice a xs.length c))) hR.st0
   ·intro ac done u W Sx hR
    have g : Gr w9 W := hR.1
    refine X.call (X.w0 rfl) (X.enter (F := 108) rfl (X.kc (.func (.func 108) #[] #[]) rfl) (X.a3 (Sx.ev 89 (.agg #[.slice ta p.nt tc, .slice ha p.nh hc, .slice (some pd11) p.nb bc, .slice la p.nl lc])) (Sx.ev 94 (.agg #[Vi (p.bv j 0), Vi (p.bv j 1), Vi (p.bv j 2)])) (Sx.ev 95 (.slice a xs.length c))) (enters_of Try.func108 (by kernel_rfl) rfl _)) (kept2_any p ta ha (some pd11) la tc hc bc lc a c xs W (hP.gr (G.trans g)) (hX.gr (G.trans g)) hp hx j (by omega)) ?_
    rintro e W2 ⟨rfl, g2⟩
    exact ⟨_, rfl, X.kn rfl, hR.step g2 rfl⟩
   ·intro ac done u W Sx hR
    exact X.vl (X.notB rfl (Sx.ev 96 (.bool (keptB p xs j))) rfl) hR.st0
   intro ac u w12 hs hd hl ho hR
   have g : Gr w9 w12 := hR.1
   replace F : Fr ac 98 [(1, .slice a xs.length c), (3, Vp w.heap.size), (11, Vi j), (97, .bool (!(keptB p xs j)))] := X.fr hs hd hl _ (by kernel_rfl)
   clear hs hd hl ho hR
   replace G := G.trans g
   replace hC := hC.gr g
   replace hO1 := hO1.thenGr g
   replace hpt := hpt.gr g
   replace hph := hph.gr g
   replace hpb := hpb.gr g
   replace hpl := hpl.gr g
   replace hxs := hxs.gr g
   clear g
   refine X.thenN ?_
   cases h13 : keptB p xs j with
   | false =>
    try rw [h13] at F
    refine Y.condT (F.ev 97 (.bool true)) ?_
    refine Y.seq ?_
    refine Y.lit (by kernel_rfl) ?_
    refine Y.pv F (X.assign rfl (X.kc (.bool true) rfl)) ?_;clear F ac;intro ac F
    refine Y.nil ?_
    replace F : Fr ac 98 [(6, .bool true)] := F.sub _
    refine X.thenN ?_
    refine Y.ret ?_
    refine X.blockR ?_
    refine X.thenR ?_
    refine X.thenR ?_
    refine X.blockR ?_
    refine X.thenR ?_
    exact Y.ret0 (v := .bool true) F (Y.rs1 F rfl (by kernel_rfl)) ⟨by rw [hopR_kept hj h13], G⟩
   | true =>
    try rw [h13] at F
    refine Y.condF (F.ev 97 (.bool false)) ?_
    refine Y.skip ?_
    refine X.blockN ?_
    refine X.thenN ?_
    refine Y.lit (by kernel_rfl) ?_
    refine Y.pv F (X.move rfl (F.ev 11 (Vi j))) ?_;clear F ac;intro ac F
    refine Y.pv F (X.binop rfl (F.ev 87 (Vi j)) (X.kc (Vi 1) rfl) (X.addI Try.underlying3 rfl (by omega) (by omega))) ?_;clear F ac;intro ac F
    refine Y.pv F (X.assign rfl (F.ev 88 (Vi ((j : Int) + 1)))) ?_;clear F ac;intro ac F
    refine Y.nil ?_
    replace F : Fr ac 98 [(1, .slice a xs.length c), (3, Vp w.heap.size), (11, Vi ((j : Int) + 1))] := F.sub _
    refine X.thenN ?_
    refine ⟨_, ?_, j + 1, rfl, hO1, by omega, allN_succ hkp h13, F.sub _⟩
    omega
 | true =>
  try rw [h8] at F
  have h8p : ((i : Int) < p.nh) := of_decide_eq_true h8
  have hi : i < p.nh := by omega
  refine Y.condT (F.ev 16 (.bool true)) ?_
  refine Y.skip ?_
  refine X.thenN ?_
  refine Y.seq ?_
  refine Y.block ?_
  refine Y.seq ?_
  refine Y.lit (by kernel_rfl) ?_
  refine Y.pv F (X.assign rfl (X.kc (Vi 0) rfl)) ?_;clear F ac;intro ac F
  refine Y.pv F (X.assign rfl (X.kc (Vi 0) rfl)) ?_;clear F ac;intro ac F
  refine Y.nil ?_
  replace F : Fr ac 98 [(1, .slice a xs.length c), (2, Vi hu), (3, Vp w.heap.size), (7, Vi i), (8, Vi 0), (9, Vi 0)] := F.sub _
  refine X.thenN ?_
  refine Y.seq ?_
  refine Y.seq ?_
  refine Y.lit (by kernel_rfl) ?_
  refine Y.pv F (X.assign rfl (X.kc (Vi 0) rfl)) ?_;clear F ac;intro ac F
  refine Y.nil ?_
  replace F : Fr ac 98 [(1, .slice a xs.length c), (2, Vi hu), (3, Vp w.heap.size), (7, Vi i), (8, Vi 0), (9, Vi 0), (10, Vi 0)] := F.sub _
  refine X.thenN ?_
  refine Y.block ?_
  refine Y.loop (fun me_ ac wr => ∃ (k : Nat), me_ = xs.length - k ∧ Only (fun b => False) w7 wr ∧ k ≤ xs.length ∧ allN (levR p xs i) k = true ∧ Fr ac 98 [(1, .slice a xs.length c), (2, Vi hu), (3, Vp w.heap.size), (7, Vi i), (8, Vi (onS (fun j => p.tv j 1) xs i k)), (9, Vi (onS (hund p hu) xs i k)), (10, Vi k)]) _ ⟨0, rfl, Only.refl _ _, Nat.zero_le _, rfl, F.sub _⟩ ?_
  have hptB2 := hpt
  have hphB2 := hph
  have hpbB2 := hpb
  have hplB2 := hpl
  have hxsB2 := hxs
  have GB2 := G
  have hCB2 := hC
  clear F ac
  intro me_ ac w14 hI
  obtain ⟨k, rfl, hO2, hk0, hlev, F⟩ := hI
  replace G := GB2.trans (hO2.gr (fun _ _ h => h))
  replace hpt := (hP.t).gr G
  replace hph := (hP.h).gr G
  replace hpb := (hP.b).gr G
  replace hpl := (hP.l).gr G
  replace hxs := (hX).gr G
  replace hC := (RCells.cons (hO2.cell (hCB2.at 0 rfl) (fun h => h)) (RCells.cons (hO2.cell (hCB2.at 1 rfl) (fun h => h)) (RCells.cons (hO2.cell (hCB2.at 2 rfl) (fun h => h)) (RCells.cons (hO2.cell (hCB2.at 3 rfl) (fun h => h)) (RCells.nil _)))))
  replace hO1 := hO1.step2 hO2 (fun r e => False.elim e)
  refine Y.seq ?_
  refine Y.seq ?_
  refine Y.lit (by kernel_rfl) ?_
  refine Y.pv F (X.move rfl (F.ev 10 (Vi k))) ?_;clear F ac;intro ac F
  refine Y.pv F (X.move rfl (F.ev 1 (.slice a xs.length c))) ?_;clear F ac;intro ac F
  refine Y.pv F (X.len1 Try.underlying34 rfl (F.ev 20 (.slice a xs.length c))) ?_;clear F ac;intro ac F
  refine Y.pv F (X.binop rfl (F.ev 19 (Vi k)) (F.ev 21 (Vi xs.length)) (X.lssI Try.underlying3 rfl)) ?_;clear F ac;intro ac F
  refine Y.nil ?_
  replace F : Fr ac 98 [(1, .slice a xs.length c), (2, Vi hu), (3, Vp w.heap.size), (7, Vi i), (8, Vi (onS (fun j => p.tv j 1) xs i k)), (9, Vi (onS (hund p hu) xs i k)), (10, Vi k), (22, .bool (decide ((k : Int) < xs.length)))] := F.sub _
  refine X.thenN ?_
  cases h15 : decide ((k : Int) < xs.length) with
  | false =>
   try rw [h15] at F
   have h15p : ¬ ((k : Int) < xs.length) := of_decide_eq_false h15
   obtain rfl : k = xs.length := by omega
   refine Y.condF (F.ev 22 (.bool false)) ?_
   refine Y.exit ?_
   refine X.thenX ?_
   refine X.thenX ?_
   refine X.blockX ?_
   refine X.thenN ?_
   refine Y.seq ?_
   refine Y.lit (by kernel_rfl) ?_
   refine Y.pv F (X.move rfl (F.ev 8 (Vi (onS (fun j => p.tv j 1) xs i xs.length)))) ?_;clear F ac;intro ac F
   refine Y.pv F (X.field rfl (F.ev 3 (Vp w.heap.size)) (X.fld Try.underlying27 rfl (Try.siz23 _) rfl rfl)) ?_;clear F ac;intro ac F
   refine Y.pv F (X.load rfl (F.ev 65 (.pointer (some ⟨w.heap.size, 1, none⟩))) (X.ld1 (Try.agg23 _) (hC.at 1 rfl))) ?_;clear F ac;intro ac F
   refine Y.pv F (X.move rfl (F.ev 7 (Vi i))) ?_;clear F ac;intro ac F
   obtain ⟨pd16, pe16, -, pc16⟩ := hph.at (j := i) (by omega)
   subst pe16
   replace hC : RCells w14 [(Ad w.heap.size 0, .slice ta p.nt tc), (Ad w.heap.size 1, .slice (some pd16) p.nh hc), (Ad w.heap.size 2, .slice ba p.nb bc), (Ad w.heap.size 3, .slice la p.nl lc), (pd16.add (i * 6), .string (p.hn i)), (⟨(pd16.add (i * 6)).block, (pd16.add (i * 6)).off + 1, none⟩, Vi (p.hv i 1)), (⟨(pd16.add (i * 6)).block, (pd16.add (i * 6)).off + 2, none⟩, Vi (p.hv i 2)), (⟨(pd16.add (i * 6)).block, (pd16.add (i * 6)).off + 3, none⟩, Vi (p.hv i 3)), (⟨(pd16.add (i * 6)).block, (pd16.add (i * 6)).off + 4, none⟩, Vi (p.hv i 4)), (⟨(pd16.add (i * 6)).block, (pd16.add (i * 6)).off + 5, none⟩, Vi (p.hv i 5))] := hC.append ((RCells.cons (pc16 0 (by decide)) (RCells.cons (pc16 1 (by decide)) (RCells.cons (pc16 2 (by decide)) (RCells.cons (pc16 3 (by decide)) (RCells.cons (pc16 4 (by decide)) (RCells.cons (pc16 5 (by decide)) (RCells.nil _))))))))
   clear pc16
   refine Y.pv F (X.index rfl (F.ev 66 (.slice (some pd16) p.nh hc)) (F.ev 67 (Vi i)) (X.idx (k := i) Try.underlying23 (Try.siz53 _) (by omega) (by omega) rfl)) ?_;clear F ac;intro ac F
   refine Y.pv F (X.field rfl (F.ev 68 (.pointer (some (pd16.add (i * 6))))) (X.fld Try.underlying53 rfl (Try.siz3 _) rfl rfl)) ?_;clear F ac;intro ac F
   refine Y.pv F (X.load rfl (F.ev 69 (.pointer (some (⟨(pd16.add (i * 6)).block, (pd16.add (i * 6)).off + 1, none⟩)))) (X.ld1 (Try.agg3 _) (hC.at 5 rfl))) ?_;clear F ac;intro ac F
   refine Y.pv F (X.binop rfl (F.ev 64 (Vi (onS (fun j => p.tv j 1) xs i xs.length))) (F.ev 70 (Vi (p.hv i 1))) (X.gtrI Try.underlying3 rfl)) ?_;clear F ac;intro ac F
   refine Y.pv F (X.move rfl (F.ev 71 (.bool (decide ((p.hv i 1 : Int) < (onS (fun j => p.tv j 1) xs i xs.length)))))) ?_;clear F ac;intro ac F
   cases h17 : decide ((p.hv i 1 : Int) < (onS (fun j => p.tv j 1) xs i xs.length)) with
   | false =>
    try rw [h17] at F
    have h17p : ¬ ((p.hv i 1 : Int) < (onS (fun j => p.tv j 1) xs i xs.length)) := of_decide_eq_false h17
    refine Y.pval F (X.w1 rfl (F.yl (j := 8) (d := 72) (b := false) rfl (by kernel_rfl))) rfl (X.move rfl (F.ev 9 (Vi (onS (hund p hu) xs i xs.length)))) ?_;clear F ac;intro ac F
    refine Y.pval F (X.w1 rfl (F.yl (j := 8) (d := 72) (b := false) rfl (by kernel_rfl))) rfl (X.field rfl (F.ev 3 (Vp w.heap.size)) (X.fld Try.underlying27 rfl (Try.siz23 _) rfl rfl)) ?_;clear F ac;intro ac F
    refine Y.pval F (X.w1 rfl (F.yl (j := 8) (d := 72) (b := false) rfl (by kernel_rfl))) rfl (X.load rfl (F.ev 74 (.pointer (some ⟨w.heap.size, 1, none⟩))) (X.ld1 (Try.agg23 _) (hC.at 1 rfl))) ?_;clear F ac;intro ac F
    refine Y.pval F (X.w1 rfl (F.yl (j := 8) (d := 72) (b := false) rfl (by kernel_rfl))) rfl (X.move rfl (F.ev 7 (Vi i))) ?_;clear F ac;intro ac F
    refine Y.pval F (X.w1 rfl (F.yl (j := 8) (d := 72) (b := false) rfl (by kernel_rfl))) rfl (X.index rfl (F.ev 75 (.slice (some pd16) p.nh hc)) (F.ev 76 (Vi i)) (X.idx (k := i) Try.underlying23 (Try.siz53 _) (by omega) (by omega) rfl)) ?_;clear F ac;intro ac F
    refine Y.pval F (X.w1 rfl (F.yl (j := 8) (d := 72) (b := false) rfl (by kernel_rfl))) rfl (X.field rfl (F.ev 77 (.pointer (some (pd16.add (i * 6))))) (X.fld Try.underlying53 rfl (Try.siz3 _) rfl rfl)) ?_;clear F ac;intro ac F
    refine Y.pval F (X.w1 rfl (F.yl (j := 8) (d := 72) (b := false) rfl (by kernel_rfl))) rfl (X.load rfl (F.ev 78 (.pointer (some (⟨(pd16.add (i * 6)).block, (pd16.add (i * 6)).off + 2, none⟩)))) (X.ld1 (Try.agg3 _) (hC.at 6 rfl))) ?_;clear F ac;intro ac F
    refine Y.pval F (X.w1 rfl (F.yl (j := 8) (d := 72) (b := false) rfl (by kernel_rfl))) rfl (X.binop rfl (F.ev 73 (Vi (onS (hund p hu) xs i xs.length))) (F.ev 79 (Vi (p.hv i 2))) (X.gtrI Try.underlying3 rfl)) ?_;clear F ac;intro ac F
    refine Y.pv F (X.pickF rfl (F.ev 72 (.bool false)) (F.ev 80 (.bool (decide ((p.hv i 2 : Int) < (onS (hund p hu) xs i xs.length)))))) ?_;clear F ac;intro ac F
    refine Y.nil ?_
    replace F : Fr ac 98 [(1, .slice a xs.length c), (2, Vi hu), (3, Vp w.heap.size), (7, Vi i), (81, .bool (decide ((p.hv i 2 : Int) < (onS (hund p hu) xs i xs.length))))] := F.sub _
    refine X.thenN ?_
    cases h18 : decide ((p.hv i 2 : Int) < (onS (hund p hu) xs i xs.length)) with
    | false =>
     try rw [h18] at F
     have h18p : ¬ ((p.hv i 2 : Int) < (onS (hund p hu) xs i xs.length)) := of_decide_eq_false h18
     refine Y.condF (F.ev 81 (.bool false)) ?_
     refine Y.skip ?_
     refine X.blockN ?_
     refine X.thenN ?_
     refine Y.lit (by kernel_rfl) ?_
     refine Y.pv F (X.move rfl (F.ev 7 (Vi i))) ?_;clear F ac;intro ac F
     refine Y.pv F (X.binop rfl (F.ev 17 (Vi i)) (X.kc (Vi 1) rfl) (X.addI Try.underlying3 rfl (by omega) (by omega))) ?_;clear F ac;intro ac F
     refine Y.pv F (X.assign rfl (F.ev 18 (Vi ((i : Int) + 1)))) ?_;clear F ac;intro ac F
     refine Y.nil ?_
     replace F : Fr ac 98 [(1, .slice a xs.length c), (2, Vi hu), (3, Vp w.heap.size), (7, Vi ((i : Int) + 1))] := F.sub _
     refine X.thenN ?_
     refine ⟨_, ?_, i + 1, rfl, hO1, by omega, allN_succ hok (fitR_ok (by omega) (by omega) hlev), F.sub _⟩
     omega
    | true =>
     try rw [h18] at F
     have h18p : ((p.hv i 2 : Int) < (onS (hund p hu) xs i xs.length)) := of_decide_eq_true h18
     refine Y.condT (F.ev 81 (.bool true)) ?_
     refine Y.seq ?_
     refine Y.lit (by kernel_rfl) ?_
     refine Y.pv F (X.assign rfl (X.kc (.bool true) rfl)) ?_;clear F ac;intro ac F
     refine Y.nil ?_
     replace F : Fr ac 98 [(6, .bool true)] := F.sub _
     refine X.thenN ?_
     refine Y.ret ?_
     refine X.blockR ?_
     refine X.thenR ?_
     refine X.thenR ?_
     refine X.blockR ?_
     refine X.thenR ?_
     exact Y.ret0 (v := .bool true) F (Y.rs1 F rfl (by kernel_rfl)) ⟨by rw [hopR_fit hi (by omega)], G⟩
   | true =>
    try rw [h17] at F
    have h17p : ((p.hv i 1 : Int) < (onS (fun j => p.tv j 1) xs i xs.length)) := of_decide_eq_true h17
    refine Y.pskip F (X.w2 rfl (F.yl (j := 8) (d := 72) (b := true) rfl (by kernel_rfl)) rfl) rfl ?_;clear F ac;intro ac F
    refine Y.pskip F (X.w2 rfl (F.yl (j := 8) (d := 72) (b := true) rfl (by kernel_rfl)) rfl) rfl ?_;clear F ac;intro ac F
    refine Y.pskip F (X.w2 rfl (F.yl (j := 8) (d := 72) (b := true) rfl (by kernel_rfl)) rfl) rfl ?_;clear F ac;intro ac F
    refine Y.pskip F (X.w2 rfl (F.yl (j := 8) (d := 72) (b := true) rfl (by kernel_rfl)) rfl) rfl ?_;clear F ac;intro ac F
    refine Y.pskip F (X.w2 rfl (F.yl (j := 8) (d := 72) (b := true) rfl (by kernel_rfl)) rfl) rfl ?_;clear F ac;intro ac F
    refine Y.pskip F (X.w2 rfl (F.yl (j := 8) (d := 72) (b := true) rfl (by kernel_rfl)) rfl) rfl ?_;clear F ac;intro ac F
    refine Y.pskip F (X.w2 rfl (F.yl (j := 8) (d := 72) (b := true) rfl (by kernel_rfl)) rfl) rfl ?_;clear F ac;intro ac F
    refine Y.pskip F (X.w2 rfl (F.yl (j := 8) (d := 72) (b := true) rfl (by kernel_rfl)) rfl) rfl ?_;clear F ac;intro ac F
    refine Y.pv F (X.pickT rfl (F.ev 72 (.bool true)) (X.kc (.bool true) rfl)) ?_;clear F ac;intro ac F
    refine Y.nil ?_
    replace F : Fr ac 98 [(1, .slice a xs.length c), (2, Vi hu), (3, Vp w.heap.size), (7, Vi i), (81, .bool true)] := F.sub _
    refine X.thenN ?_
    refine Y.condT (F.ev 81 (.bool true)) ?_
    refine Y.seq ?_
    refine Y.lit (by kernel_rfl) ?_
    refine Y.pv F (X.assign rfl (X.kc (.bool true) rfl)) ?_;clear F ac;intro ac F
    refine Y.nil ?_
    replace F : Fr ac 98 [(6, .bool true)] := F.sub _
    refine X.thenN ?_
    refine Y.ret ?_
    refine X.blockR ?_
    refine X.thenR ?_
    refine X.thenR ?_
    refine X.blockR ?_
    refine X.thenR ?_
    exact Y.ret0 (v := .bool true) F (Y.rs1 F rfl (by kernel_rfl)) ⟨by rw [hopR_fit hi (by omega)], G⟩
  | true =>
   try rw [h15] at F
   have h15p : ((k : Int) < xs.length) := of_decide_eq_true h15
   have hk : k < xs.length := by omega
   have htm := hp.tm k (by omega)
   have hhb := hund_bd hp hhu (i := k) (by omega)
   have hpr := prod8 (hp.tt k (by omega)) hhu
   have hb1 := onS_bd (g := fun j => p.tv j 1) (xs := xs) (h := i) (c := 100000) (k := k) (fun j hj => hp.tm j (by omega))
   have hb2 := onS_bd (g := hund p hu) (xs := xs) (h := i) (c := 100002000) (k := k) (fun j hj => hund_bd hp hhu (by omega))
   have hhd : hund p hu k = (p.tv k 2 * hu + 99) / 100 := rfl
   refine Y.condT (F.ev 22 (.bool true)) ?_
   refine Y.skip ?_
   refine X.thenN ?_
   refine Y.seq ?_
   refine Y.block ?_
   refine Y.seq ?_
   refine Y.seq ?_
   refine Y.lit (by kernel_rfl) ?_
   refine Y.pv F (X.move rfl (F.ev 1 (.slice a xs.length c))) ?_;clear F ac;intro ac F
   refine Y.pv F (X.move rfl (F.ev 10 (Vi k))) ?_;clear F ac;intro ac F
   obtain ⟨pd19, pe19, -, pc19⟩ := hxs.at (j := k) (by omega)
   subst pe19
   replace hC : RCells w14 [(Ad w.heap.size 0, .slice ta p.nt tc), (Ad w.heap.size 1, .slice ha p.nh hc), (Ad w.heap.size 2, .slice ba p.nb bc), (Ad w.heap.size 3, .slice la p.nl lc), (pd19.add k, Vi (xs[k]?.getD 0))] := hC.append ((RCells.cons pc19 (RCells.nil _)))
   clear pc19
   refine Y.pval F (X.w0 rfl) rfl (X.index rfl (F.ev 25 (.slice (some pd19) xs.length c)) (F.ev 26 (Vi k)) (X.idx (k := k) Try.underlying34 (Try.siz3 _) (by omega) (by omega) (by rw [Nat.mul_one]))) ?_;clear F ac;intro ac F
   refine Y.pv F (X.load rfl (F.ev 27 (.pointer (some (pd19.add k)))) (X.ld1 (Try.agg3 _) (hC.at 4 rfl))) ?_;clear F ac;intro ac F
   refine Y.pv F (X.move rfl (F.ev 7 (Vi i))) ?_;clear F ac;intro ac F
   refine Y.pv F (X.binop rfl (F.ev 28 (Vi (xs[k]?.getD 0))) (F.ev 29 (Vi i)) (X.neqI Try.underlying3 rfl)) ?_;clear F ac;intro ac F
   refine Y.nil ?_
   replace F : Fr ac 98 [(1, .slice (some pd19) xs.length c), (2, Vi hu), (3, Vp w.heap.size), (7, Vi i), (8, Vi (onS (fun j => p.tv j 1) xs i k)), (9, Vi (onS (hund p hu) xs i k)), (10, Vi k), (30, .bool ((xs[k]?.getD 0 : Int) != i))] := F.sub _
   refine X.thenN ?_
   cases h20 : ((xs[k]?.getD 0 : Int) != i) with
   | false =>
    try rw [h20] at F
    have h20p : (xs[k]?.getD 0 : Int) = i := by simpa using h20
    refine Y.condF (F.ev 30 (.bool false)) ?_
    refine Y.skip ?_
    refine X.thenN ?_
    refine Y.seq ?_
    refine Y.lit (by kernel_rfl) ?_
    refine Y.pv F (X.move rfl (F.ev 8 (Vi (onS (fun j => p.tv j 1) xs i k)))) ?_;clear F ac;intro ac F
    refine Y.pv F (X.field rfl (F.ev 3 (Vp w.heap.size)) (X.fld Try.underlying27 rfl (Try.siz22 _) rfl rfl)) ?_;clear F ac;intro ac F
    refine Y.pv F (X.load rfl (F.ev 32 (Vp w.heap.size)) (X.ld1 (Try.agg22 _) (hC.at 0 rfl))) ?_;clear F ac;intro ac F
    refine Y.pv F (X.move rfl (F.ev 10 (Vi k))) ?_;clear F ac;intro ac F
    obtain ⟨pd21, pe21, -, pc21⟩ := hpt.at (j := k) (by omega)
    subst pe21
    replace hC : RCells w14 [(Ad w.heap.size 0, .slice (some pd21) p.nt tc), (Ad w.heap.size 1, .slice ha p.nh hc), (Ad w.heap.size 2, .slice ba p.nb bc), (Ad w.heap.size 3, .slice la p.nl lc), (pd19.add k, Vi (xs[k]?.getD 0)), (pd21.add (k * 4), .string (p.tn k)), (⟨(pd21.add (k * 4)).block, (pd21.add (k * 4)).off + 1, none⟩, Vi (p.tv k 1)), (⟨(pd21.add (k * 4)).block, (pd21.add (k * 4)).off + 2, none⟩, Vi (p.tv k 2)), (⟨(pd21.add (k * 4)).block, (pd21.add (k * 4)).off + 3, none⟩, Vi (p.tv k 3))] := hC.append ((RCells.cons (pc21 0 (by decide)) (RCells.cons (pc21 1 (by decide)) (RCells.cons (pc21 2 (by decide)) (RCells.cons (pc21 3 (by decide)) (RCells.nil _))))))
    clear pc21
    refine Y.pv F (X.index rfl (F.ev 33 (.slice (some pd21) p.nt tc)) (F.ev 34 (Vi k)) (X.idx (k := k) Try.underlying22 (Try.siz74 _) (by omega) (by omega) rfl)) ?_;clear F ac;intro ac F
    refine Y.pv F (X.field rfl (F.ev 35 (.pointer (some (pd21.add (k * 4))))) (X.fld Try.underlying74 rfl (Try.siz3 _) rfl rfl)) ?_;clear F ac;intro ac F
    refine Y.pv F (X.load rfl (F.ev 36 (.pointer (some (⟨(pd21.add (k * 4)).block, (pd21.add (k * 4)).off + 1, none⟩)))) (X.ld1 (Try.agg3 _) (hC.at 6 rfl))) ?_;clear F ac;intro ac F
    refine Y.pv F (X.binop rfl (F.ev 31 (Vi (onS (fun j => p.tv j 1) xs i k))) (F.ev 37 (Vi (p.tv k 1))) (X.addI Try.underlying3 rfl (by omega) (by omega))) ?_;clear F ac;intro ac F
    refine Y.pv F (X.assign rfl (F.ev 38 (Vi ((onS (fun j => p.tv j 1) xs i k : Int) + (p.tv k 1))))) ?_;clear F ac;intro ac F
    refine Y.nil ?_
    replace F : Fr ac 98 [(1, .slice (some pd19) xs.length c), (2, Vi hu), (3, Vp w.heap.size), (7, Vi i), (8, Vi ((onS (fun j => p.tv j 1) xs i k : Int) + (p.tv k 1))), (9, Vi (onS (hund p hu) xs i k)), (10, Vi k)] := F.sub _
    refine X.thenN ?_
    refine Y.seq ?_
    refine Y.lit (by kernel_rfl) ?_
    refine Y.pv F (X.move rfl (F.ev 9 (Vi (onS (hund p hu) xs i k)))) ?_;clear F ac;intro ac F
    refine Y.pv F (X.field rfl (F.ev 3 (Vp w.heap.size)) (X.fld Try.underlying27 rfl (Try.siz22 _) rfl rfl)) ?_;clear F ac;intro ac F
    refine Y.pv F (X.load rfl (F.ev 40 (Vp w.heap.size)) (X.ld1 (Try.agg22 _) (hC.at 0 rfl))) ?_;clear F ac;intro ac F
    refine Y.pv F (X.move rfl (F.ev 10 (Vi k))) ?_;clear F ac;intro ac F
    refine Y.pv F (X.index rfl (F.ev 41 (.slice (some pd21) p.nt tc)) (F.ev 42 (Vi k)) (X.idx (k := k) Try.underlying22 (Try.siz74 _) (by omega) (by omega) rfl)) ?_;clear F ac;intro ac F
    refine Y.pv F (X.field rfl (F.ev 43 (.pointer (some (pd21.add (k * 4))))) (X.fld Try.underlying74 rfl (Try.siz3 _) rfl rfl)) ?_;clear F ac;intro ac F
    refine Y.pv F (X.load rfl (F.ev 44 (.pointer (some (⟨(pd21.add (k * 4)).block, (pd21.add (k * 4)).off + 2, none⟩)))) (X.ld1 (Try.agg3 _) (hC.at 7 rfl))) ?_;clear F ac;intro ac F
    refine Y.pv F (X.move rfl (F.ev 2 (Vi hu))) ?_;clear F ac;intro ac F
    refine Y.pv F (X.binop rfl (F.ev 45 (Vi (p.tv k 2))) (F.ev 46 (Vi hu)) (X.mulI Try.underlying3 rfl (by omega) (by omega))) ?_;clear F ac;intro ac F
    refine Y.pv F (X.binop rfl (F.ev 47 (Vi ((p.tv k 2 : Int) * hu))) (X.kc (Vi 99) rfl) (X.addI Try.underlying3 rfl (by omega) (by omega))) ?_;clear F ac;intro ac F
    refine Y.pv F (X.binop rfl (F.ev 48 (Vi (((p.tv k 2 : Int) * hu : Int) + 99))) (X.kc (Vi 100) rfl) (X.quoI Try.underlying3 rfl (by omega) (by omega))) ?_;clear F ac;intro ac F
    refine Y.pv F (X.binop rfl (F.ev 39 (Vi (onS (hund p hu) xs i k))) (F.ev 49 (Vi ((((p.tv k 2 : Int) * hu : Int) + 99 : Int) / 100))) (X.addI Try.underlying3 rfl (by omega) (by omega))) ?_;clear F ac;intro ac F
    refine Y.pv F (X.assign rfl (F.ev 50 (Vi ((onS (hund p hu) xs i k : Int) + ((((p.tv k 2 : Int) * hu : Int) + 99 : Int) / 100))))) ?_;clear F ac;intro ac F
    refine Y.nil ?_
    replace F : Fr ac 98 [(1, .slice (some pd19) xs.length c), (2, Vi hu), (3, Vp w.heap.size), (7, Vi i), (8, Vi ((onS (fun j => p.tv j 1) xs i k : Int) + (p.tv k 1))), (9, Vi ((onS (hund p hu) xs i k : Int) + ((((p.tv k 2 : Int) * hu : Int) + 99 : Int) / 100))), (10, Vi k)] := F.sub _
    refine X.thenN ?_
    refine Y.seq ?_
    obtain ⟨pd22, pe22, -, pc22⟩ := hph.at (j := i) (by omega)
    subst pe22
    replace hC : RCells w14 [(Ad w.heap.size 0, .slice (some pd21) p.nt tc), (Ad w.heap.size 1, .slice (some pd22) p.nh hc), (Ad w.heap.size 2, .slice ba p.nb bc), (Ad w.heap.size 3, .slice la p.nl lc), (pd19.add k, Vi (xs[k]?.getD 0)), (pd21.add (k * 4), .string (p.tn k)), (⟨(pd21.add (k * 4)).block, (pd21.add (k * 4)).off + 1, none⟩, Vi (p.tv k 1)), (⟨(pd21.add (k * 4)).block, (pd21.add (k * 4)).off + 2, none⟩, Vi (p.tv k 2)), (⟨(pd21.add (k * 4)).block, (pd21.add (k * 4)).off + 3, none⟩, Vi (p.tv k 3)), (pd22.add (i * 6), .string (p.hn i)), (⟨(pd22.add (i * 6)).block, (pd22.add (i * 6)).off + 1, none⟩, Vi (p.hv i 1)), (⟨(pd22.add (i * 6)).block, (pd22.add (i * 6)).off + 2, none⟩, Vi (p.hv i 2)), (⟨(pd22.add (i * 6)).block, (pd22.add (i * 6)).off + 3, none⟩, Vi (p.hv i 3)), (⟨(pd22.add (i * 6)).block, (pd22.add (i * 6)).off + 4, none⟩, Vi (p.hv i 4)), (⟨(pd22.add (i * 6)).block, (pd22.add (i * 6)).off + 5, none⟩, Vi (p.hv i 5))] := hC.append ((RCells.cons (pc22 0 (by decide)) (RCells.cons (pc22 1 (by decide)) (RCells.cons (pc22 2 (by decide)) (RCells.cons (pc22 3 (by decide)) (RCells.cons (pc22 4 (by decide)) (RCells.cons (pc22 5 (by decide)) (RCells.nil _))))))))
    clear pc22
    refine Y.region F [some (Vp w.heap.size), some (.slice (some pd21) p.nt tc), some (Vi k), some (.pointer (some (pd21.add (k * 4)))), some (.pointer (some (⟨(pd21.add (k * 4)).block, (pd21.add (k * 4)).off + 3, none⟩))), some (Vi (p.tv k 3)), some (.pointer (some ⟨w.heap.size, 1, none⟩)), some (.slice (some pd22) p.nh hc), some (Vi i), some (.pointer (some (pd22.add (i * 6)))), some (.pointer (some (⟨(pd22.add (i * 6)).block, (pd22.add (i * 6)).off + 3, none⟩))), some (Vi (p.hv i 3)), some (.bool (decide ((p.hv i 3 : Int) < (p.tv k 3))))] [] rfl ⟨by kernel_rfl, of_decide_eq_true (by kernel_rfl), by kernel_rfl, by kernel_rfl, by kernel_rfl⟩ ⟨?_, ?_, ?_, ?_, ?_, ?_, ?_, ?_, ?_, ?_, ?_, ?_, ?_, trivial⟩ ?_
    ·intro ac done u W Sx hR
     exact X.vl (X.field rfl (Sx.ev 3 (Vp w.heap.size)) (X.fld Try.underlying27 rfl (Try.siz22 _) rfl rfl)) hR.st0
    ·intro ac done u W Sx hR
     have g : Gr w14 W := hR.1
     exact X.vl (X.load rfl (Sx.ev 51 (Vp w.heap.size)) (X.ld1 (Try.agg22 _) ((hC.gr g).at 0 rfl))) hR.st0
    ·intro ac done u W Sx hR
     exact X.vl (X.move rfl (Sx.ev 10 (Vi k))) hR.st0
    ·intro ac done u W Sx hR
     exact X.vl (X.index rfl (Sx.ev 52 (.slice (some pd21) p.nt tc)) (Sx.ev 53 (Vi k)) (X.idx (k := k) Try.underlying22 (Try.siz74 _) (by omega) (by omega) rfl)) hR.st0
    ·intro ac done u W Sx hR
     exact X.vl (X.field rfl (Sx.ev 54 (.pointer (some (pd21.add (k * 4))))) (X.fld Try.underlying74 rfl (Try.siz3 _) rfl rfl)) hR.st0
    ·intro ac done u W Sx hR
     have g : Gr w14 W := hR.1
     exact X.vl (X.load rfl (Sx.ev 55 (.pointer (some (⟨(pd21.add (k * 4)).block, (pd21.add (k * 4)).off + 3, none⟩)))) (X.ld1 (Try.agg3 _) ((hC.gr g).at 8 rfl))) hR.st0
    ·intro ac done u W Sx hR
     exact X.vl (X.field rfl (Sx.ev 3 (Vp w.heap.size)) (X.fld Try.underlying27 rfl (Try.siz23 _) rfl rfl)) hR.st0
    ·intro ac done u W Sx hR
     have g : Gr w14 W := hR.1
     exact X.vl (X.load rfl (Sx.ev 57 (.pointer (some ⟨w.heap.size, 1, none⟩))) (X.ld1 (Try.agg23 _) ((hC.gr g).at 1 rfl))) hR.st0
    ·intro ac done u W Sx hR
     exact X.vl (X.move rfl (Sx.ev 7 (Vi i))) hR.st0
    ·intro ac done u W Sx hR
     exact X.vl (X.index rfl (Sx.ev 58 (.slice (some pd22) p.nh hc)) (Sx.ev 59 (Vi i)) (X.idx (k := i) Try.underlying23 (Try.siz53 _) (by omega) (by omega) rfl)) hR.st0
    ·intro ac done u W Sx hR
     exact X.vl (X.field rfl (Sx.ev 60 (.pointer (some (pd22.add (i * 6))))) (X.fld Try.underlying53 rfl (Try.siz3 _) rfl rfl)) hR.st0
    ·intro ac done u W Sx hR
     have g : Gr w14 W := hR.1
     exact X.vl (X.load rfl (Sx.ev 61 (.pointer (some (⟨(pd22.add (i * 6)).block, (pd22.add (i * 6)).off + 3, none⟩)))) (X.ld1 (Try.agg3 _) ((hC.gr g).at 12 rfl))) hR.st0
    ·intro ac done u W Sx hR
     exact X.vl (X.binop rfl (Sx.ev 56 (Vi (p.tv k 3))) (Sx.ev 62 (Vi (p.hv i 3))) (X.gtrI Try.underlying3 rfl)) hR.st0
    intro ac u w23 hs hd hl ho hR
    have g : Gr w14 w23 := hR.1
    replace F : Fr ac 98 [(1, .slice (some pd19) xs.length c), (2, Vi hu), (3, Vp w.heap.size), (7, Vi i), (8, Vi ((onS (fun j => p.tv j 1) xs i k : Int) + (p.tv k 1))), (9, Vi ((onS (hund p hu) xs i k : Int) + ((((p.tv k 2 : Int) * hu : Int) + 99 : Int) / 100))), (10, Vi k), (63, .bool (decide ((p.hv i 3 : Int) < (p.tv k 3))))] := X.fr hs hd hl _ (by kernel_rfl)
    clear hs hd hl ho hR
    replace G := G.trans g
    replace hC := hC.gr g
    replace hO1 := hO1.thenGr g
    replace hO2 := hO2.thenGr g
    replace hpt := hpt.gr g
    replace hph := hph.gr g
    replace hpb := hpb.gr g
    replace hpl := hpl.gr g
    replace hxs := hxs.gr g
    clear g
    refine X.thenN ?_
    cases h24 : decide ((p.hv i 3 : Int) < (p.tv k 3)) with
    | false =>
     try rw [h24] at F
     have h24p : ¬ ((p.hv i 3 : Int) < (p.tv k 3)) := of_decide_eq_false h24
     refine Y.condF (F.ev 63 (.bool false)) ?_
     refine Y.skip ?_
     refine X.blockN ?_
     refine X.thenN ?_
     refine Y.lit (by kernel_rfl) ?_
     refine Y.pv F (X.move rfl (F.ev 10 (Vi k))) ?_;clear F ac;intro ac F
     refine Y.pv F (X.binop rfl (F.ev 23 (Vi k)) (X.kc (Vi 1) rfl) (X.addI Try.underlying3 rfl (by omega) (by omega))) ?_;clear F ac;intro ac F
     refine Y.pv F (X.assign rfl (F.ev 24 (Vi ((k : Int) + 1)))) ?_;clear F ac;intro ac F
     refine Y.nil ?_
     replace F : Fr ac 98 [(1, .slice (some pd19) xs.length c), (2, Vi hu), (3, Vp w.heap.size), (7, Vi i), (8, Vi ((onS (fun j => p.tv j 1) xs i k : Int) + (p.tv k 1))), (9, Vi ((onS (hund p hu) xs i k : Int) + ((((p.tv k 2 : Int) * hu : Int) + 99 : Int) / 100))), (10, Vi ((k : Int) + 1))] := F.sub _
     refine X.thenN ?_
     refine ⟨_, ?_, k + 1, rfl, hO2, by omega, allN_succ hlev (levR_ok (by omega)), (by rw [show onS (hund p hu) xs i (k + 1) = (onS (hund p hu) xs i k : Int) + ((((p.tv k 2 : Int) * hu : Int) + 99 : Int) / 100) from onS_eq (by omega), show onS (fun j => p.tv j 1) xs i (k + 1) = (onS (fun j => p.tv j 1) xs i k : Int) + (p.tv k 1) from onS_eq (by omega)]; exact F.sub _)⟩
     omega
    | true =>
     try rw [h24] at F
     have h24p : ((p.hv i 3 : Int) < (p.tv k 3)) := of_decide_eq_true h24
     refine Y.condT (F.ev 63 (.bool true)) ?_
     refine Y.seq ?_
     refine Y.lit (by kernel_rfl) ?_
     refine Y.pv F (X.assign rfl (X.kc (.bool true) rfl)) ?_;clear F ac;intro ac F
     refine Y.nil ?_
     replace F : Fr ac 98 [(6, .bool true)] := F.sub _
     refine X.thenN ?_
     refine Y.ret ?_
     refine X.blockR ?_
     refine X.thenR ?_
     refine X.thenR ?_
     refine X.blockR ?_
     refine X.thenR ?_
     refine X.blockR ?_
     refine X.thenR ?_
     refine X.thenR ?_
     refine X.blockR ?_
     refine X.thenR ?_
     exact Y.ret0 (v := .bool true) F (Y.rs1 F rfl (by kernel_rfl)) ⟨by rw [hopR_lev hk (by omega) (by omega)], G⟩
   | true =>
    try rw [h20] at F
    have h20p : ¬ (xs[k]?.getD 0 : Int) = i := by simpa using h20
    refine Y.condT (F.ev 30 (.bool true)) ?_
    refine Y.exit ?_
    refine X.thenX ?_
    refine X.blockX ?_
    refine X.thenN ?_
    refine Y.lit (by kernel_rfl) ?_
    refine Y.pv F (X.move rfl (F.ev 10 (Vi k))) ?_;clear F ac;intro ac F
    refine Y.pv F (X.binop rfl (F.ev 23 (Vi k)) (X.kc (Vi 1) rfl) (X.addI Try.underlying3 rfl (by omega) (by omega))) ?_;clear F ac;intro ac F
    refine Y.pv F (X.assign rfl (F.ev 24 (Vi ((k : Int) + 1)))) ?_;clear F ac;intro ac F
    refine Y.nil ?_
    replace F : Fr ac 98 [(1, .slice (some pd19) xs.length c), (2, Vi hu), (3, Vp w.heap.size), (7, Vi i), (8, Vi (onS (fun j => p.tv j 1) xs i k)), (9, Vi (onS (hund p hu) xs i k)), (10, Vi ((k : Int) + 1))] := F.sub _
    refine X.thenN ?_
    refine ⟨_, ?_, k + 1, rfl, hO2, by omega, allN_succ hlev (levR_ok (by omega)), (by rw [show onS (hund p hu) xs i (k + 1) = onS (hund p hu) xs i k from onS_ne (by omega), show onS (fun j => p.tv j 1) xs i (k + 1) = onS (fun j => p.tv j 1) xs i k from onS_ne (by omega)]; exact F.sub _)⟩
    omega
set_option maxRecDepth 100000 in
set_option maxHeartbeats 4000000 in
theorem bnd2_any (p : Pb) (ta ha ba la : Option Addr) (tc hc bc lc : Nat) (a : Option Addr) (c : Nat) (xs : List Int) (w : World) (hP : PbAt w p ta ha ba la tc hc bc lc) (hX : Ints w a xs.length xs) (hp : PbOk p) (hx : HosOk p xs) (hn : xs.length ≤ p.nt) :
  Calls Try.prog 77 #[.agg #[.slice ta p.nt tc, .slice ha p.nh hc, .slice ba p.nb bc, .slice la p.nl lc], .slice a xs.length c] w fun e w' => e = .returned (Vi (bndV p xs)) ∧ Gr w w' := by
 have G := Gr.refl w
 have hpt := hP.t
 have hph := hP.h
 have hpb := hP.b
 have hpl := hP.l
 have hplen := hP.len
 obtain ⟨hn1, hn2, hn3, hn4⟩ := hplen
 have hcp1 := hpt.cap
 have hcp2 := hph.cap
 have hcp3 := hpb.cap
 have hcp4 := hpl.cap
 have hxs := hX
 have hlt := hxs.lt
 have h6 := hp.h6
 have h10 := hp.t10
 refine Y.calls 109 Try.func77 rfl rfl ?_
 intro ac F0
 have F : Fr ac 109 [(0, .agg #[.slice ta p.nt tc, .slice ha p.nh hc, .slice ba p.nb bc, .slice la p.nl lc]), (1, .slice a xs.length c)] := F0.sub _
 clear F0
 refine Y.seq ?_
 refine Y.lit (by kernel_rfl) ?_
 have hgs3 : w.heap.size ≤ w.heap.size := G.size
 refine Y.pv F (X.box rfl (F.ev 0 (.agg #[.slice ta p.nt tc, .slice ha p.nh hc, .slice ba p.nb bc, .slice la p.nl lc])) X.bx) ?_;clear F ac;intro ac F
 have hgs5 : w.heap.size ≤ w.heap.size := G.size
 have g := Gr.alloc w (.cells #[.slice ta p.nt tc, .slice ha p.nh hc, .slice ba p.nb bc, .slice la p.nl lc] 27)
 have hb := heap_alloc_new w (.cells #[.slice ta p.nt tc, .slice ha p.nh hc, .slice ba p.nb bc, .slice la p.nl lc] 27)
 have hbl : w.heap.size < (w.alloc (.cells #[.slice ta p.nt tc, .slice ha p.nh hc, .slice ba p.nb bc, .slice la p.nl lc] 27)).heap.size := by simp
 have hC2 : RCells (w.alloc (.cells #[.slice ta p.nt tc, .slice ha p.nh hc, .slice ba p.nb bc, .slice la p.nl lc] 27)) [(Ad w.heap.size 0, .slice ta p.nt tc), (Ad w.heap.size 1, .slice ha p.nh hc), (Ad w.heap.size 2, .slice ba p.nb bc), (Ad w.heap.size 3, .slice la p.nl lc)] := (RCells.nil w).box (b := w.heap.size) #[.slice ta p.nt tc, .slice ha p.nh hc, .slice ba p.nb bc, .slice la p.nl lc] 27 rfl
 generalize w.alloc (.cells #[.slice ta p.nt tc, .slice ha p.nh hc, .slice ba p.nb bc, .slice la p.nl lc] 27) = w6 at *
 replace G := G.trans g
 have hC := hC2
 clear hC2
 replace hpt := hpt.gr g
 replace hph := hph.gr g
 replace hpb := hpb.gr g
 replace hpl := hpl.gr g
 replace hxs := hxs.gr g
 have hsz4 := hbl
 clear g hb hbl
 refine Y.pv F (X.assign rfl (X.kc (Vi 0) rfl)) ?_;clear F ac;intro ac F
 refine Y.nil ?_
 replace F : Fr ac 109 [(1, .slice a xs.length c), (2, Vp w.heap.size)] := F.sub _
 refine X.thenN ?_
 refine Y.seq ?_
 refine Y.lit (by kernel_rfl) ?_
 refine Y.pv F (X.assign rfl (X.kc (Vi 0) rfl)) ?_;clear F ac;intro ac F
 refine Y.nil ?_
 replace F : Fr ac 109 [(1, .slice a xs.length c), (2, Vp w.heap.size), (5, Vi 0)] := F.sub _
 refine X.thenN ?_
 refine Y.seq ?_
 refine Y.seq ?_
 refine Y.lit (by kernel_rfl) ?_
 refine Y.pv F (X.assign rfl (X.kc (Vi 0) rfl)) ?_;clear F ac;intro ac F
 refine Y.nil ?_
 replace F : Fr ac 109 [(1, .slice a xs.length c), (2, Vp w.heap.size), (5, Vi 0), (6, Vi 0)] := F.sub _
 refine X.thenN ?_
 refine Y.block ?_
 refine Y.loop (fun me_ ac wr => ∃ (i : Nat), me_ = p.nh - i ∧ Only (fun b => False) w6 wr ∧ i ≤ p.nh ∧ Fr ac 109 [(1, .slice a xs.length c), (2, Vp w.heap.size), (5, Vi (sumZ (priceI p xs) i)), (6, Vi i)]) _ ⟨0, rfl, Only.refl _ _, Nat.zero_le _, F.sub _⟩ ?_
 have hptB1 := hpt
 have hphB1 := hph
 have hpbB1 := hpb
 have hplB1 := hpl
 have hxsB1 := hxs
 have GB1 := G
 have hCB1 := hC
 clear F ac
 intro me_ ac w7 hI
 obtain ⟨i, rfl, hO1, hi0, F⟩ := hI
 replace G := GB1.trans (hO1.gr (fun _ _ h => h))
 replace hpt := (hP.t).gr G
 replace hph := (hP.h).gr G
 replace hpb := (hP.b).gr G
 replace hpl := (hP.l).gr G
 replace hxs := (hX).gr G
 replace hC := (RCells.cons (hO1.cell (hCB1.at 0 rfl) (fun h => h)) (RCells.cons (hO1.cell (hCB1.at 1 rfl) (fun h => h)) (RCells.cons (hO1.cell (hCB1.at 2 rfl) (fun h => h)) (RCells.cons (hO1.cell (hCB1.at 3 rfl) (fun h => h)) (RCells.nil _)))))
 refine Y.seq ?_
 refine Y.seq ?_
 refine Y.lit (by kernel_rfl) ?_
 refine Y.pv F (X.move rfl (F.ev 6 (Vi i))) ?_;clear F ac;intro ac F
 refine Y.pv F (X.field rfl (F.ev 2 (Vp w.heap.size)) (X.fld Try.underlying27 rfl (Try.siz23 _) rfl rfl)) ?_;clear F ac;intro ac F
 refine Y.pv F (X.load rfl (F.ev 12 (.pointer (some ⟨w.heap.size, 1, none⟩))) (X.ld1 (Try.agg23 _) (hC.at 1 rfl))) ?_;clear F ac;intro ac F
 refine Y.pv F (X.len1 Try.underlying23 rfl (F.ev 13 (.slice ha p.nh hc))) ?_;clear F ac;intro ac F
 refine Y.pv F (X.binop rfl (F.ev 11 (Vi i)) (F.ev 14 (Vi p.nh)) (X.lssI Try.underlying3 rfl)) ?_;clear F ac;intro ac F
 refine Y.nil ?_
 replace F : Fr ac 109 [(1, .slice a xs.length c), (2, Vp w.heap.size), (5, Vi (sumZ (priceI p xs) i)), (6, Vi i), (15, .bool (decide ((i : Int) < p.nh)))] := F.sub _
 refine X.thenN ?_
 cases h8 : decide ((i : Int) < p.nh) with
 | false =>
  try rw [h8] at F
  have h8p : ¬ ((i : Int) < p.nh) := of_decide_eq_false h8
  obtain rfl : i = p.nh := by omega
  refine Y.condF (F.ev 15 (.bool false)) ?_
  refine Y.exit ?_
  refine X.thenX ?_
  refine X.thenX ?_
  refine X.blockX ?_
  refine X.thenN ?_
  refine Y.seq ?_
  refine Y.seq ?_
  refine Y.lit (by kernel_rfl) ?_
  refine Y.pv F (X.assign rfl (X.kc (Vi 0) rfl)) ?_;clear F ac;intro ac F
  refine Y.nil ?_
  replace F : Fr ac 109 [(1, .slice a xs.length c), (2, Vp w.heap.size), (5, Vi (sumZ (priceI p xs) p.nh)), (9, Vi 0)] := F.sub _
  refine X.thenN ?_
  refine Y.block ?_
  refine Y.loop (fun me_ ac wr => ∃ (j : Nat), me_ = p.nl - j ∧ Only (fun b => False) w7 wr ∧ j ≤ p.nl ∧ Fr ac 109 [(1, .slice a xs.length c), (2, Vp w.heap.size), (5, Vi ((sumZ (priceI p xs) p.nh : Int) + sumZ (talkI p xs) j)), (9, Vi j)]) _ ⟨0, rfl, Only.refl _ _, Nat.zero_le _, (by rw [show sumZ (priceI p xs) p.nh + sumZ (talkI p xs) 0 = sumZ (priceI p xs) p.nh from Int.add_zero _]; exact F.sub _)⟩ ?_
  have hptB1 := hpt
  have hphB1 := hph
  have hpbB1 := hpb
  have hplB1 := hpl
  have hxsB1 := hxs
  have GB1 := G
  have hCB1 := hC
  clear F ac
  intro me_ ac w9 hI
  obtain ⟨j, rfl, hO1, hj0, F⟩ := hI
  replace G := GB1.trans (hO1.gr (fun _ _ h => h))
  replace hpt := (hP.t).gr G
  replace hph := (hP.h).gr G
  replace hpb := (hP.b).gr G
  replace hpl := (hP.l).gr G
  replace hxs := (hX).gr G
  replace hC := (RCells.cons (hO1.cell (hCB1.at 0 rfl) (fun h => h)) (RCells.cons (hO1.cell (hCB1.at 1 rfl) (fun h => h)) (RCells.cons (hO1.cell (hCB1.at 2 rfl) (fun h => h)) (RCells.cons (hO1.cell (hCB1.at 3 rfl) (fun h => h)) (RCells.nil _)))))
  refine Y.seq ?_
  refine Y.seq ?_
  refine Y.lit (by kernel_rfl) ?_
  refine Y.pv F (X.move rfl (F.ev 9 (Vi j))) ?_;clear F ac;intro ac F
  refine Y.pv F (X.field rfl (F.ev 2 (Vp w.heap.size)) (X.fld Try.underlying27 rfl (Try.siz25 _) rfl rfl)) ?_;clear F ac;intro ac F
  refine Y.pv F (X.load rfl (F.ev 43 (.pointer (some ⟨w.heap.size, 3, none⟩))) (X.ld1 (Try.agg25 _) (hC.at 3 rfl))) ?_;clear F ac;intro ac F
  refine Y.pv F (X.len1 Try.underlying25 rfl (F.ev 44 (.slice la p.nl lc))) ?_;clear F ac;intro ac F
  refine Y.pv F (X.binop rfl (F.ev 42 (Vi j)) (F.ev 45 (Vi p.nl)) (X.lssI Try.underlying3 rfl)) ?_;clear F ac;intro ac F
  refine Y.nil ?_
  replace F : Fr ac 109 [(1, .slice a xs.length c), (2, Vp w.heap.size), (5, Vi ((sumZ (priceI p xs) p.nh : Int) + sumZ (talkI p xs) j)), (9, Vi j), (46, .bool (decide ((j : Int) < p.nl)))] := F.sub _
  refine X.thenN ?_
  cases h10 : decide ((j : Int) < p.nl) with
  | false =>
   try rw [h10] at F
   have h10p : ¬ ((j : Int) < p.nl) := of_decide_eq_false h10
   obtain rfl : j = p.nl := by omega
   refine Y.condF (F.ev 46 (.bool false)) ?_
   refine Y.exit ?_
   refine X.thenX ?_
   refine X.thenX ?_
   refine X.blockX ?_
   refine X.thenN ?_
   refine Y.seq ?_
   refine Y.lit (by kernel_rfl) ?_
   refine Y.pv F (X.move rfl (F.ev 5 (Vi ((sumZ (priceI p xs) p.nh : Int) + sumZ (talkI p xs) p.nl)))) ?_;clear F ac;intro ac F
   refine Y.pv F (X.assign rfl (F.ev 108 (Vi ((sumZ (priceI p xs) p.nh : Int) + sumZ (talkI p xs) p.nl)))) ?_;clear F ac;intro ac F
   refine Y.nil ?_
   replace F : Fr ac 109 [(4, Vi ((sumZ (priceI p xs) p.nh : Int) + sumZ (talkI p xs) p.nl))] := F.sub _
   refine X.thenN ?_
   refine Y.ret ?_
   exact Y.ret0 (v := Vi ((sumZ (priceI p xs) p.nh : Int) + sumZ (talkI p xs) p.nl)) F (Y.rs1 F rfl (by kernel_rfl)) ⟨rfl, G⟩
  | true =>
   try rw [h10] at F
   have h10p : ((j : Int) < p.nl) := of_decide_eq_true h10
   have hj : j < p.nl := by omega
   have hsp := priceI_bd hp (xs := xs) (Nat.le_refl _)
   have hst := talkI_bd hp (xs := xs) hj0
   have hla := hp.la j hj
   have hlb := hp.lb j hj
   have hlw := hp.lw j hj
   refine Y.condT (F.ev 46 (.bool true)) ?_
   refine Y.skip ?_
   refine X.thenN ?_
   refine Y.seq ?_
   refine Y.block ?_
   refine Y.seq ?_
   refine Y.lit (by kernel_rfl) ?_
   refine Y.pv F (X.field rfl (F.ev 2 (Vp w.heap.size)) (X.fld Try.underlying27 rfl (Try.siz25 _) rfl rfl)) ?_;clear F ac;intro ac F
   refine Y.pv F (X.load rfl (F.ev 49 (.pointer (some ⟨w.heap.size, 3, none⟩))) (X.ld1 (Try.agg25 _) (hC.at 3 rfl))) ?_;clear F ac;intro ac F
   refine Y.pv F (X.move rfl (F.ev 9 (Vi j))) ?_;clear F ac;intro ac F
   obtain ⟨pd11, pe11, -, pc11⟩ := hpl.at (j := j) (by omega)
   subst pe11
   replace hC : RCells w9 [(Ad w.heap.size 0, .slice ta p.nt tc), (Ad w.heap.size 1, .slice ha p.nh hc), (Ad w.heap.size 2, .slice ba p.nb bc), (Ad w.heap.size 3, .slice (some pd11) p.nl lc), (pd11.add (j * 3), Vi (p.lv j 0)), (⟨(pd11.add (j * 3)).block, (pd11.add (j * 3)).off + 1, none⟩, Vi (p.lv j 1)), (⟨(pd11.add (j * 3)).block, (pd11.add (j * 3)).off + 2, none⟩, Vi (p.lv j 2))] := hC.append ((RCells.cons (pc11 0 (by decide)) (RCells.cons (pc11 1 (by decide)) (RCells.cons (pc11 2 (by decide)) (RCells.nil _)))))
   clear pc11
   refine Y.pv F (X.index rfl (F.ev 50 (.slice (some pd11) p.nl lc)) (F.ev 51 (Vi j)) (X.idx (k := j) Try.underlying25 (Try.siz84 _) (by omega) (by omega) rfl)) ?_;clear F ac;intro ac F
   refine Y.pv F (X.load rfl (F.ev 52 (.pointer (some (pd11.add (j * 3))))) (X.ldN (Try.agg84 _) (Try.siz84 _) (Y.atz (pd11.add (j * 3)) (Y.AtFrom.cons (hC.at 4 rfl) (Y.AtFrom.cons (hC.at 5 rfl) (Y.AtFrom.cons (hC.at 6 rfl) (Y.AtFrom.nil _ _ _))))))) ?_;clear F ac;intro ac F
   refine Y.pv F (Y.al rfl (Try.new84 _)) ?_;clear F ac;intro ac F
   refine Y.punit F (X.w0 rfl) rfl (X.store rfl (F.ev 10 (Vp w9.heap.size)) (F.ev 53 (.agg #[Vi (p.lv j 0), Vi (p.lv j 1), Vi (p.lv j 2)])) (Y.stNew [Vi (p.lv j 0), Vi (p.lv j 1), Vi (p.lv j 2)] [Vi 0, Vi 0, Vi 0] (Try.siz84 _) rfl rfl)) ?_;clear F ac;intro ac F
   have hgs12 : w.heap.size ≤ w9.heap.size := G.size
   have g := Gr.alloc w9 (.cells #[Vi (p.lv j 0), Vi (p.lv j 1), Vi (p.lv j 2)] 84)
   have hb := heap_alloc_new w9 (.cells #[Vi (p.lv j 0), Vi (p.lv j 1), Vi (p.lv j 2)] 84)
   have hbl : w9.heap.size < (w9.alloc (.cells #[Vi (p.lv j 0), Vi (p.lv j 1), Vi (p.lv j 2)] 84)).heap.size := by simp
   have hC2 : RCells (w9.alloc (.cells #[Vi (p.lv j 0), Vi (p.lv j 1), Vi (p.lv j 2)] 84)) [(Ad w.heap.size 0, .slice ta p.nt tc), (Ad w.heap.size 1, .slice ha p.nh hc), (Ad w.heap.size 2, .slice ba p.nb bc), (Ad w.heap.size 3, .slice (some pd11) p.nl lc), (pd11.add (j * 3), Vi (p.lv j 0)), (⟨(pd11.add (j * 3)).block, (pd11.add (j * 3)).off + 1, none⟩, Vi (p.lv j 1)), (⟨(pd11.add (j * 3)).block, (pd11.add (j * 3)).off + 2, none⟩, Vi (p.lv j 2)), (Ad w9.heap.size 0, Vi (p.lv j 0)), (Ad w9.heap.size 1, Vi (p.lv j 1)), (Ad w9.heap.size 2, Vi (p.lv j 2))] := hC.box (b := w9.heap.size) #[Vi (p.lv j 0), Vi (p.lv j 1), Vi (p.lv j 2)] 84 rfl
   generalize w9.alloc (.cells #[Vi (p.lv j 0), Vi (p.lv j 1), Vi (p.lv j 2)] 84) = w13 at *
   replace G := G.trans g
   replace hC := hC2
   clear hC2
   replace hO1 := hO1.thenGr g
   replace hpt := hpt.gr g
   replace hph := hph.gr g
   replace hpb := hpb.gr g
   replace hpl := hpl.gr g
   replace hxs := hxs.gr g
   clear g hb hbl
   refine Y.nil ?_
   replace F : Fr ac 109 [(1, .slice a xs.length c), (2, Vp w.heap.size), (5, Vi ((sumZ (priceI p xs) p.nh : Int) + sumZ (talkI p xs) j)), (9, Vi j), (10, Vp w9.heap.size)] := F.sub _
   refine X.thenN ?_
   refine Y.seq ?_
   refine Y.seq ?_
   cases h14 : decide ((xs.length : Int) ≤ (p.lv j 0)) with
   | false =>
    try rw [h14] at F
    have h14p : ¬ ((xs.length : Int) ≤ (p.lv j 0)) := of_decide_eq_false h14
    have hxa := hx (p.lv j 0).toNat (by omega)
    have hea : xs[(p.lv j 0).toNat]?.getD 0 = xg xs (p.lv j 0).toNat := rfl
    cases h15 : decide ((xs.length : Int) ≤ (p.lv j 1)) with
    | false =>
     try rw [h15] at F
     have h15p : ¬ ((xs.length : Int) ≤ (p.lv j 1)) := of_decide_eq_false h15
     have hxb := hx (p.lv j 1).toNat (by omega)
     have heb : xs[(p.lv j 1).toNat]?.getD 0 = xg xs (p.lv j 1).toNat := rfl
     obtain ⟨pd16, pe16, -, pc16⟩ := hxs.at (j := (p.lv j 0).toNat) (by omega)
     subst pe16
     replace hC : RCells w13 [(Ad w.heap.size 0, .slice ta p.nt tc), (Ad w.heap.size 1, .slice ha p.nh hc), (Ad w.heap.size 2, .slice ba p.nb bc), (Ad w.heap.size 3, .slice (some pd11) p.nl lc), (pd11.add (j * 3), Vi (p.lv j 0)), (⟨(pd11.add (j * 3)).block, (pd11.add (j * 3)).off + 1, none⟩, Vi (p.lv j 1)), (⟨(pd11.add (j * 3)).block, (pd11.add (j * 3)).off + 2, none⟩, Vi (p.lv j 2)), (Ad w9.heap.size 0, Vi (p.lv j 0)), (Ad w9.heap.size 1, Vi (p.lv j 1)), (Ad w9.heap.size 2, Vi (p.lv j 2)), (pd16.add ((p.lv j 0).toNat), Vi (xs[(p.lv j 0).toNat]?.getD 0))] := hC.append ((RCells.cons pc16 (RCells.nil _)))
     clear pc16
     obtain ⟨pd17, pe17, -, pc17⟩ := hxs.at (j := (p.lv j 1).toNat) (by omega)
     injection pe17 with pe17
     subst pe17
     replace hC : RCells w13 [(Ad w.heap.size 0, .slice ta p.nt tc), (Ad w.heap.size 1, .slice ha p.nh hc), (Ad w.heap.size 2, .slice ba p.nb bc), (Ad w.heap.size 3, .slice (some pd11) p.nl lc), (pd11.add (j * 3), Vi (p.lv j 0)), (⟨(pd11.add (j * 3)).block, (pd11.add (j * 3)).off + 1, none⟩, Vi (p.lv j 1)), (⟨(pd11.add (j * 3)).block, (pd11.add (j * 3)).off + 2, none⟩, Vi (p.lv j 2)), (Ad w9.heap.size 0, Vi (p.lv j 0)), (Ad w9.heap.size 1, Vi (p.lv j 1)), (Ad w9.heap.size 2, Vi (p.lv j 2)), (pd16.add ((p.lv j 0).toNat), Vi (xs[(p.lv j 0).toNat]?.getD 0)), (pd16.add ((p.lv j 1).toNat), Vi (xs[(p.lv j 1).toNat]?.getD 0))] := hC.append ((RCells.cons pc17 (RCells.nil _)))
     clear pc17
     refine Y.region F [some (Vp w9.heap.size), some (Vi (p.lv j 0)), some (.slice (some pd16) xs.length c), some (Vi xs.length), some (.bool false), some (.bool false), some (.pointer (some ⟨w9.heap.size, 1, none⟩)), some (Vi (p.lv j 1)), some (.slice (some pd16) xs.length c), some (Vi xs.length), some (.bool false), some (.bool false), some (.bool false), some (.slice (some pd16) xs.length c), some (Vp w9.heap.size), some (Vi (p.lv j 0)), some (.pointer (some (pd16.add ((p.lv j 0).toNat)))), some (Vi (xs[(p.lv j 0).toNat]?.getD 0)), some (.slice (some pd16) xs.length c), some (.pointer (some ⟨w9.heap.size, 1, none⟩)), some (Vi (p.lv j 1)), some (.pointer (some (pd16.add ((p.lv j 1).toNat)))), some (Vi (xs[(p.lv j 1).toNat]?.getD 0)), some (.bool ((xs[(p.lv j 0).toNat]?.getD 0 : Int) == (xs[(p.lv j 1).toNat]?.getD 0))), some (.bool ((xs[(p.lv j 0).toNat]?.getD 0 : Int) == (xs[(p.lv j 1).toNat]?.getD 0)))] [] rfl ⟨by kernel_rfl, of_decide_eq_true (by kernel_rfl), by kernel_rfl, by kernel_rfl, by kernel_rfl⟩ ⟨?_, ?_, ?_, ?_, ?_, ?_, ?_, ?_, ?_, ?_, ?_, ?_, ?_, ?_, ?_, ?_, ?_, ?_, ?_, ?_, ?_, ?_, ?_, ?_, ?_, trivial⟩ ?_
     ·intro ac done u W Sx hR
      exact X.vl (X.field rfl (Sx.ev 10 (Vp w9.heap.size)) (X.fld Try.underlying84 rfl (Try.siz3 _) rfl rfl)) hR.st0
     ·intro ac done u W Sx hR
      have g : Gr w13 W := hR.1
      exact X.vl (X.load rfl (Sx.ev 54 (Vp w9.heap.size)) (X.ld1 (Try.agg3 _) ((hC.gr g).at 7 rfl))) hR.st0
     ·intro ac done u W Sx hR
      exact X.vl (X.move rfl (Sx.ev 1 (.slice (some pd16) xs.length c))) hR.st0
     ·intro ac done u W Sx hR
      exact X.vl (X.len1 Try.underlying34 rfl (Sx.ev 56 (.slice (some pd16) xs.length c))) hR.st0
     ·intro ac done u W Sx hR
      exact X.vl (X.binop rfl (Sx.ev 55 (Vi (p.lv j 0))) (Sx.ev 57 (Vi xs.length)) (X.geqI Try.underlying3 h14)) hR.st0
     ·intro ac done u W Sx hR
      exact X.vl (X.move rfl (Sx.ev 58 (.bool false))) hR.st0
     ·intro ac done u W Sx hR
      exact X.val (X.w1 rfl (Sx.yl 5 59 false (by kernel_rfl) rfl rfl)) rfl (X.field rfl (Sx.ev 10 (Vp w9.heap.size)) (X.fld Try.underlying84 rfl (Try.siz3 _) rfl rfl)) hR.st0
     ·intro ac done u W Sx hR
      have g : Gr w13 W := hR.1
      exact X.val (X.w1 rfl (Sx.yl 5 59 false (by kernel_rfl) rfl rfl)) rfl (X.load rfl (Sx.ev 60 (.pointer (some ⟨w9.heap.size, 1, none⟩))) (X.ld1 (Try.agg3 _) ((hC.gr g).at 8 rfl))) hR.st0
     ·intro ac done u W Sx hR
      exact X.val (X.w1 rfl (Sx.yl 5 59 false (by kernel_rfl) rfl rfl)) rfl (X.move rfl (Sx.ev 1 (.slice (some pd16) xs.length c))) hR.st0
     ·intro ac done u W Sx hR
      exact X.val (X.w1 rfl (Sx.yl 5 59 false (by kernel_rfl) rfl rfl)) rfl (X.len1 Try.underlying34 rfl (Sx.ev 62 (.slice (some pd16) xs.length c))) hR.st0
     ·intro ac done u W Sx hR
      exact X.val (X.w1 rfl (Sx.yl 5 59 false (by kernel_rfl) rfl rfl)) rfl (X.binop rfl (Sx.ev 61 (Vi (p.lv j 1))) (Sx.ev 63 (Vi xs.length)) (X.geqI Try.underlying3 h15)) hR.st0
     ·intro ac done u W Sx hR
      exact X.vl (X.pickF rfl (Sx.ev 59 (.bool false)) (Sx.ev 64 (.bool false))) hR.st0
     ·intro ac done u W Sx hR
      exact X.vl (X.move rfl (Sx.ev 65 (.bool false))) hR.st0
     ·intro ac done u W Sx hR
      exact X.val (X.w1 rfl (Sx.yl 12 66 false (by kernel_rfl) rfl rfl)) rfl (X.move rfl (Sx.ev 1 (.slice (some pd16) xs.length c))) hR.st0
     ·intro ac done u W Sx hR
      exact X.val (X.w1 rfl (Sx.yl 12 66 false (by kernel_rfl) rfl rfl)) rfl (X.field rfl (Sx.ev 10 (Vp w9.heap.size)) (X.fld Try.underlying84 rfl (Try.siz3 _) rfl rfl)) hR.st0
     ·intro ac done u W Sx hR
      have g : Gr w13 W := hR.1
      exact X.val (X.w1 rfl (Sx.yl 12 66 false (by kernel_rfl) rfl rfl)) rfl (X.load rfl (Sx.ev 68 (Vp w9.heap.size)) (X.ld1 (Try.agg3 _) ((hC.gr g).at 7 rfl))) hR.st0
     ·intro ac done u W Sx hR
      exact X.val (X.w1 rfl (Sx.yl 12 66 false (by kernel_rfl) rfl rfl)) rfl (X.index rfl (Sx.ev 67 (.slice (some pd16) xs.length c)) (Sx.ev 69 (Vi (p.lv j 0))) (X.idx (k := (p.lv j 0).toNat) Try.underlying34 (Try.siz3 _) (by omega) (by omega) (by rw [Nat.mul_one]))) hR.st0
     ·intro ac done u W Sx hR
      have g : Gr w13 W := hR.1
      exact X.val (X.w1 rfl (Sx.yl 12 66 false (by kernel_rfl) rfl rfl)) rfl (X.load rfl (Sx.ev 70 (.pointer (some (pd16.add ((p.lv j 0).toNat))))) (X.ld1 (Try.agg3 _) ((hC.gr g).at 10 rfl))) hR.st0
     ·intro ac done u W Sx hR
      exact X.val (X.w1 rfl (Sx.yl 12 66 false (by kernel_rfl) rfl rfl)) rfl (X.move rfl (Sx.ev 1 (.slice (some pd16) xs.length c))) hR.st0
     ·intro ac done u W Sx hR
      exact X.val (X.w1 rfl (Sx.yl 12 66 false (by kernel_rfl) rfl rfl)) rfl (X.field rfl (Sx.ev 10 (Vp w9.heap.size)) (X.fld Try.underlying84 rfl (Try.siz3 _) rfl rfl)) hR.st0
     ·intro ac done u W Sx hR
      have g : Gr w13 W := hR.1
      exact X.val (X.w1 rfl (Sx.yl 12 66 false (by kernel_rfl) rfl rfl)) rfl (X.load rfl (Sx.ev 73 (.pointer (some ⟨w9.heap.size, 1, none⟩))) (X.ld1 (Try.agg3 _) ((hC.gr g).at 8 rfl))) hR.st0
     ·intro ac done u W Sx hR
      exact X.val (X.w1 rfl (Sx.yl 12 66 false (by kernel_rfl) rfl rfl)) rfl (X.index rfl (Sx.ev 72 (.slice (some pd16) xs.length c)) (Sx.ev 74 (Vi (p.lv j 1))) (X.idx (k := (p.lv j 1).toNat) Try.underlying34 (Try.siz3 _) (by omega) (by omega) (by rw [Nat.mul_one]))) hR.st0
     ·intro ac done u W Sx hR
      have g : Gr w13 W := hR.1
      exact X.val (X.w1 rfl (Sx.yl 12 66 false (by kernel_rfl) rfl rfl)) rfl (X.load rfl (Sx.ev 75 (.pointer (some (pd16.add ((p.lv j 1).toNat))))) (X.ld1 (Try.agg3 _) ((hC.gr g).at 11 rfl))) hR.st0
     ·intro ac done u W Sx hR
      exact X.val (X.w1 rfl (Sx.yl 12 66 false (by kernel_rfl) rfl rfl)) rfl (X.binop rfl (Sx.ev 71 (Vi (xs[(p.lv j 0).toNat]?.getD 0))) (Sx.ev 76 (Vi (xs[(p.lv j 1).toNat]?.getD 0))) (X.eqlI Try.underlying3 rfl)) hR.st0
     ·intro ac done u W Sx hR
      exact X.vl (X.pickF rfl (Sx.ev 66 (.bool false)) (Sx.ev 77 (.bool ((xs[(p.lv j 0).toNat]?.getD 0 : Int) == (xs[(p.lv j 1).toNat]?.getD 0))))) hR.st0
     intro ac u w18 hs hd hl ho hR
     have g : Gr w13 w18 := hR.1
     replace F : Fr ac 109 [(1, .slice (some pd16) xs.length c), (2, Vp w.heap.size), (5, Vi ((sumZ (priceI p xs) p.nh : Int) + sumZ (talkI p xs) j)), (9, Vi j), (10, Vp w9.heap.size), (78, .bool ((xs[(p.lv j 0).toNat]?.getD 0 : Int) == (xs[(p.lv j 1).toNat]?.getD 0)))] := X.fr hs hd hl _ (by kernel_rfl)
     clear hs hd hl ho hR
     replace G := G.trans g
     replace hC := hC.gr g
     replace hO1 := hO1.thenGr g
     replace hpt := hpt.gr g
     replace hph := hph.gr g
     replace hpb := hpb.gr g
     replace hpl := hpl.gr g
     replace hxs := hxs.gr g
     clear g
     refine X.thenN ?_
     cases h19 : ((xs[(p.lv j 0).toNat]?.getD 0 : Int) == (xs[(p.lv j 1).toNat]?.getD 0)) with
     | false =>
      try rw [h19] at F
      have h19p : ¬ (xs[(p.lv j 0).toNat]?.getD 0 : Int) = (xs[(p.lv j 1).toNat]?.getD 0) := by simpa using h19
      refine Y.condF (F.ev 78 (.bool false)) ?_
      refine Y.skip ?_
      refine X.thenN ?_
      refine Y.seq ?_
      refine Y.lit (by kernel_rfl) ?_
      refine Y.pv F (X.move rfl (F.ev 5 (Vi ((sumZ (priceI p xs) p.nh : Int) + sumZ (talkI p xs) j)))) ?_;clear F ac;intro ac F
      refine Y.pv F (X.field rfl (F.ev 10 (Vp w9.heap.size)) (X.fld Try.underlying84 rfl (Try.siz3 _) rfl rfl)) ?_;clear F ac;intro ac F
      refine Y.pv F (X.load rfl (F.ev 80 (.pointer (some ⟨w9.heap.size, 2, none⟩))) (X.ld1 (Try.agg3 _) (hC.at 9 rfl))) ?_;clear F ac;intro ac F
      refine Y.pv F (X.binop rfl (F.ev 79 (Vi ((sumZ (priceI p xs) p.nh : Int) + sumZ (talkI p xs) j))) (F.ev 81 (Vi (p.lv j 2))) (X.addI Try.underlying3 rfl (by omega) (by omega))) ?_;clear F ac;intro ac F
      refine Y.pv F (X.assign rfl (F.ev 82 (Vi (((sumZ (priceI p xs) p.nh : Int) + sumZ (talkI p xs) j : Int) + (p.lv j 2))))) ?_;clear F ac;intro ac F
      refine Y.nil ?_
      replace F : Fr ac 109 [(1, .slice (some pd16) xs.length c), (2, Vp w.heap.size), (5, Vi (((sumZ (priceI p xs) p.nh : Int) + sumZ (talkI p xs) j : Int) + (p.lv j 2))), (9, Vi j), (10, Vp w9.heap.size)] := F.sub _
      refine X.thenN ?_
      refine Y.seq ?_
      obtain ⟨pd20, pe20, -, pc20⟩ := hph.at (j := (xs[(p.lv j 0).toNat]?.getD 0).toNat) (by omega)
      subst pe20
      replace hC : RCells w18 [(Ad w.heap.size 0, .slice ta p.nt tc), (Ad w.heap.size 1, .slice (some pd20) p.nh hc), (Ad w.heap.size 2, .slice ba p.nb bc), (Ad w.heap.size 3, .slice (some pd11) p.nl lc), (pd11.add (j * 3), Vi (p.lv j 0)), (⟨(pd11.add (j * 3)).block, (pd11.add (j * 3)).off + 1, none⟩, Vi (p.lv j 1)), (⟨(pd11.add (j * 3)).block, (pd11.add (j * 3)).off + 2, none⟩, Vi (p.lv j 2)), (Ad w9.heap.size 0, Vi (p.lv j 0)), (Ad w9.heap.size 1, Vi (p.lv j 1)), (Ad w9.heap.size 2, Vi (p.lv j 2)), (pd16.add ((p.lv j 0).toNat), Vi (xs[(p.lv j 0).toNat]?.getD 0)), (pd16.add ((p.lv j 1).toNat), Vi (xs[(p.lv j 1).toNat]?.getD 0)), (pd20.add (((xs[(p.lv j 0).toNat]?.getD 0).toNat) * 6), .string (p.hn ((xs[(p.lv j 0).toNat]?.getD 0).toNat))), (⟨(pd20.add (((xs[(p.lv j 0).toNat]?.getD 0).toNat) * 6)).block, (pd20.add (((xs[(p.lv j 0).toNat]?.getD 0).toNat) * 6)).off + 1, none⟩, Vi (p.hv ((xs[(p.lv j 0).toNat]?.getD 0).toNat) 1)), (⟨(pd20.add (((xs[(p.lv j 0).toNat]?.getD 0).toNat) * 6)).block, (pd20.add (((xs[(p.lv j 0).toNat]?.getD 0).toNat) * 6)).off + 2, none⟩, Vi (p.hv ((xs[(p.lv j 0).toNat]?.getD 0).toNat) 2)), (⟨(pd20.add (((xs[(p.lv j 0).toNat]?.getD 0).toNat) * 6)).block, (pd20.add (((xs[(p.lv j 0).toNat]?.getD 0).toNat) * 6)).off + 3, none⟩, Vi (p.hv ((xs[(p.lv j 0).toNat]?.getD 0).toNat) 3)), (⟨(pd20.add (((xs[(p.lv j 0).toNat]?.getD 0).toNat) * 6)).block, (pd20.add (((xs[(p.lv j 0).toNat]?.getD 0).toNat) * 6)).off + 4, none⟩, Vi (p.hv ((xs[(p.lv j 0).toNat]?.getD 0).toNat) 4)), (⟨(pd20.add (((xs[(p.lv j 0).toNat]?.getD 0).toNat) * 6)).block, (pd20.add (((xs[(p.lv j 0).toNat]?.getD 0).toNat) * 6)).off + 5, none⟩, Vi (p.hv ((xs[(p.lv j 0).toNat]?.getD 0).toNat) 5))] := hC.append ((RCells.cons (pc20 0 (by decide)) (RCells.cons (pc20 1 (by decide)) (RCells.cons (pc20 2 (by decide)) (RCells.cons (pc20 3 (by decide)) (RCells.cons (pc20 4 (by decide)) (RCells.cons (pc20 5 (by decide)) (RCells.nil _))))))))
      clear pc20
      obtain ⟨pd21, pe21, -, pc21⟩ := hph.at (j := (xs[(p.lv j 1).toNat]?.getD 0).toNat) (by omega)
      injection pe21 with pe21
      subst pe21
      replace hC : RCells w18 [(Ad w.heap.size 0, .slice ta p.nt tc), (Ad w.heap.size 1, .slice (some pd20) p.nh hc), (Ad w.heap.size 2, .slice ba p.nb bc), (Ad w.heap.size 3, .slice (some pd11) p.nl lc), (pd11.add (j * 3), Vi (p.lv j 0)), (⟨(pd11.add (j * 3)).block, (pd11.add (j * 3)).off + 1, none⟩, Vi (p.lv j 1)), (⟨(pd11.add (j * 3)).block, (pd11.add (j * 3)).off + 2, none⟩, Vi (p.lv j 2)), (Ad w9.heap.size 0, Vi (p.lv j 0)), (Ad w9.heap.size 1, Vi (p.lv j 1)), (Ad w9.heap.size 2, Vi (p.lv j 2)), (pd16.add ((p.lv j 0).toNat), Vi (xs[(p.lv j 0).toNat]?.getD 0)), (pd16.add ((p.lv j 1).toNat), Vi (xs[(p.lv j 1).toNat]?.getD 0)), (pd20.add (((xs[(p.lv j 0).toNat]?.getD 0).toNat) * 6), .string (p.hn ((xs[(p.lv j 0).toNat]?.getD 0).toNat))), (⟨(pd20.add (((xs[(p.lv j 0).toNat]?.getD 0).toNat) * 6)).block, (pd20.add (((xs[(p.lv j 0).toNat]?.getD 0).toNat) * 6)).off + 1, none⟩, Vi (p.hv ((xs[(p.lv j 0).toNat]?.getD 0).toNat) 1)), (⟨(pd20.add (((xs[(p.lv j 0).toNat]?.getD 0).toNat) * 6)).block, (pd20.add (((xs[(p.lv j 0).toNat]?.getD 0).toNat) * 6)).off + 2, none⟩, Vi (p.hv ((xs[(p.lv j 0).toNat]?.getD 0).toNat) 2)), (⟨(pd20.add (((xs[(p.lv j 0).toNat]?.getD 0).toNat) * 6)).block, (pd20.add (((xs[(p.lv j 0).toNat]?.getD 0).toNat) * 6)).off + 3, none⟩, Vi (p.hv ((xs[(p.lv j 0).toNat]?.getD 0).toNat) 3)), (⟨(pd20.add (((xs[(p.lv j 0).toNat]?.getD 0).toNat) * 6)).block, (pd20.add (((xs[(p.lv j 0).toNat]?.getD 0).toNat) * 6)).off + 4, none⟩, Vi (p.hv ((xs[(p.lv j 0).toNat]?.getD 0).toNat) 4)), (⟨(pd20.add (((xs[(p.lv j 0).toNat]?.getD 0).toNat) * 6)).block, (pd20.add (((xs[(p.lv j 0).toNat]?.getD 0).toNat) * 6)).off + 5, none⟩, Vi (p.hv ((xs[(p.lv j 0).toNat]?.getD 0).toNat) 5)), (pd20.add (((xs[(p.lv j 1).toNat]?.getD 0).toNat) * 6), .string (p.hn ((xs[(p.lv j 1).toNat]?.getD 0).toNat))), (⟨(pd20.add (((xs[(p.lv j 1).toNat]?.getD 0).toNat) * 6)).block, (pd20.add (((xs[(p.lv j 1).toNat]?.getD 0).toNat) * 6)).off + 1, none⟩, Vi (p.hv ((xs[(p.lv j 1).toNat]?.getD 0).toNat) 1)), (⟨(pd20.add (((xs[(p.lv j 1).toNat]?.getD 0).toNat) * 6)).block, (pd20.add (((xs[(p.lv j 1).toNat]?.getD 0).toNat) * 6)).off + 2, none⟩, Vi (p.hv ((xs[(p.lv j 1).toNat]?.getD 0).toNat) 2)), (⟨(pd20.add (((xs[(p.lv j 1).toNat]?.getD 0).toNat) * 6)).block, (pd20.add (((xs[(p.lv j 1).toNat]?.getD 0).toNat) * 6)).off + 3, none⟩, Vi (p.hv ((xs[(p.lv j 1).toNat]?.getD 0).toNat) 3)), (⟨(pd20.add (((xs[(p.lv j 1).toNat]?.getD 0).toNat) * 6)).block, (pd20.add (((xs[(p.lv j 1).toNat]?.getD 0).toNat) * 6)).off + 4, none⟩, Vi (p.hv ((xs[(p.lv j 1).toNat]?.getD 0).toNat) 4)), (⟨(pd20.add (((xs[(p.lv j 1).toNat]?.getD 0).toNat) * 6)).block, (pd20.add (((xs[(p.lv j 1).toNat]?.getD 0).toNat) * 6)).off + 5, none⟩, Vi (p.hv ((xs[(p.lv j 1).toNat]?.getD 0).toNat) 5))] := hC.append ((RCells.cons (pc21 0 (by decide)) (RCells.cons (pc21 1 (by decide)) (RCells.cons (pc21 2 (by decide)) (RCells.cons (pc21 3 (by decide)) (RCells.cons (pc21 4 (by decide)) (RCells.cons (pc21 5 (by decide)) (RCells.nil _))))))))
      clear pc21
      refine Y.region F [some (.pointer (some ⟨w.heap.size, 1, none⟩)), some (.slice (some pd20) p.nh hc), some (.slice (some pd16) xs.length c), some (Vp w9.heap.size), some (Vi (p.lv j 0)), some (.pointer (some (pd16.add ((p.lv j 0).toNat)))), some (Vi (xs[(p.lv j 0).toNat]?.getD 0)), some (.pointer (some (pd20.add (((xs[(p.lv j 0).toNat]?.getD 0).toNat) * 6)))), some (.pointer (some (⟨(pd20.add (((xs[(p.lv j 0).toNat]?.getD 0).toNat) * 6)).block, (pd20.add (((xs[(p.lv j 0).toNat]?.getD 0).toNat) * 6)).off + 4, none⟩))), some (Vi (p.hv ((xs[(p.lv j 0).toNat]?.getD 0).toNat) 4)), some (.pointer (some ⟨w.heap.size, 1, none⟩)), some (.slice (some pd20) p.nh hc), some (.slice (some pd16) xs.length c), some (.pointer (some ⟨w9.heap.size, 1, none⟩)), some (Vi (p.lv j 1)), some (.pointer (some (pd16.add ((p.lv j 1).toNat)))), some (Vi (xs[(p.lv j 1).toNat]?.getD 0)), some (.pointer (some (pd20.add (((xs[(p.lv j 1).toNat]?.getD 0).toNat) * 6)))), some (.pointer (some (⟨(pd20.add (((xs[(p.lv j 1).toNat]?.getD 0).toNat) * 6)).block, (pd20.add (((xs[(p.lv j 1).toNat]?.getD 0).toNat) * 6)).off + 4, none⟩))), some (Vi (p.hv ((xs[(p.lv j 1).toNat]?.getD 0).toNat) 4)), some (.bool ((p.hv ((xs[(p.lv j 0).toNat]?.getD 0).toNat) 4 : Int) != (p.hv ((xs[(p.lv j 1).toNat]?.getD 0).toNat) 4)))] [] rfl ⟨by kernel_rfl, of_decide_eq_true (by kernel_rfl), by kernel_rfl, by kernel_rfl, by kernel_rfl⟩ ⟨?_, ?_, ?_, ?_, ?_, ?_, ?_, ?_, ?_, ?_, ?_, ?_, ?_, ?_, ?_, ?_, ?_, ?_, ?_, ?_, ?_, trivial⟩ ?_
      ·intro ac done u W Sx hR
       exact X.vl (X.field rfl (Sx.ev 2 (Vp w.heap.size)) (X.fld Try.underlying27 rfl (Try.siz23 _) rfl rfl)) hR.st0
      ·intro ac done u W Sx hR
       have g : Gr w18 W := hR.1
       exact X.vl (X.load rfl (Sx.ev 83 (.pointer (some ⟨w.heap.size, 1, none⟩))) (X.ld1 (Try.agg23 _) ((hC.gr g).at 1 rfl))) hR.st0
      ·intro ac done u W Sx hR
       exact X.vl (X.move rfl (Sx.ev 1 (.slice (some pd16) xs.length c))) hR.st0
      ·intro ac done u W Sx hR
       exact X.vl (X.field rfl (Sx.ev 10 (Vp w9.heap.size)) (X.fld Try.underlying84 rfl (Try.siz3 _) rfl rfl)) hR.st0
      ·intro ac done u W Sx hR
       have g : Gr w18 W := hR.1
       exact X.vl (X.load rfl (Sx.ev 86 (Vp w9.heap.size)) (X.ld1 (Try.agg3 _) ((hC.gr g).at 7 rfl))) hR.st0
      ·intro ac done u W Sx hR
       exact X.val (X.w0 rfl) rfl (X.index rfl (Sx.ev 85 (.slice (some pd16) xs.length c)) (Sx.ev 87 (Vi (p.lv j 0))) (X.idx (k := (p.lv j 0).toNat) Try.underlying34 (Try.siz3 _) (by omega) (by omega) (by rw [Nat.mul_one]))) hR.st0
      ·intro ac done u W Sx hR
       have g : Gr w18 W := hR.1
       exact X.vl (X.load rfl (Sx.ev 88 (.pointer (some (pd16.add ((p.lv j 0).toNat))))) (X.ld1 (Try.agg3 _) ((hC.gr g).at 10 rfl))) hR.st0
      ·intro ac done u W Sx hR
       exact X.vl (X.index rfl (Sx.ev 84 (.slice (some pd20) p.nh hc)) (Sx.ev 89 (Vi (xs[(p.lv j 0).toNat]?.getD 0))) (X.idx (k := (xs[(p.lv j 0).toNat]?.getD 0).toNat) Try.underlying23 (Try.siz53 _) (by omega) (by omega) rfl)) hR.st0
      ·intro ac done u W Sx hR
       exact X.vl (X.field rfl (Sx.ev 90 (.pointer (some (pd20.add (((xs[(p.lv j 0).toNat]?.getD 0).toNat) * 6))))) (X.fld Try.underlying53 rfl (Try.siz3 _) rfl rfl)) hR.st0
      ·intro ac done u W Sx hR
       have g : Gr w18 W := hR.1
       exact X.vl (X.load rfl (Sx.ev 91 (.pointer (some (⟨(pd20.add (((xs[(p.lv j 0).toNat]?.getD 0).toNat) * 6)).block, (pd20.add (((xs[(p.lv j 0).toNat]?.getD 0).toNat) * 6)).off + 4, none⟩)))) (X.ld1 (Try.agg3 _) ((hC.gr g).at 16 rfl))) hR.st0
      ·intro ac done u W Sx hR
       exact X.vl (X.field rfl (Sx.ev 2 (Vp w.heap.size)) (X.fld Try.underlying27 rfl (Try.siz23 _) rfl rfl)) hR.st0
      ·intro ac done u W Sx hR
       have g : Gr w18 W := hR.1
       exact X.vl (X.load rfl (Sx.ev 93 (.pointer (some ⟨w.heap.size, 1, none⟩))) (X.ld1 (Try.agg23 _) ((hC.gr g).at 1 rfl))) hR.st0
      ·intro ac done u W Sx hR
       exact X.vl (X.move rfl (Sx.ev 1 (.slice (some pd16) xs.length c))) hR.st0
      ·intro ac done u W Sx hR
       exact X.vl (X.field rfl (Sx.ev 10 (Vp w9.heap.size)) (X.fld Try.underlying84 rfl (Try.siz3 _) rfl rfl)) hR.st0
      ·intro ac done u W Sx hR
       have g : Gr w18 W := hR.1
       exact X.vl (X.load rfl (Sx.ev 96 (.pointer (some ⟨w9.heap.size, 1, none⟩))) (X.ld1 (Try.agg3 _) ((hC.gr g).at 8 rfl))) hR.st0
      ·intro ac done u W Sx hR
       exact X.val (X.w0 rfl) rfl (X.index rfl (Sx.ev 95 (.slice (some pd16) xs.length c)) (Sx.ev 97 (Vi (p.lv j 1))) (X.idx (k := (p.lv j 1).toNat) Try.underlying34 (Try.siz3 _) (by omega) (by omega) (by rw [Nat.mul_one]))) hR.st0
      ·intro ac done u W Sx hR
       have g : Gr w18 W := hR.1
       exact X.vl (X.load rfl (Sx.ev 98 (.pointer (some (pd16.add ((p.lv j 1).toNat))))) (X.ld1 (Try.agg3 _) ((hC.gr g).at 11 rfl))) hR.st0
      ·intro ac done u W Sx hR
       exact X.vl (X.index rfl (Sx.ev 94 (.slice (some pd20) p.nh hc)) (Sx.ev 99 (Vi (xs[(p.lv j 1).toNat]?.getD 0))) (X.idx (k := (xs[(p.lv j 1).toNat]?.getD 0).toNat) Try.underlying23 (Try.siz53 _) (by omega) (by omega) rfl)) hR.st0
      ·intro ac done u W Sx hR
       exact X.vl (X.field rfl (Sx.ev 100 (.pointer (some (pd20.add (((xs[(p.lv j 1).toNat]?.getD 0).toNat) * 6))))) (X.fld Try.underlying53 rfl (Try.siz3 _) rfl rfl)) hR.st0
      ·intro ac done u W Sx hR
       have g : Gr w18 W := hR.1
       exact X.vl (X.load rfl (Sx.ev 101 (.pointer (some (⟨(pd20.add (((xs[(p.lv j 1).toNat]?.getD 0).toNat) * 6)).block, (pd20.add (((xs[(p.lv j 1).toNat]?.getD 0).toNat) * 6)).off + 4, none⟩)))) (X.ld1 (Try.agg3 _) ((hC.gr g).at 22 rfl))) hR.st0
      ·intro ac done u W Sx hR
       exact X.vl (X.binop rfl (Sx.ev 92 (Vi (p.hv ((xs[(p.lv j 0).toNat]?.getD 0).toNat) 4))) (Sx.ev 102 (Vi (p.hv ((xs[(p.lv j 1).toNat]?.getD 0).toNat) 4))) (X.neqI Try.underlying3 rfl)) hR.st0
      intro ac u w22 hs hd hl ho hR
      have g : Gr w18 w22 := hR.1
      replace F : Fr ac 109 [(1, .slice (some pd16) xs.length c), (2, Vp w.heap.size), (5, Vi (((sumZ (priceI p xs) p.nh : Int) + sumZ (talkI p xs) j : Int) + (p.lv j 2))), (9, Vi j), (10, Vp w9.heap.size), (103, .bool ((p.hv ((xs[(p.lv j 0).toNat]?.getD 0).toNat) 4 : Int) != (p.hv ((xs[(p.lv j 1).toNat]?.getD 0).toNat) 4)))] := X.fr hs hd hl _ (by kernel_rfl)
      clear hs hd hl ho hR
      replace G := G.trans g
      replace hC := hC.gr g
      replace hO1 := hO1.thenGr g
      replace hpt := hpt.gr g
      replace hph := hph.gr g
      replace hpb := hpb.gr g
      replace hpl := hpl.gr g
      replace hxs := hxs.gr g
      clear g
      refine X.thenN ?_
      cases h23 : ((p.hv ((xs[(p.lv j 0).toNat]?.getD 0).toNat) 4 : Int) != (p.hv ((xs[(p.lv j 1).toNat]?.getD 0).toNat) 4)) with
      | false =>
       try rw [h23] at F
       have h23p : (p.hv ((xs[(p.lv j 0).toNat]?.getD 0).toNat) 4 : Int) = (p.hv ((xs[(p.lv j 1).toNat]?.getD 0).toNat) 4) := by simpa using h23
       refine Y.condF (F.ev 103 (.bool false)) ?_
       refine Y.skip ?_
       refine X.blockN ?_
       refine X.thenN ?_
       refine Y.lit (by kernel_rfl) ?_
       refine Y.pv F (X.move rfl (F.ev 9 (Vi j))) ?_;clear F ac;intro ac F
       refine Y.pv F (X.binop rfl (F.ev 47 (Vi j)) (X.kc (Vi 1) rfl) (X.addI Try.underlying3 rfl (by omega) (by omega))) ?_;clear F ac;intro ac F
       refine Y.pv F (X.assign rfl (F.ev 48 (Vi ((j : Int) + 1)))) ?_;clear F ac;intro ac F
       refine Y.nil ?_
       replace F : Fr ac 109 [(1, .slice (some pd16) xs.length c), (2, Vp w.heap.size), (5, Vi (((sumZ (priceI p xs) p.nh : Int) + sumZ (talkI p xs) j : Int) + (p.lv j 2))), (9, Vi ((j : Int) + 1))] := F.sub _
       refine X.thenN ?_
       refine ⟨_, ?_, j + 1, rfl, hO1, by omega, (by rw [talk_1 (by omega) (by omega) (by omega), ← Int.add_assoc]; exact F.sub _)⟩
       omega
      | true =>
       try rw [h23] at F
       have h23p : ¬ (p.hv ((xs[(p.lv j 0).toNat]?.getD 0).toNat) 4 : Int) = (p.hv ((xs[(p.lv j 1).toNat]?.getD 0).toNat) 4) := by simpa using h23
       refine Y.condT (F.ev 103 (.bool true)) ?_
       refine Y.lit (by kernel_rfl) ?_
       refine Y.pv F (X.move rfl (F.ev 5 (Vi (((sumZ (priceI p xs) p.nh : Int) + sumZ (talkI p xs) j : Int) + (p.lv j 2))))) ?_;clear F ac;intro ac F
       refine Y.pv F (X.field rfl (F.ev 10 (Vp w9.heap.size)) (X.fld Try.underlying84 rfl (Try.siz3 _) rfl rfl)) ?_;clear F ac;intro ac F
       refine Y.pv F (X.load rfl (F.ev 105 (.pointer (some ⟨w9.heap.size, 2, none⟩))) (X.ld1 (Try.agg3 _) (hC.at 9 rfl))) ?_;clear F ac;intro ac F
       refine Y.pv F (X.binop rfl (F.ev 104 (Vi (((sumZ (priceI p xs) p.nh : Int) + sumZ (talkI p xs) j : Int) + (p.lv j 2)))) (F.ev 106 (Vi (p.lv j 2))) (X.addI Try.underlying3 rfl (by omega) (by omega))) ?_;clear F ac;intro ac F
       refine Y.pv F (X.assign rfl (F.ev 107 (Vi ((((sumZ (priceI p xs) p.nh : Int) + sumZ (talkI p xs) j : Int) + (p.lv j 2) : Int) + (p.lv j 2))))) ?_;clear F ac;intro ac F
       refine Y.nil ?_
       replace F : Fr ac 109 [(1, .slice (some pd16) xs.length c), (2, Vp w.heap.size), (5, Vi ((((sumZ (priceI p xs) p.nh : Int) + sumZ (talkI p xs) j : Int) + (p.lv j 2) : Int) + (p.lv j 2))), (9, Vi j)] := F.sub _
       refine X.blockN ?_
       refine X.thenN ?_
       refine Y.lit (by kernel_rfl) ?_
       refine Y.pv F (X.move rfl (F.ev 9 (Vi j))) ?_;clear F ac;intro ac F
       refine Y.pv F (X.binop rfl (F.ev 47 (Vi j)) (X.kc (Vi 1) rfl) (X.addI Try.underlying3 rfl (by omega) (by omega))) ?_;clear F ac;intro ac F
       refine Y.pv F (X.assign rfl (F.ev 48 (Vi ((j : Int) + 1)))) ?_;clear F ac;intro ac F
       refine Y.nil ?_
       replace F : Fr ac 109 [(1, .slice (some pd16) xs.length c), (2, Vp w.heap.size), (5, Vi ((((sumZ (priceI p xs) p.nh : Int) + sumZ (talkI p xs) j : Int) + (p.lv j 2) : Int) + (p.lv j 2))), (9, Vi ((j : Int) + 1))] := F.sub _
       refine X.thenN ?_
       refine ⟨_, ?_, j + 1, rfl, hO1, by omega, (by rw [talk_2 (by omega) (by omega) (by omega), ← Int.add_assoc, ← Int.add_assoc]; exact F.sub _)⟩
       omega
     | true =>
      try rw [h19] at F
      have h19p : (xs[(p.lv j 0).toNat]?.getD 0 : Int) = (xs[(p.lv j 1).toNat]?.getD 0) := by simpa using h19
      refine Y.condT (F.ev 78 (.bool true)) ?_
      refine Y.exit ?_
      refine X.thenX ?_
      refine X.blockX ?_
      refine X.thenN ?_
      refine Y.lit (by kernel_rfl) ?_
      refine Y.pv F (X.move rfl (F.ev 9 (Vi j))) ?_;clear F ac;intro ac F
      refine Y.pv F (X.binop rfl (F.ev 47 (Vi j)) (X.kc (Vi 1) rfl) (X.addI Try.underlying3 rfl (by omega) (by omega))) ?_;clear F ac;intro ac F
      refine Y.pv F (X.assign rfl (F.ev 48 (Vi ((j : Int) + 1)))) ?_;clear F ac;intro ac F
      refine Y.nil ?_
      replace F : Fr ac 109 [(1, .slice (some pd16) xs.length c), (2, Vp w.heap.size), (5, Vi ((sumZ (priceI p xs) p.nh : Int) + sumZ (talkI p xs) j)), (9, Vi ((j : Int) + 1))] := F.sub _
      refine X.thenN ?_
      refine ⟨_, ?_, j + 1, rfl, hO1, by omega, (by rw [talk_0 (by omega)]; exact F.sub _)⟩
      omega
    | true =>
     try rw [h15] at F
     have h15p : ((xs.length : Int) ≤ (p.lv j 1)) := of_decide_eq_true h15
     refine Y.region F [some (Vp w9.heap.size), some (Vi (p.lv j 0)), some (.slice a xs.length c), some (Vi xs.length), some (.bool false), some (.bool false), some (.pointer (some ⟨w9.heap.size, 1, none⟩)), some (Vi (p.lv j 1)), some (.slice a xs.length c), some (Vi xs.length), some (.bool true), some (.bool true), some (.bool true), none, none, none, none, none, none, none, none, none, none, none, some (.bool true)] [] rfl ⟨by kernel_rfl, of_decide_eq_true (by kernel_rfl), by kernel_rfl, by kernel_rfl, by kernel_rfl⟩ ⟨?_, ?_, ?_, ?_, ?_, ?_, ?_, ?_, ?_, ?_, ?_, ?_, ?_, ?_, ?_, ?_, ?_, ?_, ?_, ?_, ?_, ?_, ?_, ?_, ?_, trivial⟩ ?_
     ·intro ac done u W Sx hR
      exact X.vl (X.field rfl (Sx.ev 10 (Vp w9.heap.size)) (X.fld Try.underlying84 rfl (Try.siz3 _) rfl rfl)) hR.st0
     ·intro ac done u W Sx hR
      have g : Gr w13 W := hR.1
      exact X.vl (X.load rfl (Sx.ev 54 (Vp w9.heap.size)) (X.ld1 (Try.agg3 _) ((hC.gr g).at 7 rfl))) hR.st0
     ·intro ac done u W Sx hR
      exact X.vl (X.move rfl (Sx.ev 1 (.slice a xs.length c))) hR.st0
     ·intro ac done u W Sx hR
      exact X.vl (X.len1 Try.underlying34 rfl (Sx.ev 56 (.slice a xs.length c))) hR.st0
     ·intro ac done u W Sx hR
      exact X.vl (X.binop rfl (Sx.ev 55 (Vi (p.lv j 0))) (Sx.ev 57 (Vi xs.length)) (X.geqI Try.underlying3 h14)) hR.st0
     ·intro ac done u W Sx hR
      exact X.vl (X.move rfl (Sx.ev 58 (.bool false))) hR.st0
     ·intro ac done u W Sx hR
      exact X.val (X.w1 rfl (Sx.yl 5 59 false (by kernel_rfl) rfl rfl)) rfl (X.field rfl (Sx.ev 10 (Vp w9.heap.size)) (X.fld Try.underlying84 rfl (Try.siz3 _) rfl rfl)) hR.st0
     ·intro ac done u W Sx hR
      have g : Gr w13 W := hR.1
      exact X.val (X.w1 rfl (Sx.yl 5 59 false (by kernel_rfl) rfl rfl)) rfl (X.load rfl (Sx.ev 60 (.pointer (some ⟨w9.heap.size, 1, none⟩))) (X.ld1 (Try.agg3 _) ((hC.gr g).at 8 rfl))) hR.st0
     ·intro ac done u W Sx hR
      exact X.val (X.w1 rfl (Sx.yl 5 59 false (by kernel_rfl) rfl rfl)) rfl (X.move rfl (Sx.ev 1 (.slice a xs.length c))) hR.st0
     ·intro ac done u W Sx hR
      exact X.val (X.w1 rfl (Sx.yl 5 59 false (by kernel_rfl) rfl rfl)) rfl (X.len1 Try.underlying34 rfl (Sx.ev 62 (.slice a xs.length c))) hR.st0
     ·intro ac done u W Sx hR
      exact X.val (X.w1 rfl (Sx.yl 5 59 false (by kernel_rfl) rfl rfl)) rfl (X.binop rfl (Sx.ev 61 (Vi (p.lv j 1))) (Sx.ev 63 (Vi xs.length)) (X.geqI Try.underlying3 h15)) hR.st0
     ·intro ac done u W Sx hR
      exact X.vl (X.pickF rfl (Sx.ev 59 (.bool false)) (Sx.ev 64 (.bool true))) hR.st0
     ·intro ac done u W Sx hR
      exact X.vl (X.move rfl (Sx.ev 65 (.bool true))) hR.st0
     ·intro ac done u W Sx hR
      exact X.skip (X.w2 rfl (Sx.yl 12 66 true (by kernel_rfl) rfl rfl) rfl) rfl (hR.skip rfl)
     ·intro ac done u W Sx hR
      exact X.skip (X.w2 rfl (Sx.yl 12 66 true (by kernel_rfl) rfl rfl) rfl) rfl (hR.skip rfl)
     ·intro ac done u W Sx hR
      exact X.skip (X.w2 rfl (Sx.yl 12 66 true (by kernel_rfl) rfl rfl) rfl) rfl (hR.skip rfl)
     ·intro ac done u W Sx hR
      exact X.skip (X.w2 rfl (Sx.yl 12 66 true (by kernel_rfl) rfl rfl) rfl) rfl (hR.skip rfl)
     ·intro ac done u W Sx hR
      exact X.skip (X.w2 rfl (Sx.yl 12 66 true (by kernel_rfl) rfl rfl) rfl) rfl (hR.skip rfl)
     ·intro ac done u W Sx hR
      exact X.skip (X.w2 rfl (Sx.yl 12 66 true (by kernel_rfl) rfl rfl) rfl) rfl (hR.skip rfl)
     ·intro ac done u W Sx hR
      exact X.skip (X.w2 rfl (Sx.yl 12 66 true (by kernel_rfl) rfl rfl) rfl) rfl (hR.skip rfl)
     ·intro ac done u W Sx hR
      exact X.skip (X.w2 rfl (Sx.yl 12 66 true (by kernel_rfl) rfl rfl) rfl) rfl (hR.skip rfl)
     ·intro ac done u W Sx hR
      exact X.skip (X.w2 rfl (Sx.yl 12 66 true (by kernel_rfl) rfl rfl) rfl) rfl (hR.skip rfl)
     ·intro ac done u W Sx hR
      exact X.skip (X.w2 rfl (Sx.yl 12 66 true (by kernel_rfl) rfl rfl) rfl) rfl (hR.skip rfl)
     ·intro ac done u W Sx hR
      exact X.skip (X.w2 rfl (Sx.yl 12 66 true (by kernel_rfl) rfl rfl) rfl) rfl (hR.skip rfl)
     ·intro ac done u W Sx hR
      exact X.vl (X.pickT rfl (Sx.ev 66 (.bool true)) (X.kc (.bool true) rfl)) hR.st0
     intro ac u w24 hs hd hl ho hR
     have g : Gr w13 w24 := hR.1
     replace F : Fr ac 109 [(1, .slice a xs.length c), (2, Vp w.heap.size), (5, Vi ((sumZ (priceI p xs) p.nh : Int) + sumZ (talkI p xs) j)), (9, Vi j), (10, Vp w9.heap.size), (78, .bool true)] := X.fr hs hd hl _ (by kernel_rfl)
     clear hs hd hl ho hR
     replace G := G.trans g
     replace hC := hC.gr g
     replace hO1 := hO1.thenGr g
     replace hpt := hpt.gr g
     replace hph := hph.gr g
     replace hpb := hpb.gr g
     replace hpl := hpl.gr g
     replace hxs := hxs.gr g
     clear g
     refine X.thenN ?_
     refine Y.condT (F.ev 78 (.bool true)) ?_
     refine Y.exit ?_
     refine X.thenX ?_
     refine X.blockX ?_
     refine X.thenN ?_
     refine Y.lit (by kernel_rfl) ?_
     refine Y.pv F (X.move rfl (F.ev 9 (Vi j))) ?_;clear F ac;intro ac F
     refine Y.pv F (X.binop rfl (F.ev 47 (Vi j)) (X.kc (Vi 1) rfl) (X.addI Try.underlying3 rfl (by omega) (by omega))) ?_;clear F ac;intro ac F
     refine Y.pv F (X.assign rfl (F.ev 48 (Vi ((j : Int) + 1)))) ?_;clear F ac;intro ac F
     refine Y.nil ?_
     replace F : Fr ac 109 [(1, .slice a xs.length c), (2, Vp w.heap.size), (5, Vi ((sumZ (priceI p xs) p.nh : Int) + sumZ (talkI p xs) j)), (9, Vi ((j : Int) + 1))] := F.sub _
     refine X.thenN ?_
     refine ⟨_, ?_, j + 1, rfl, hO1, by omega, (by rw [talk_0 (by omega)]; exact F.sub _)⟩
     omega
   | true =>
    try rw [h14] at F
    have h14p : ((xs.length : Int) ≤ (p.lv j 0)) := of_decide_eq_true h14
    refine Y.region F [some (Vp w9.heap.size), some (Vi (p.lv j 0)), some (.slice a xs.length c), some (Vi xs.length), some (.bool true), some (.bool true), none, none, none, none, none, some (.bool true), some (.bool true), none, none, none, none, none, none, none, none, none, none, none, some (.bool true)] [] rfl ⟨by kernel_rfl, of_decide_eq_true (by kernel_rfl), by kernel_rfl, by kernel_rfl, by kernel_rfl⟩ ⟨?_, ?_, ?_, ?_, ?_, ?_, ?_, ?_, ?_, ?_, ?_, ?_, ?_, ?_, ?_, ?_, ?_, ?_, ?_, ?_, ?_, ?_, ?_, ?_, ?_, trivial⟩ ?_
    ·intro ac done u W Sx hR
     exact X.vl (X.field rfl (Sx.ev 10 (Vp w9.heap.size)) (X.fld Try.underlying84 rfl (Try.siz3 _) rfl rfl)) hR.st0
    ·intro ac done u W Sx hR
     have g : Gr w13 W := hR.1
     exact X.vl (X.load rfl (Sx.ev 54 (Vp w9.heap.size)) (X.ld1 (Try.agg3 _) ((hC.gr g).at 7 rfl))) hR.st0
    ·intro ac done u W Sx hR
     exact X.vl (X.move rfl (Sx.ev 1 (.slice a xs.length c))) hR.st0
    ·intro ac done u W Sx hR
     exact X.vl (X.len1 Try.underlying34 rfl (Sx.ev 56 (.slice a xs.length c))) hR.st0
    ·intro ac done u W Sx hR
     exact X.vl (X.binop rfl (Sx.ev 55 (Vi (p.lv j 0))) (Sx.ev 57 (Vi xs.length)) (X.geqI Try.underlying3 h14)) hR.st0
    ·intro ac done u W Sx hR
     exact X.vl (X.move rfl (Sx.ev 58 (.bool true))) hR.st0
    ·intro ac done u W Sx hR
     exact X.skip (X.w2 rfl (Sx.yl 5 59 true (by kernel_rfl) rfl rfl) rfl) rfl (hR.skip rfl)
    ·intro ac done u W Sx hR
     exact X.skip (X.w2 rfl (Sx.yl 5 59 true (by kernel_rfl) rfl rfl) rfl) rfl (hR.skip rfl)
    ·intro ac done u W Sx hR
     exact X.skip (X.w2 rfl (Sx.yl 5 59 true (by kernel_rfl) rfl rfl) rfl) rfl (hR.skip rfl)
    ·intro ac done u W Sx hR
     exact X.skip (X.w2 rfl (Sx.yl 5 59 true (by kernel_rfl) rfl rfl) rfl) rfl (hR.skip rfl)
    ·intro ac done u W Sx hR
     exact X.skip (X.w2 rfl (Sx.yl 5 59 true (by kernel_rfl) rfl rfl) rfl) rfl (hR.skip rfl)
    ·intro ac done u W Sx hR
     exact X.vl (X.pickT rfl (Sx.ev 59 (.bool true)) (X.kc (.bool true) rfl)) hR.st0
    ·intro ac done u W Sx hR
     exact X.vl (X.move rfl (Sx.ev 65 (.bool true))) hR.st0
    ·intro ac done u W Sx hR
     exact X.skip (X.w2 rfl (Sx.yl 12 66 true (by kernel_rfl) rfl rfl) rfl) rfl (hR.skip rfl)
    ·intro ac done u W Sx hR
     exact X.skip (X.w2 rfl (Sx.yl 12 66 true (by kernel_rfl) rfl rfl) rfl) rfl (hR.skip rfl)
    ·intro ac done u W Sx hR
     exact X.skip (X.w2 rfl (Sx.yl 12 66 true (by kernel_rfl) rfl rfl) rfl) rfl (hR.skip rfl)
    ·intro ac done u W Sx hR
     exact X.skip (X.w2 rfl (Sx.yl 12 66 true (by kernel_rfl) rfl rfl) rfl) rfl (hR.skip rfl)
    ·intro ac done u W Sx hR
     exact X.skip (X.w2 rfl (Sx.yl 12 66 true (by kernel_rfl) rfl rfl) rfl) rfl (hR.skip rfl)
    ·intro ac done u W Sx hR
     exact X.skip (X.w2 rfl (Sx.yl 12 66 true (by kernel_rfl) rfl rfl) rfl) rfl (hR.skip rfl)
    ·intro ac done u W Sx hR
     exact X.skip (X.w2 rfl (Sx.yl 12 66 true (by kernel_rfl) rfl rfl) rfl) rfl (hR.skip rfl)
    ·intro ac done u W Sx hR
     exact X.skip (X.w2 rfl (Sx.yl 12 66 true (by kernel_rfl) rfl rfl) rfl) rfl (hR.skip rfl)
    ·intro ac done u W Sx hR
     exact X.skip (X.w2 rfl (Sx.yl 12 66 true (by kernel_rfl) rfl rfl) rfl) rfl (hR.skip rfl)
    ·intro ac done u W Sx hR
     exact X.skip (X.w2 rfl (Sx.yl 12 66 true (by kernel_rfl) rfl rfl) rfl) rfl (hR.skip rfl)
    ·intro ac done u W Sx hR
     exact X.skip (X.w2 rfl (Sx.yl 12 66 true (by kernel_rfl) rfl rfl) rfl) rfl (hR.skip rfl)
    ·intro ac done u W Sx hR
     exact X.vl (X.pickT rfl (Sx.ev 66 (.bool true)) (X.kc (.bool true) rfl)) hR.st0
    intro ac u w25 hs hd hl ho hR
    have g : Gr w13 w25 := hR.1
    replace F : Fr ac 109 [(1, .slice a xs.length c), (2, Vp w.heap.size), (5, Vi ((sumZ (priceI p xs) p.nh : Int) + sumZ (talkI p xs) j)), (9, Vi j), (10, Vp w9.heap.size), (78, .bool true)] := X.fr hs hd hl _ (by kernel_rfl)
    clear hs hd hl ho hR
    replace G := G.trans g
    replace hC := hC.gr g
    replace hO1 := hO1.thenGr g
    replace hpt := hpt.gr g
    replace hph := hph.gr g
    replace hpb := hpb.gr g
    replace hpl := hpl.gr g
    replace hxs := hxs.gr g
    clear g
    refine X.thenN ?_
    refine Y.condT (F.ev 78 (.bool true)) ?_
    refine Y.exit ?_
    refine X.thenX ?_
    refine X.blockX ?_
    refine X.thenN ?_
    refine Y.lit (by kernel_rfl) ?_
    refine Y.pv F (X.move rfl (F.ev 9 (Vi j))) ?_;clear F ac;intro ac F
    refine Y.pv F (X.binop rfl (F.ev 47 (Vi j)) (X.kc (Vi 1) rfl) (X.addI Try.underlying3 rfl (by omega) (by omega))) ?_;clear F ac;intro ac F
    refine Y.pv F (X.assign rfl (F.ev 48 (Vi ((j : Int) + 1)))) ?_;clear F ac;intro ac F
    refine Y.nil ?_
    replace F : Fr ac 109 [(1, .slice a xs.length c), (2, Vp w.heap.size), (5, Vi ((sumZ (priceI p xs) p.nh : Int) + sumZ (talkI p xs) j)), (9, Vi ((j : Int) + 1))] := F.sub _
    refine X.thenN ?_
    refine ⟨_, ?_, j + 1, rfl, hO1, by omega, (by rw [talk_0 (by omega)]; exact F.sub _)⟩
    omega
 | true =>
  try rw [h8] at F
  have h8p : ((i : Int) < p.nh) := of_decide_eq_true h8
  have hi : i < p.nh := by omega
  have hsb := priceI_bd hp (xs := xs) hi0
  have hpr := hp.hp i hi
  refine Y.condT (F.ev 15 (.bool true)) ?_
  refine Y.skip ?_
  refine X.thenN ?_
  refine Y.seq ?_
  refine Y.block ?_
  refine Y.seq ?_
  refine Y.lit (by kernel_rfl) ?_
  refine Y.pv F (X.assign rfl (X.kc (.bool false) rfl)) ?_;clear F ac;intro ac F
  refine Y.nil ?_
  replace F : Fr ac 109 [(1, .slice a xs.length c), (2, Vp w.heap.size), (5, Vi (sumZ (priceI p xs) i)), (6, Vi i), (7, .bool false)] := F.sub _
  refine X.thenN ?_
  refine Y.seq ?_
  refine Y.seq ?_
  refine Y.lit (by kernel_rfl) ?_
  refine Y.pv F (X.assign rfl (X.kc (Vi 0) rfl)) ?_;clear F ac;intro ac F
  refine Y.nil ?_
  replace F : Fr ac 109 [(1, .slice a xs.length c), (2, Vp w.heap.size), (5, Vi (sumZ (priceI p xs) i)), (6, Vi i), (7, .bool false), (8, Vi 0)] := F.sub _
  refine X.thenN ?_
  refine Y.block ?_
  refine Y.loop (fun me_ ac wr => ∃ (k : Nat), me_ = xs.length - k ∧ Only (fun b => False) w7 wr ∧ k ≤ xs.length ∧ Fr ac 109 [(1, .slice a xs.length c), (2, Vp w.heap.size), (5, Vi (sumZ (priceI p xs) i)), (6, Vi i), (7, .bool (usedN xs i k)), (8, Vi k)]) _ ⟨0, rfl, Only.refl _ _, Nat.zero_le _, F.sub _⟩ ?_
  have hptB2 := hpt
  have hphB2 := hph
  have hpbB2 := hpb
  have hplB2 := hpl
  have hxsB2 := hxs
  have GB2 := G
  have hCB2 := hC
  clear F ac
  intro me_ ac w26 hI
  obtain ⟨k, rfl, hO2, hk0, F⟩ := hI
  replace G := GB2.trans (hO2.gr (fun _ _ h => h))
  replace hpt := (hP.t).gr G
  replace hph := (hP.h).gr G
  replace hpb := (hP.b).gr G
  replace hpl := (hP.l).gr G
  replace hxs := (hX).gr G
  replace hC := (RCells.cons (hO2.cell (hCB2.at 0 rfl) (fun h => h)) (RCells.cons (hO2.cell (hCB2.at 1 rfl) (fun h => h)) (RCells.cons (hO2.cell (hCB2.at 2 rfl) (fun h => h)) (RCells.cons (hO2.cell (hCB2.at 3 rfl) (fun h => h)) (RCells.nil _)))))
  replace hO1 := hO1.step2 hO2 (fun r e => False.elim e)
  refine Y.seq ?_
  refine Y.seq ?_
  refine Y.lit (by kernel_rfl) ?_
  refine Y.pv F (X.move rfl (F.ev 8 (Vi k))) ?_;clear F ac;intro ac F
  refine Y.pv F (X.move rfl (F.ev 1 (.slice a xs.length c))) ?_;clear F ac;intro ac F
  refine Y.pv F (X.len1 Try.underlying34 rfl (F.ev 19 (.slice a xs.length c))) ?_;clear F ac;intro ac F
  refine Y.pv F (X.binop rfl (F.ev 18 (Vi k)) (F.ev 20 (Vi xs.length)) (X.lssI Try.underlying3 rfl)) ?_;clear F ac;intro ac F
  refine Y.nil ?_
  replace F : Fr ac 109 [(1, .slice a xs.length c), (2, Vp w.heap.size), (5, Vi (sumZ (priceI p xs) i)), (6, Vi i), (7, .bool (usedN xs i k)), (8, Vi k), (21, .bool (decide ((k : Int) < xs.length)))] := F.sub _
  refine X.thenN ?_
  cases h27 : decide ((k : Int) < xs.length) with
  | false =>
   try rw [h27] at F
   have h27p : ¬ ((k : Int) < xs.length) := of_decide_eq_false h27
   obtain rfl : k = xs.length := by omega
   refine Y.condF (F.ev 21 (.bool false)) ?_
   refine Y.exit ?_
   refine X.thenX ?_
   refine X.thenX ?_
   refine X.blockX ?_
   refine X.thenN ?_
   refine Y.seq ?_
   refine Y.lit (by kernel_rfl) ?_
   refine Y.pv F (X.move rfl (F.ev 7 (.bool (usedN xs i xs.length)))) ?_;clear F ac;intro ac F
   refine Y.nil ?_
   replace F : Fr ac 109 [(1, .slice a xs.length c), (2, Vp w.heap.size), (5, Vi (sumZ (priceI p xs) i)), (6, Vi i), (33, .bool (usedN xs i xs.length))] := F.sub _
   refine X.thenN ?_
   cases h28 : usedN xs i xs.length with
   | false =>
    try rw [h28] at F
    refine Y.condF (F.ev 33 (.bool false)) ?_
    refine Y.skip ?_
    refine X.blockN ?_
    refine X.thenN ?_
    refine Y.lit (by kernel_rfl) ?_
    refine Y.pv F (X.move rfl (F.ev 6 (Vi i))) ?_;clear F ac;intro ac F
    refine Y.pv F (X.binop rfl (F.ev 16 (Vi i)) (X.kc (Vi 1) rfl) (X.addI Try.underlying3 rfl (by omega) (by omega))) ?_;clear F ac;intro ac F
    refine Y.pv F (X.assign rfl (F.ev 17 (Vi ((i : Int) + 1)))) ?_;clear F ac;intro ac F
    refine Y.nil ?_
    replace F : Fr ac 109 [(1, .slice a xs.length c), (2, Vp w.heap.size), (5, Vi (sumZ (priceI p xs) i)), (6, Vi ((i : Int) + 1))] := F.sub _
    refine X.thenN ?_
    refine ⟨_, ?_, i + 1, rfl, hO1, by omega, (by rw [price2_0 h28]; exact F.sub _)⟩
    omega
   | true =>
    try rw [h28] at F
    refine Y.condT (F.ev 33 (.bool true)) ?_
    refine Y.lit (by kernel_rfl) ?_
    refine Y.pv F (X.move rfl (F.ev 5 (Vi (sumZ (priceI p xs) i)))) ?_;clear F ac;intro ac F
    refine Y.pv F (X.field rfl (F.ev 2 (Vp w.heap.size)) (X.fld Try.underlying27 rfl (Try.siz23 _) rfl rfl)) ?_;clear F ac;intro ac F
    refine Y.pv F (X.load rfl (F.ev 35 (.pointer (some ⟨w.heap.size, 1, none⟩))) (X.ld1 (Try.agg23 _) (hC.at 1 rfl))) ?_;clear F ac;intro ac F
    refine Y.pv F (X.move rfl (F.ev 6 (Vi i))) ?_;clear F ac;intro ac F
    obtain ⟨pd29, pe29, -, pc29⟩ := hph.at (j := i) (by omega)
    subst pe29
    replace hC : RCells w26 [(Ad w.heap.size 0, .slice ta p.nt tc), (Ad w.heap.size 1, .slice (some pd29) p.nh hc), (Ad w.heap.size 2, .slice ba p.nb bc), (Ad w.heap.size 3, .slice la p.nl lc), (pd29.add (i * 6), .string (p.hn i)), (⟨(pd29.add (i * 6)).block, (pd29.add (i * 6)).off + 1, none⟩, Vi (p.hv i 1)), (⟨(pd29.add (i * 6)).block, (pd29.add (i * 6)).off + 2, none⟩, Vi (p.hv i 2)), (⟨(pd29.add (i * 6)).block, (pd29.add (i * 6)).off + 3, none⟩, Vi (p.hv i 3)), (⟨(pd29.add (i * 6)).block, (pd29.add (i * 6)).off + 4, none⟩, Vi (p.hv i 4)), (⟨(pd29.add (i * 6)).block, (pd29.add (i * 6)).off + 5, none⟩, Vi (p.hv i 5))] := hC.append ((RCells.cons (pc29 0 (by decide)) (RCells.cons (pc29 1 (by decide)) (RCells.cons (pc29 2 (by decide)) (RCells.cons (pc29 3 (by decide)) (RCells.cons (pc29 4 (by decide)) (RCells.cons (pc29 5 (by decide)) (RCells.nil _))))))))
    clear pc29
    refine Y.pv F (X.index rfl (F.ev 36 (.slice (some pd29) p.nh hc)) (F.ev 37 (Vi i)) (X.idx (k := i) Try.underlying23 (Try.siz53 _) (by omega) (by omega) rfl)) ?_;clear F ac;intro ac F
    refine Y.pv F (X.field rfl (F.ev 38 (.pointer (some (pd29.add (i * 6))))) (X.fld Try.underlying53 rfl (Try.siz3 _) rfl rfl)) ?_;clear F ac;intro ac F
    refine Y.pv F (X.load rfl (F.ev 39 (.pointer (some (⟨(pd29.add (i * 6)).block, (pd29.add (i * 6)).off + 5, none⟩)))) (X.ld1 (Try.agg3 _) (hC.at 9 rfl))) ?_;clear F ac;intro ac F
    refine Y.pv F (X.binop rfl (F.ev 34 (Vi (sumZ (priceI p xs) i))) (F.ev 40 (Vi (p.hv i 5))) (X.addI Try.underlying3 rfl (by omega) (by omega))) ?_;clear F ac;intro ac F
    refine Y.pv F (X.assign rfl (F.ev 41 (Vi ((sumZ (priceI p xs) i : Int) + (p.hv i 5))))) ?_;clear F ac;intro ac F
    refine Y.nil ?_
    replace F : Fr ac 109 [(1, .slice a xs.length c), (2, Vp w.heap.size), (5, Vi ((sumZ (priceI p xs) i : Int) + (p.hv i 5))), (6, Vi i)] := F.sub _
    refine X.blockN ?_
    refine X.thenN ?_
    refine Y.lit (by kernel_rfl) ?_
    refine Y.pv F (X.move rfl (F.ev 6 (Vi i))) ?_;clear F ac;intro ac F
    refine Y.pv F (X.binop rfl (F.ev 16 (Vi i)) (X.kc (Vi 1) rfl) (X.addI Try.underlying3 rfl (by omega) (by omega))) ?_;clear F ac;intro ac F
    refine Y.pv F (X.assign rfl (F.ev 17 (Vi ((i : Int) + 1)))) ?_;clear F ac;intro ac F
    refine Y.nil ?_
    replace F : Fr ac 109 [(1, .slice a xs.length c), (2, Vp w.heap.size), (5, Vi ((sumZ (priceI p xs) i : Int) + (p.hv i 5))), (6, Vi ((i : Int) + 1))] := F.sub _
    refine X.thenN ?_
    refine ⟨_, ?_, i + 1, rfl, hO1, by omega, (by rw [price2_1 h28]; exact F.sub _)⟩
    omega
  | true =>
   try rw [h27] at F
   have h27p : ((k : Int) < xs.length) := of_decide_eq_true h27
   have hk : k < xs.length := by omega
   refine Y.condT (F.ev 21 (.bool true)) ?_
   refine Y.skip ?_
   refine X.thenN ?_
   refine Y.seq ?_
   refine Y.block ?_
   refine Y.lit (by kernel_rfl) ?_
   refine Y.pv F (X.move rfl (F.ev 7 (.bool (usedN xs i k)))) ?_;clear F ac;intro ac F
   refine Y.pv F (X.move rfl (F.ev 24 (.bool (usedN xs i k)))) ?_;clear F ac;intro ac F
   cases h30 : usedN xs i k with
   | false =>
    try rw [h30] at F
    refine Y.pval F (X.w1 rfl (F.yl (j := 1) (d := 25) (b := false) rfl (by kernel_rfl))) rfl (X.move rfl (F.ev 1 (.slice a xs.length c))) ?_;clear F ac;intro ac F
    refine Y.pval F (X.w1 rfl (F.yl (j := 1) (d := 25) (b := false) rfl (by kernel_rfl))) rfl (X.move rfl (F.ev 8 (Vi k))) ?_;clear F ac;intro ac F
    obtain ⟨pd31, pe31, -, pc31⟩ := hxs.at (j := k) (by omega)
    subst pe31
    replace hC : RCells w26 [(Ad w.heap.size 0, .slice ta p.nt tc), (Ad w.heap.size 1, .slice ha p.nh hc), (Ad w.heap.size 2, .slice ba p.nb bc), (Ad w.heap.size 3, .slice la p.nl lc), (pd31.add k, Vi (xs[k]?.getD 0))] := hC.append ((RCells.cons pc31 (RCells.nil _)))
    clear pc31
    refine Y.pval F (X.w1 rfl (F.yl (j := 1) (d := 25) (b := false) rfl (by kernel_rfl))) rfl (X.index rfl (F.ev 26 (.slice (some pd31) xs.length c)) (F.ev 27 (Vi k)) (X.idx (k := k) Try.underlying34 (Try.siz3 _) (by omega) (by omega) (by rw [Nat.mul_one]))) ?_;clear F ac;intro ac F
    refine Y.pval F (X.w1 rfl (F.yl (j := 1) (d := 25) (b := false) rfl (by kernel_rfl))) rfl (X.load rfl (F.ev 28 (.pointer (some (pd31.add k)))) (X.ld1 (Try.agg3 _) (hC.at 4 rfl))) ?_;clear F ac;intro ac F
    refine Y.pval F (X.w1 rfl (F.yl (j := 1) (d := 25) (b := false) rfl (by kernel_rfl))) rfl (X.move rfl (F.ev 6 (Vi i))) ?_;clear F ac;intro ac F
    refine Y.pval F (X.w1 rfl (F.yl (j := 1) (d := 25) (b := false) rfl (by kernel_rfl))) rfl (X.binop rfl (F.ev 29 (Vi (xs[k]?.getD 0))) (F.ev 30 (Vi i)) (X.eqlI Try.underlying3 rfl)) ?_;clear F ac;intro ac F
    refine Y.pv F (X.pickF rfl (F.ev 25 (.bool false)) (F.ev 31 (.bool ((xs[k]?.getD 0 : Int) == i)))) ?_;clear F ac;intro ac F
    refine Y.pv F (X.assign rfl (F.ev 32 (.bool ((xs[k]?.getD 0 : Int) == i)))) ?_;clear F ac;intro ac F
    refine Y.nil ?_
    replace F : Fr ac 109 [(1, .slice (some pd31) xs.length c), (2, Vp w.heap.size), (5, Vi (sumZ (priceI p xs) i)), (6, Vi i), (7, .bool ((xs[k]?.getD 0 : Int) == i)), (8, Vi k)] := F.sub _
    refine X.blockN ?_
    refine X.thenN ?_
    refine Y.lit (by kernel_rfl) ?_
    refine Y.pv F (X.move rfl (F.ev 8 (Vi k))) ?_;clear F ac;intro ac F
    refine Y.pv F (X.binop rfl (F.ev 22 (Vi k)) (X.kc (Vi 1) rfl) (X.addI Try.underlying3 rfl (by omega) (by omega))) ?_;clear F ac;intro ac F
    refine Y.pv F (X.assign rfl (F.ev 23 (Vi ((k : Int) + 1)))) ?_;clear F ac;intro ac F
    refine Y.nil ?_
    replace F : Fr ac 109 [(1, .slice (some pd31) xs.length c), (2, Vp w.heap.size), (5, Vi (sumZ (priceI p xs) i)), (6, Vi i), (7, .bool ((xs[k]?.getD 0 : Int) == i)), (8, Vi ((k : Int) + 1))] := F.sub _
    refine X.thenN ?_
    refine ⟨_, ?_, k + 1, rfl, hO2, by omega, (by rw [used_f h30]; exact F.sub _)⟩
    omega
   | true =>
    try rw [h30] at F
    refine Y.pskip F (X.w2 rfl (F.yl (j := 1) (d := 25) (b := true) rfl (by kernel_rfl)) rfl) rfl ?_;clear F ac;intro ac F
    refine Y.pskip F (X.w2 rfl (F.yl (j := 1) (d := 25) (b := true) rfl (by kernel_rfl)) rfl) rfl ?_;clear F ac;intro ac F
    refine Y.pskip F (X.w2 rfl (F.yl (j := 1) (d := 25) (b := true) rfl (by kernel_rfl)) rfl) rfl ?_;clear F ac;intro ac F
    refine Y.pskip F (X.w2 rfl (F.yl (j := 1) (d := 25) (b := true) rfl (by kernel_rfl)) rfl) rfl ?_;clear F ac;intro ac F
    refine Y.pskip F (X.w2 rfl (F.yl (j := 1) (d := 25) (b := true) rfl (by kernel_rfl)) rfl) rfl ?_;clear F ac;intro ac F
    refine Y.pskip F (X.w2 rfl (F.yl (j := 1) (d := 25) (b := true) rfl (by kernel_rfl)) rfl) rfl ?_;clear F ac;intro ac F
    refine Y.pv F (X.pickT rfl (F.ev 25 (.bool true)) (X.kc (.bool true) rfl)) ?_;clear F ac;intro ac F
    refine Y.pv F (X.assign rfl (F.ev 32 (.bool true))) ?_;clear F ac;intro ac F
    refine Y.nil ?_
    replace F : Fr ac 109 [(1, .slice a xs.length c), (2, Vp w.heap.size), (5, Vi (sumZ (priceI p xs) i)), (6, Vi i), (7, .bool true), (8, Vi k)] := F.sub _
    refine X.blockN ?_
    refine X.thenN ?_
    refine Y.lit (by kernel_rfl) ?_
    refine Y.pv F (X.move rfl (F.ev 8 (Vi k))) ?_;clear F ac;intro ac F
    refine Y.pv F (X.binop rfl (F.ev 22 (Vi k)) (X.kc (Vi 1) rfl) (X.addI Try.underlying3 rfl (by omega) (by omega))) ?_;clear F ac;intro ac F
    refine Y.pv F (X.assign rfl (F.ev 23 (Vi ((k : Int) + 1)))) ?_;clear F ac;intro ac F
    refine Y.nil ?_
    replace F : Fr ac 109 [(1, .slice a xs.length c), (2, Vp w.heap.size), (5, Vi (sumZ (priceI p xs) i)), (6, Vi i), (7, .bool true), (8, Vi ((k : Int) + 1))] := F.sub _
    refine X.thenN ?_
    refine ⟨_, ?_, k + 1, rfl, hO2, by omega, (by rw [used_t h30]; exact F.sub _)⟩
    omega
end Go.Proofs.Ytodedneanlekdaa
