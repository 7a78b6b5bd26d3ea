/- Several texts of this claim in one file. (1) Contracts: the reference's kept, hopeless and bound. (2) Contract: the search from a beginning on. -/
import Derived.Test.YtodedneanlekdaaBd7
import Derived.Test.YtodedneanlekdaaBd3
namespace Go.Proofs.Ytodedneanlekdaa
set_option linter.unusedSimpArgs false
set_option linter.unusedVariables false
section
open Go.RowKit

theorem X.mulI {P : Program} {W : World} {t : TypeId} (_hu : P.underlying t = some (.int .i64)) {x y : Operand} {p q z : Int} (hz : p * q = z) (h0 : -9223372036854775808 ≤ z) (h1 : z ≤ 9223372036854775807) : (do eqGuard .mul t x y (.int .i64 p) (.int .i64 q); binOp .mul t (.int .i64 p) (.int .i64 q) : Sem Value).run P W = .ok (.int .i64 z) W := by
  subst hz; simp [eqGuard, binOp, go_sem, IntWalk.i64_in _ ⟨h0, h1⟩]
theorem onS_eq {g : Nat → Int} {xs : List Int} {h : Int} {k : Nat} (e : xs[k]?.getD 0 = h) : onS g xs h (k + 1) = onS g xs h k + g k := by
  simp only [onS]; rw [if_pos (show xg xs k = h from e)]
theorem onS_ne {g : Nat → Int} {xs : List Int} {h : Int} {k : Nat} (e : ¬ xs[k]?.getD 0 = h) : onS g xs h (k + 1) = onS g xs h k := by
  simp only [onS]; rw [if_neg (show ¬ xg xs k = h from e), Int.add_zero]
theorem prod8 {a b : Int} (h0 : 0 ≤ a ∧ a ≤ 200000000) (h1 : 0 ≤ b ∧ b ≤ 100001) : 0 ≤ a * b ∧ a * b ≤ 20000200000000 := by
  refine ⟨Int.mul_nonneg h0.1 h1.1, ?_⟩
  have := Int.mul_le_mul h0.2 h1.2 h1.1 (by decide)
  omega
theorem hund_bd {p : Pb} (hp : PbOk p) {n : Int} (hn : 0 ≤ n ∧ n ≤ 100001) {i : Nat} (hi : i < p.nt) : 0 ≤ hund p n i ∧ hund p n i ≤ 200002000001 := by
  have := prod8 (hp.tt i hi) hn
  unfold hund; omega
/-- whether a task that is on a host may be there -/
def levR (p : Pb) (xs : List Int) (h : Nat) (j : Nat) : Bool := !decide (xs[j]?.getD 0 = (h : Int)) || decide (p.tv j 3 ≤ p.hv h 3)
def fitR (p : Pb) (n : Int) (xs : List Int) (h : Nat) : Bool := fitB p (hund p n) xs h && allN (levR p xs h) xs.length
theorem levR_ok {p : Pb} {xs : List Int} {h j : Nat} (e : ¬ xs[j]?.getD 0 = (h : Int) ∨ p.tv j 3 ≤ p.hv h 3) : levR p xs h j = true := by
  unfold levR; rcases e with e | e <;> simp [e]
theorem hopR_lev {p : Pb} {n : Int} {xs : List Int} {i k : Nat} (hk : k < xs.length) (e : xs[k]?.getD 0 = (i : Int)) (h : ¬ p.tv k 3 ≤ p.hv i 3) : hopeB p (hund p n) xs = true := by
  have h2 : lvlB p xs k = false := by
    unfold lvlB; rw [show xg xs k = (i : Int) from e]; simpa using h
  unfold hopeB; rw [allN_false hk h2, Bool.and_false]; rfl
theorem hopR_fit {p : Pb} {n : Int} {xs : List Int} {i : Nat} (hi : i < p.nh) (h : ¬ (onS (fun j => p.tv j 1) xs i xs.length ≤ p.hv i 1 ∧ onS (hund p n) xs i xs.length ≤ p.hv i 2)) : hopeB p (hund p n) xs = true := by
  have h2 : fitB p (hund p n) xs i = false := by
    unfold fitB
    by_cases h1 : onS (fun j => p.tv j 1) xs i xs.length ≤ p.hv i 1
    · rw [decide_eq_false (fun h2 => h ⟨h1, h2⟩), Bool.and_false]
    · rw [decide_eq_false h1, Bool.false_and]
  unfold hopeB; rw [allN_false hi h2]; rfl
theorem fitR_ok {p : Pb} {n : Int} {xs : List Int} {i : Nat} (h1 : onS (fun j => p.tv j 1) xs i xs.length ≤ p.hv i 1) (h2 : onS (hund p n) xs i xs.length ≤ p.hv i 2) (h3 : allN (levR p xs i) xs.length = true) : fitR p n xs i = true := by
  unfold fitR fitB; rw [decide_eq_true h1, decide_eq_true h2, h3]; rfl
theorem hopR_kept {p : Pb} {n : Int} {xs : List Int} {j : Nat} (hj : j < p.nb) (h : keptB p xs j = false) : hopeB p (hund p n) xs = true := by
  unfold hopeB; rw [allN_false hj h, Bool.and_false]; rfl
theorem hopR_no {p : Pb} {n : Int} {xs : List Int} (hx : HosOk p xs) (h1 : allN (fitR p n xs) p.nh = true) (h2 : allN (keptB p xs) p.nb = true) : hopeB p (hund p n) xs = false := by
  have e1 : allN (fitB p (hund p n) xs) p.nh = true := allN_iff.2 fun i hi => by
    have := allN_iff.1 h1 i hi
    unfold fitR at this
    rw [Bool.and_eq_true] at this
    exact this.1
  have e2 : allN (lvlB p xs) xs.length = true := allN_iff.2 fun k hk => by
    have hh := hx k hk
    have := allN_iff.1 h1 (xg xs k).toNat (by omega)
    unfold fitR at this
    rw [Bool.and_eq_true] at this
    have h3 := allN_iff.1 this.2 k hk
    unfold levR at h3
    have h4 : xs[k]?.getD 0 = (((xg xs k).toNat : Nat) : Int) := by show xg xs k = _; omega
    rw [decide_eq_true h4] at h3
    exact h3
  unfold hopeB; rw [e1, e2, h2]; rfl
set_option maxRecDepth 100000 in
set_option maxHeartbeats 2000000 in
theorem kept2_any (p : Pb) (ta ha ba la : Option Addr) (tc hc bc lc : Nat) (a : Option Addr) (c : Nat) (xs : List Int) (w : World) (hP : PbAt w p ta ha ba la tc hc bc lc) (hX : Ints w a xs.length xs) (hp : PbOk p) (hx : HosOk p xs) (j : Nat) (hj : j < p.nb) :
  Calls Try.prog 108 #[.agg #[.slice ta p.nt tc, .slice ha p.nh hc, .slice ba p.nb bc, .slice la p.nl lc], .agg #[Vi (p.bv j 0), Vi (p.bv j 1), Vi (p.bv j 2)], .slice a xs.length c] w fun e w' => e = .returned (.bool (keptB p xs j)) ∧ Gr w w' := by
 have G := Gr.refl w
 have hpt := hP.t
 have hph := hP.h
 have hpb := hP.b
 have hpl := hP.l
 have hplen := hP.len
 obtain ⟨hn1, hn2, hn3, hn4⟩ := hplen
 have hcp1 := hpt.cap
 have hcp2 := hph.cap
 have hcp3 := hpb.cap
 have hcp4 := hpl.cap
 have hxs := hX
 have hlt := hxs.lt
 have hba := hp.ba j hj
 have hbk := hp.bk j hj
 have hbt := hp.bt j hj
 have hbh := hp.bh j hj
 refine Y.calls 76 Try.func108 rfl rfl ?_
 intro ac F0
 have F : Fr ac 76 [(0, .agg #[.slice ta p.nt tc, .slice ha p.nh hc, .slice ba p.nb bc, .slice la p.nl lc]), (1, .agg #[Vi (p.bv j 0), Vi (p.bv j 1), Vi (p.bv j 2)]), (2, .slice a xs.length c)] := F0.sub _
 clear F0
 refine Y.sl ?_
 refine Y.pv F (X.box rfl (F.ev 0 (.agg #[.slice ta p.nt tc, .slice ha p.nh hc, .slice ba p.nb bc, .slice la p.nl lc])) X.bx) ?_;clear F ac;intro ac F
 obtain ⟨w3, hw_, g, hb, hbl, hC2⟩ := Y.bxd (RCells.nil w) #[.slice ta p.nt tc, .slice ha p.nh hc, .slice ba p.nb bc, .slice la p.nl lc] 27;rw [hw_];clear hw_
 replace G := G.trans g
 have hC := hC2
 clear hC2
 replace hpt := hpt.gr g
 replace hph := hph.gr g
 replace hpb := hpb.gr g
 replace hpl := hpl.gr g
 replace hxs := hxs.gr g
 clear g hb hbl
 refine Y.pv F (X.box rfl (F.ev 1 (.agg #[Vi (p.bv j 0), Vi (p.bv j 1), Vi (p.bv j 2)])) X.bx) ?_;clear F ac;intro ac F
 obtain ⟨w4, hw_, g, hb, hbl, hC2⟩ := Y.bxd hC #[Vi (p.bv j 0), Vi (p.bv j 1), Vi (p.bv j 2)] 65;rw [hw_];clear hw_
 replace G := G.trans g
 replace hC := hC2
 clear hC2
 replace hpt := hpt.gr g
 replace hph := hph.gr g
 replace hpb := hpb.gr g
 replace hpl := hpl.gr g
 replace hxs := hxs.gr g
 clear g hb hbl
 refine Y.pv F (X.assign rfl (X.kc (.bool false) rfl)) ?_;clear F ac;intro ac F
 refine Y.nt F [(2, .slice a xs.length c), (3, Vp w.heap.size), (4, Vp w3.heap.size)] ?_;clear F ac;intro ac F
 refine Y.seq ?_
 refine Y.sg F [(2, .slice a xs.length c), (3, Vp w.heap.size), (4, Vp w3.heap.size), (13, .bool (decide ((xs.length : Int) ≤ (p.bv j 1))))] (by
  refine Y.pv F (X.field rfl (F.ev 4 (Vp w3.heap.size)) (X.fld Try.underlying65 rfl (Try.siz3 _) rfl rfl)) fun ac F=>?_
  refine Y.pv F (X.load rfl (F.ev 9 (.pointer (some ⟨w3.heap.size, 1, none⟩))) (X.ld1 (Try.agg3 _) (hC.at 5 rfl))) fun ac F=>?_
  refine Y.pv F (X.move rfl (F.ev 2 (.slice a xs.length c))) fun ac F=>?_
  refine Y.pv F (X.len1 Try.underlying34 rfl (F.ev 11 (.slice a xs.length c))) fun ac F=>?_
  refine Y.pv F (X.binop rfl (F.ev 10 (Vi (p.bv j 1))) (F.ev 12 (Vi xs.length)) (X.geqI Try.underlying3 rfl)) fun ac F=>?_
  exact Y.fin F) ?_;clear F ac;intro ac F
 cases h5 : decide ((xs.length : Int) ≤ (p.bv j 1)) with
 | false =>
  try rw [h5] at F
  have h5p : ¬ ((xs.length : Int) ≤ (p.bv j 1)) := of_decide_eq_false h5
  have hxa := hx (p.bv j 1).toNat (by omega)
  have hea : xs[(p.bv j 1).toNat]?.getD 0 = xg xs (p.bv j 1).toNat := rfl
  refine Y.condF (F.ev 13 (.bool false)) ?_
  refine Y.skip ?_
  refine X.thenN ?_
  refine Y.seq ?_
  refine Y.sg F [(2, .slice a xs.length c), (3, Vp w.heap.size), (4, Vp w3.heap.size), (16, .bool ((p.bv j 0 : Int) == 4))] (by
   refine Y.pv F (X.field rfl (F.ev 4 (Vp w3.heap.size)) (X.fld Try.underlying65 rfl (Try.siz3 _) rfl rfl)) fun ac F=>?_
   refine Y.pv F (X.load rfl (F.ev 14 (Vp w3.heap.size)) (X.ld1 (Try.agg3 _) (hC.at 4 rfl))) fun ac F=>?_
   refine Y.pv F (X.binop rfl (F.ev 15 (Vi (p.bv j 0))) (X.kc (Vi 4) rfl) (X.eqlI Try.underlying3 rfl)) fun ac F=>?_
   exact Y.fin F) ?_;clear F ac;intro ac F
  cases h6 : ((p.bv j 0 : Int) == 4) with
  | false =>
   try rw [h6] at F
   have h6p : ¬ (p.bv j 0 : Int) = 4 := by simpa using h6
   refine Y.condF (F.ev 16 (.bool false)) ?_
   refine Y.skip ?_
   refine X.thenN ?_
   refine Y.seq ?_
   refine Y.sg F [(2, .slice a xs.length c), (3, Vp w.heap.size), (4, Vp w3.heap.size), (27, .bool ((p.bv j 0 : Int) == 5))] (by
    refine Y.pv F (X.field rfl (F.ev 4 (Vp w3.heap.size)) (X.fld Try.underlying65 rfl (Try.siz3 _) rfl rfl)) fun ac F=>?_
    refine Y.pv F (X.load rfl (F.ev 25 (Vp w3.heap.size)) (X.ld1 (Try.agg3 _) (hC.at 4 rfl))) fun ac F=>?_
    refine Y.pv F (X.binop rfl (F.ev 26 (Vi (p.bv j 0))) (X.kc (Vi 5) rfl) (X.eqlI Try.underlying3 rfl)) fun ac F=>?_
    exact Y.fin F) ?_;clear F ac;intro ac F
   cases h7 : ((p.bv j 0 : Int) == 5) with
   | false =>
    try rw [h7] at F
    have h7p : ¬ (p.bv j 0 : Int) = 5 := by simpa using h7
    refine Y.condF (F.ev 27 (.bool false)) ?_
    refine Y.skip ?_
    refine X.thenN ?_
    refine Y.seq ?_
    refine Y.sg F [(2, .slice a xs.length c), (3, Vp w.heap.size), (4, Vp w3.heap.size), (40, .bool (decide ((xs.length : Int) ≤ (p.bv j 2))))] (by
     refine Y.pv F (X.field rfl (F.ev 4 (Vp w3.heap.size)) (X.fld Try.underlying65 rfl (Try.siz3 _) rfl rfl)) fun ac F=>?_
     refine Y.pv F (X.load rfl (F.ev 36 (.pointer (some ⟨w3.heap.size, 2, none⟩))) (X.ld1 (Try.agg3 _) (hC.at 6 rfl))) fun ac F=>?_
     refine Y.pv F (X.move rfl (F.ev 2 (.slice a xs.length c))) fun ac F=>?_
     refine Y.pv F (X.len1 Try.underlying34 rfl (F.ev 38 (.slice a xs.length c))) fun ac F=>?_
     refine Y.pv F (X.binop rfl (F.ev 37 (Vi (p.bv j 2))) (F.ev 39 (Vi xs.length)) (X.geqI Try.underlying3 rfl)) fun ac F=>?_
     exact Y.fin F) ?_;clear F ac;intro ac F
    cases h8 : decide ((xs.length : Int) ≤ (p.bv j 2)) with
    | false =>
     try rw [h8] at F
     have h8p : ¬ ((xs.length : Int) ≤ (p.bv j 2)) := of_decide_eq_false h8
     have hxb := hx (p.bv j 2).toNat (by omega)
     have heb : xs[(p.bv j 2).toNat]?.getD 0 = xg xs (p.bv j 2).toNat := rfl
     have hb0 : p.bv j 0 ≤ 3 := by have := hp.bk j hj; omega
     refine Y.condF (F.ev 40 (.bool false)) ?_
     refine Y.skip ?_
     refine X.thenN ?_
     refine Y.seq ?_
     obtain ⟨pd9, pe9, -, pc9⟩ := hxs.at (j := (p.bv j 1).toNat) (by omega)
     subst pe9
     replace hC := hC.append (show RCells w4 ([(pd9.add ((p.bv j 1).toNat), Vi (xs[(p.bv j 1).toNat]?.getD 0))]) from (RCells.cons pc9 (RCells.nil _)))
     clear pc9
     obtain ⟨pd10, pe10, -, pc10⟩ := hxs.at (j := (p.bv j 2).toNat) (by omega)
     injection pe10 with pe10
     subst pe10
     replace hC := hC.append (show RCells w4 ([(pd9.add ((p.bv j 2).toNat), Vi (xs[(p.bv j 2).toNat]?.getD 0))]) from (RCells.cons pc10 (RCells.nil _)))
     clear pc10
     refine Y.region F [some (.slice (some pd9) xs.length c), some (.pointer (some ⟨w3.heap.size, 1, none⟩)), some (Vi (p.bv j 1)), some (.pointer (some (pd9.add ((p.bv j 1).toNat)))), some (Vi (xs[(p.bv j 1).toNat]?.getD 0)), some (.slice (some pd9) xs.length c), some (.pointer (some ⟨w3.heap.size, 2, none⟩)), some (Vi (p.bv j 2)), some (.pointer (some (pd9.add ((p.bv j 2).toNat)))), some (Vi (xs[(p.bv j 2).toNat]?.getD 0)), some (Vi (xs[(p.bv j 1).toNat]?.getD 0)), some (Vi (xs[(p.bv j 2).toNat]?.getD 0))] [] rfl ⟨by kernel_rfl, of_decide_eq_true (by kernel_rfl), by kernel_rfl, by kernel_rfl, by kernel_rfl⟩ ⟨?_, ?_, ?_, ?_, ?_, ?_, ?_, ?_, ?_, ?_, ?_, ?_, trivial⟩ ?_
     ·intro ac done u W Sx hR
      exact X.vl (X.move rfl (Sx.ev 2 (.slice (some pd9) xs.length c))) hR.st0
     ·intro ac done u W Sx hR
      exact X.vl (X.field rfl (Sx.ev 4 (Vp w3.heap.size)) (X.fld Try.underlying65 rfl (Try.siz3 _) rfl rfl)) hR.st0
     ·intro ac done u W Sx hR
      have g : Gr w4 W := hR.1
      exact X.vl (X.load rfl (Sx.ev 42 (.pointer (some ⟨w3.heap.size, 1, none⟩))) (X.ld1 (Try.agg3 _) ((hC.gr g).at 5 rfl))) hR.st0
     ·intro ac done u W Sx hR
      exact X.val (X.w0 rfl) rfl (X.index rfl (Sx.ev 41 (.slice (some pd9) xs.length c)) (Sx.ev 43 (Vi (p.bv j 1))) (X.idx (k := (p.bv j 1).toNat) Try.underlying34 (Try.siz3 _) (by omega) (by omega) (by rw [Nat.mul_one]))) hR.st0
     ·intro ac done u W Sx hR
      have g : Gr w4 W := hR.1
      exact X.vl (X.load rfl (Sx.ev 44 (.pointer (some (pd9.add ((p.bv j 1).toNat))))) (X.ld1 (Try.agg3 _) ((hC.gr g).at 7 rfl))) hR.st0
     ·intro ac done u W Sx hR
      exact X.vl (X.move rfl (Sx.ev 2 (.slice (some pd9) xs.length c))) hR.st0
     ·intro ac done u W Sx hR
      exact X.vl (X.field rfl (Sx.ev 4 (Vp w3.heap.size)) (X.fld Try.underlying65 rfl (Try.siz3 _) rfl rfl)) hR.st0
     ·intro ac done u W Sx hR
      have g : Gr w4 W := hR.1
      exact X.vl (X.load rfl (Sx.ev 47 (.pointer (some ⟨w3.heap.size, 2, none⟩))) (X.ld1 (Try.agg3 _) ((hC.gr g).at 6 rfl))) hR.st0
     ·intro ac done u W Sx hR
      exact X.val (X.w0 rfl) rfl (X.index rfl (Sx.ev 46 (.slice (some pd9) xs.length c)) (Sx.ev 48 (Vi (p.bv j 2))) (X.idx (k := (p.bv j 2).toNat) Try.underlying34 (Try.siz3 _) (by omega) (by omega) (by rw [Nat.mul_one]))) hR.st0
     ·intro ac done u W Sx hR
      have g : Gr w4 W := hR.1
      exact X.vl (X.load rfl (Sx.ev 49 (.pointer (some (pd9.add ((p.bv j 2).toNat))))) (X.ld1 (Try.agg3 _) ((hC.gr g).at 8 rfl))) hR.st0
     ·intro ac done u W Sx hR
      exact X.vl (X.assign rfl (Sx.ev 45 (Vi (xs[(p.bv j 1).toNat]?.getD 0)))) hR.st0
     ·intro ac done u W Sx hR
      exact X.vl (X.assign rfl (Sx.ev 50 (Vi (xs[(p.bv j 2).toNat]?.getD 0)))) hR.st0
     intro ac u w11 hs hd hl ho hR
     have g : Gr w4 w11 := hR.1
     replace F : Fr ac 76 [(3, Vp w.heap.size), (4, Vp w3.heap.size), (7, Vi (xs[(p.bv j 1).toNat]?.getD 0)), (8, Vi (xs[(p.bv j 2).toNat]?.getD 0))] := X.fr hs hd hl _ (by kernel_rfl)
     clear hs hd hl ho hR
     replace G := G.trans g
     replace hC := hC.gr g
     replace hpt := hpt.gr g
     replace hph := hph.gr g
     replace hpb := hpb.gr g
     replace hpl := hpl.gr g
     replace hxs := hxs.gr g
     clear g
     refine X.thenN ?_
     refine Y.seq ?_
     refine Y.sg F [(3, Vp w.heap.size), (7, Vi (xs[(p.bv j 1).toNat]?.getD 0)), (8, Vi (xs[(p.bv j 2).toNat]?.getD 0)), (52, Vi (p.bv j 0))] (by
      refine Y.pv F (X.field rfl (F.ev 4 (Vp w3.heap.size)) (X.fld Try.underlying65 rfl (Try.siz3 _) rfl rfl)) fun ac F=>?_
      refine Y.pv F (X.load rfl (F.ev 51 (Vp w3.heap.size)) (X.ld1 (Try.agg3 _) (hC.at 4 rfl))) fun ac F=>?_
      exact Y.fin F) ?_;clear F ac;intro ac F
     refine Y.block ?_
     refine Y.sg F [(3, Vp w.heap.size), (7, Vi (xs[(p.bv j 1).toNat]?.getD 0)), (8, Vi (xs[(p.bv j 2).toNat]?.getD 0)), (52, Vi (p.bv j 0)), (53, .bool ((p.bv j 0 : Int) == 1))] (Y.pv F (X.binop rfl (F.ev 52 (Vi (p.bv j 0))) (X.kc (Vi 1) rfl) (X.eqlI Try.underlying3 rfl)) fun ac F=>Y.pv F (X.assign rfl (F.ev 54 (.bool ((p.bv j 0 : Int) == 1)))) fun ac F=>Y.fin F) ?_;clear F ac;intro ac F
     cases h12 : ((p.bv j 0 : Int) == 1) with
     | false =>
      try rw [h12] at F
      have h12p : ¬ (p.bv j 0 : Int) = 1 := by simpa using h12
      refine Y.condF (F.ev 53 (.bool false)) ?_
      refine Y.sg F [(3, Vp w.heap.size), (7, Vi (xs[(p.bv j 1).toNat]?.getD 0)), (8, Vi (xs[(p.bv j 2).toNat]?.getD 0)), (58, .bool ((p.bv j 0 : Int) == 2))] (Y.pv F (X.binop rfl (F.ev 52 (Vi (p.bv j 0))) (X.kc (Vi 2) rfl) (X.eqlI Try.underlying3 rfl)) fun ac F=>Y.pv F (X.assign rfl (F.ev 59 (.bool ((p.bv j 0 : Int) == 2)))) fun ac F=>Y.fin F) ?_;clear F ac;intro ac F
      cases h13 : ((p.bv j 0 : Int) == 2) with
      | false =>
       try rw [h13] at F
       have h13p : ¬ (p.bv j 0 : Int) = 2 := by simpa using h13
       refine Y.condF (F.ev 58 (.bool false)) ?_
       refine Y.skip ?_
       refine X.blockN (X.thenN ?_)
       refine Y.seq ?_
       obtain ⟨pd14, pe14, -, pc14⟩ := hph.at (j := (xs[(p.bv j 1).toNat]?.getD 0).toNat) (by omega)
       subst pe14
       replace hC := hC.append (show RCells w11 (Y.cs (pd14.add (((xs[(p.bv j 1).toNat]?.getD 0).toNat) * 6)) [.string (p.hn ((xs[(p.bv j 1).toNat]?.getD 0).toNat)), Vi (p.hv ((xs[(p.bv j 1).toNat]?.getD 0).toNat) 1), Vi (p.hv ((xs[(p.bv j 1).toNat]?.getD 0).toNat) 2), Vi (p.hv ((xs[(p.bv j 1).toNat]?.getD 0).toNat) 3), Vi (p.hv ((xs[(p.bv j 1).toNat]?.getD 0).toNat) 4), Vi (p.hv ((xs[(p.bv j 1).toNat]?.getD 0).toNat) 5)]) from (RCells.cons (pc14 0 (by decide)) (RCells.cons (pc14 1 (by decide)) (RCells.cons (pc14 2 (by decide)) (RCells.cons (pc14 3 (by decide)) (RCells.cons (pc14 4 (by decide)) (RCells.cons (pc14 5 (by decide)) (RCells.nil _))))))))
       clear pc14
       obtain ⟨pd15, pe15, -, pc15⟩ := hph.at (j := (xs[(p.bv j 2).toNat]?.getD 0).toNat) (by omega)
       injection pe15 with pe15
       subst pe15
       replace hC := hC.append (show RCells w11 (Y.cs (pd14.add (((xs[(p.bv j 2).toNat]?.getD 0).toNat) * 6)) [.string (p.hn ((xs[(p.bv j 2).toNat]?.getD 0).toNat)), Vi (p.hv ((xs[(p.bv j 2).toNat]?.getD 0).toNat) 1), Vi (p.hv ((xs[(p.bv j 2).toNat]?.getD 0).toNat) 2), Vi (p.hv ((xs[(p.bv j 2).toNat]?.getD 0).toNat) 3), Vi (p.hv ((xs[(p.bv j 2).toNat]?.getD 0).toNat) 4), Vi (p.hv ((xs[(p.bv j 2).toNat]?.getD 0).toNat) 5)]) from (RCells.cons (pc15 0 (by decide)) (RCells.cons (pc15 1 (by decide)) (RCells.cons (pc15 2 (by decide)) (RCells.cons (pc15 3 (by decide)) (RCells.cons (pc15 4 (by decide)) (RCells.cons (pc15 5 (by decide)) (RCells.nil _))))))))
       clear pc15
       refine Y.region F [some (.pointer (some ⟨w.heap.size, 1, none⟩)), some (.slice (some pd14) p.nh hc), some (Vi (xs[(p.bv j 1).toNat]?.getD 0)), some (.pointer (some (pd14.add (((xs[(p.bv j 1).toNat]?.getD 0).toNat) * 6)))), some (.pointer (some (⟨(pd14.add (((xs[(p.bv j 1).toNat]?.getD 0).toNat) * 6)).block, (pd14.add (((xs[(p.bv j 1).toNat]?.getD 0).toNat) * 6)).off + 4, none⟩))), some (Vi (p.hv ((xs[(p.bv j 1).toNat]?.getD 0).toNat) 4)), some (.pointer (some ⟨w.heap.size, 1, none⟩)), some (.slice (some pd14) p.nh hc), some (Vi (xs[(p.bv j 2).toNat]?.getD 0)), some (.pointer (some (pd14.add (((xs[(p.bv j 2).toNat]?.getD 0).toNat) * 6)))), some (.pointer (some (⟨(pd14.add (((xs[(p.bv j 2).toNat]?.getD 0).toNat) * 6)).block, (pd14.add (((xs[(p.bv j 2).toNat]?.getD 0).toNat) * 6)).off + 4, none⟩))), some (Vi (p.hv ((xs[(p.bv j 2).toNat]?.getD 0).toNat) 4)), some (.bool ((p.hv ((xs[(p.bv j 1).toNat]?.getD 0).toNat) 4 : Int) != (p.hv ((xs[(p.bv j 2).toNat]?.getD 0).toNat) 4))), some (.bool ((p.hv ((xs[(p.bv j 1).toNat]?.getD 0).toNat) 4 : Int) != (p.hv ((xs[(p.bv j 2).toNat]?.getD 0).toNat) 4)))] [] rfl ⟨by kernel_rfl, of_decide_eq_true (by kernel_rfl), by kernel_rfl, by kernel_rfl, by kernel_rfl⟩ ⟨?_, ?_, ?_, ?_, ?_, ?_, ?_, ?_, ?_, ?_, ?_, ?_, ?_, ?_, trivial⟩ ?_
       ·intro ac done u W Sx hR
        exact X.vl (X.field rfl (Sx.ev 3 (Vp w.heap.size)) (X.fld Try.underlying27 rfl (Try.siz23 _) rfl rfl)) hR.st0
       ·intro ac done u W Sx hR
        have g : Gr w11 W := hR.1
        exact X.vl (X.load rfl (Sx.ev 63 (.pointer (some ⟨w.heap.size, 1, none⟩))) (X.ld1 (Try.agg23 _) ((hC.gr g).at 1 rfl))) hR.st0
       ·intro ac done u W Sx hR
        exact X.vl (X.move rfl (Sx.ev 7 (Vi (xs[(p.bv j 1).toNat]?.getD 0)))) hR.st0
       ·intro ac done u W Sx hR
        exact X.vl (X.index rfl (Sx.ev 64 (.slice (some pd14) p.nh hc)) (Sx.ev 65 (Vi (xs[(p.bv j 1).toNat]?.getD 0))) (X.idx (k := (xs[(p.bv j 1).toNat]?.getD 0).toNat) Try.underlying23 (Try.siz53 _) (by omega) (by omega) rfl)) hR.st0
       ·intro ac done u W Sx hR
        exact X.vl (X.field rfl (Sx.ev 66 (.pointer (some (pd14.add (((xs[(p.bv j 1).toNat]?.getD 0).toNat) * 6))))) (X.fld Try.underlying53 rfl (Try.siz3 _) rfl rfl)) hR.st0
       ·intro ac done u W Sx hR
        have g : Gr w11 W := hR.1
        exact X.vl (X.load rfl (Sx.ev 67 (.pointer (some (⟨(pd14.add (((xs[(p.bv j 1).toNat]?.getD 0).toNat) * 6)).block, (pd14.add (((xs[(p.bv j 1).toNat]?.getD 0).toNat) * 6)).off + 4, none⟩)))) (X.ld1 (Try.agg3 _) ((hC.gr g).at 13 rfl))) hR.st0
       ·intro ac done u W Sx hR
        exact X.vl (X.field rfl (Sx.ev 3 (Vp w.heap.size)) (X.fld Try.underlying27 rfl (Try.siz23 _) rfl rfl)) hR.st0
       ·intro ac done u W Sx hR
        have g : Gr w11 W := hR.1
        exact X.vl (X.load rfl (Sx.ev 69 (.pointer (some ⟨w.heap.size, 1, none⟩))) (X.ld1 (Try.agg23 _) ((hC.gr g).at 1 rfl))) hR.st0
       ·intro ac done u W Sx hR
        exact X.vl (X.move rfl (Sx.ev 8 (Vi (xs[(p.bv j 2).toNat]?.getD 0)))) hR.st0
       ·intro ac done u W Sx hR
        exact X.vl (X.index rfl (Sx.ev 70 (.slice (some pd14) p.nh hc)) (Sx.ev 71 (Vi (xs[(p.bv j 2).toNat]?.getD 0))) (X.idx (k := (xs[(p.bv j 2).toNat]?.getD 0).toNat) Try.underlying23 (Try.siz53 _) (by omega) (by omega) rfl)) hR.st0
       ·intro ac done u W Sx hR
        exact X.vl (X.field rfl (Sx.ev 72 (.pointer (some (pd14.add (((xs[(p.bv j 2).toNat]?.getD 0).toNat) * 6))))) (X.fld Try.underlying53 rfl (Try.siz3 _) rfl rfl)) hR.st0
       ·intro ac done u W Sx hR
        have g : Gr w11 W := hR.1
        exact X.vl (X.load rfl (Sx.ev 73 (.pointer (some (⟨(pd14.add (((xs[(p.bv j 2).toNat]?.getD 0).toNat) * 6)).block, (pd14.add (((xs[(p.bv j 2).toNat]?.getD 0).toNat) * 6)).off + 4, none⟩)))) (X.ld1 (Try.agg3 _) ((hC.gr g).at 19 rfl))) hR.st0
       ·intro ac done u W Sx hR
        exact X.vl (X.binop rfl (Sx.ev 68 (Vi (p.hv ((xs[(p.bv j 1).toNat]?.getD 0).toNat) 4))) (Sx.ev 74 (Vi (p.hv ((xs[(p.bv j 2).toNat]?.getD 0).toNat) 4))) (X.neqI Try.underlying3 rfl)) hR.st0
       ·intro ac done u W Sx hR
        exact X.vl (X.assign rfl (Sx.ev 75 (.bool ((p.hv ((xs[(p.bv j 1).toNat]?.getD 0).toNat) 4 : Int) != (p.hv ((xs[(p.bv j 2).toNat]?.getD 0).toNat) 4))))) hR.st0
       intro ac u w16 hs hd hl ho hR
       have g : Gr w11 w16 := hR.1
       replace F : Fr ac 76 [(6, .bool ((p.hv ((xs[(p.bv j 1).toNat]?.getD 0).toNat) 4 : Int) != (p.hv ((xs[(p.bv j 2).toNat]?.getD 0).toNat) 4)))] := X.fr hs hd hl _ (by kernel_rfl)
       clear hs hd hl ho hR
       replace G := G.trans g
       replace hC := hC.gr g
       replace hpt := hpt.gr g
       replace hph := hph.gr g
       replace hpb := hpb.gr g
       replace hpl := hpl.gr g
       replace hxs := hxs.gr g
       clear g
       refine X.thenN ?_
       refine Y.ret ?_
       exact Y.ret0 (v := .bool ((p.hv ((xs[(p.bv j 1).toNat]?.getD 0).toNat) 4 : Int) != (p.hv ((xs[(p.bv j 2).toNat]?.getD 0).toNat) 4))) F (Y.r1 F) ⟨by rw [kept_3 (by omega) (by omega) (by omega) (by omega) (by omega) (by omega)], G⟩
      | true =>
       try rw [h13] at F
       have h13p : (p.bv j 0 : Int) = 2 := by simpa using h13
       refine Y.condT (F.ev 58 (.bool true)) ?_
       refine Y.sg F [(6, .bool ((xs[(p.bv j 1).toNat]?.getD 0 : Int) == (xs[(p.bv j 2).toNat]?.getD 0)))] (Y.pv F (X.move rfl (F.ev 7 (Vi (xs[(p.bv j 1).toNat]?.getD 0)))) fun ac F=>Y.pv F (X.move rfl (F.ev 8 (Vi (xs[(p.bv j 2).toNat]?.getD 0)))) fun ac F=>Y.pv F (X.binop rfl (F.ev 60 (Vi (xs[(p.bv j 1).toNat]?.getD 0))) (F.ev 61 (Vi (xs[(p.bv j 2).toNat]?.getD 0))) (X.eqlI Try.underlying3 rfl)) fun ac F=>Y.pv F (X.assign rfl (F.ev 62 (.bool ((xs[(p.bv j 1).toNat]?.getD 0 : Int) == (xs[(p.bv j 2).toNat]?.getD 0))))) fun ac F=>Y.fin F) ?_;clear F ac;intro ac F
       refine Y.ret ?_
       refine X.blockR (X.thenR ?_)
       exact Y.ret0 (v := .bool ((xs[(p.bv j 1).toNat]?.getD 0 : Int) == (xs[(p.bv j 2).toNat]?.getD 0))) F (Y.r1 F) ⟨by rw [kept_2 (by omega) (by omega) (by omega)], G⟩
     | true =>
      try rw [h12] at F
      have h12p : (p.bv j 0 : Int) = 1 := by simpa using h12
      refine Y.condT (F.ev 53 (.bool true)) ?_
      refine Y.sg F [(6, .bool ((xs[(p.bv j 1).toNat]?.getD 0 : Int) != (xs[(p.bv j 2).toNat]?.getD 0)))] (Y.pv F (X.move rfl (F.ev 7 (Vi (xs[(p.bv j 1).toNat]?.getD 0)))) fun ac F=>Y.pv F (X.move rfl (F.ev 8 (Vi (xs[(p.bv j 2).toNat]?.getD 0)))) fun ac F=>Y.pv F (X.binop rfl (F.ev 55 (Vi (xs[(p.bv j 1).toNat]?.getD 0))) (F.ev 56 (Vi (xs[(p.bv j 2).toNat]?.getD 0))) (X.neqI Try.underlying3 rfl)) fun ac F=>Y.pv F (X.assign rfl (F.ev 57 (.bool ((xs[(p.bv j 1).toNat]?.getD 0 : Int) != (xs[(p.bv j 2).toNat]?.getD 0))))) fun ac F=>Y.fin F) ?_;clear F ac;intro ac F
      refine Y.ret ?_
      refine X.blockR (X.thenR ?_)
      exact Y.ret0 (v := .bool ((xs[(p.bv j 1).toNat]?.getD 0 : Int) != (xs[(p.bv j 2).toNat]?.getD 0))) F (Y.r1 F) ⟨by rw [kept_1 (by omega) (by omega) (by omega)], G⟩
    | true =>
     try rw [h8] at F
     have h8p : ((xs.length : Int) ≤ (p.bv j 2)) := of_decide_eq_true h8
     refine Y.condT (F.ev 40 (.bool true)) ?_
     refine Y.sg F [(6, .bool true)] (Y.pv F (X.assign rfl (X.kc (.bool true) rfl)) fun ac F=>Y.fin F) ?_;clear F ac;intro ac F
     refine Y.ret ?_
     refine X.thenR ?_
     exact Y.ret0 (v := .bool true) F (Y.r1 F) ⟨by rw [kept_b (by omega) (by omega) (by omega) (by omega)], G⟩
   | true =>
    try rw [h7] at F
    have h7p : (p.bv j 0 : Int) = 5 := by simpa using h7
    refine Y.condT (F.ev 27 (.bool true)) ?_
    refine Y.seq ?_
    obtain ⟨pd17, pe17, -, pc17⟩ := hxs.at (j := (p.bv j 1).toNat) (by omega)
    subst pe17
    replace hC := hC.append (show RCells w4 ([(pd17.add ((p.bv j 1).toNat), Vi (xs[(p.bv j 1).toNat]?.getD 0))]) from (RCells.cons pc17 (RCells.nil _)))
    clear pc17
    refine Y.region F [some (.slice (some pd17) xs.length c), some (.pointer (some ⟨w3.heap.size, 1, none⟩)), some (Vi (p.bv j 1)), some (.pointer (some (pd17.add ((p.bv j 1).toNat)))), some (Vi (xs[(p.bv j 1).toNat]?.getD 0)), some (.pointer (some ⟨w3.heap.size, 2, none⟩)), some (Vi (p.bv j 2)), some (.bool ((xs[(p.bv j 1).toNat]?.getD 0 : Int) == (p.bv j 2))), some (.bool ((xs[(p.bv j 1).toNat]?.getD 0 : Int) == (p.bv j 2)))] [] rfl ⟨by kernel_rfl, of_decide_eq_true (by kernel_rfl), by kernel_rfl, by kernel_rfl, by kernel_rfl⟩ ⟨?_, ?_, ?_, ?_, ?_, ?_, ?_, ?_, ?_, trivial⟩ ?_
    ·intro ac done u W Sx hR
     exact X.vl (X.move rfl (Sx.ev 2 (.slice (some pd17) xs.length c))) hR.st0
    ·intro ac done u W Sx hR
     exact X.vl (X.field rfl (Sx.ev 4 (Vp w3.heap.size)) (X.fld Try.underlying65 rfl (Try.siz3 _) rfl rfl)) hR.st0
    ·intro ac done u W Sx hR
     have g : Gr w4 W := hR.1
     exact X.vl (X.load rfl (Sx.ev 29 (.pointer (some ⟨w3.heap.size, 1, none⟩))) (X.ld1 (Try.agg3 _) ((hC.gr g).at 5 rfl))) hR.st0
    ·intro ac done u W Sx hR
     exact X.val (X.w0 rfl) rfl (X.index rfl (Sx.ev 28 (.slice (some pd17) xs.length c)) (Sx.ev 30 (Vi (p.bv j 1))) (X.idx (k := (p.bv j 1).toNat) Try.underlying34 (Try.siz3 _) (by omega) (by omega) (by rw [Nat.mul_one]))) hR.st0
    ·intro ac done u W Sx hR
     have g : Gr w4 W := hR.1
     exact X.vl (X.load rfl (Sx.ev 31 (.pointer (some (pd17.add ((p.bv j 1).toNat))))) (X.ld1 (Try.agg3 _) ((hC.gr g).at 7 rfl))) hR.st0
    ·intro ac done u W Sx hR
     exact X.vl (X.field rfl (Sx.ev 4 (Vp w3.heap.size)) (X.fld Try.underlying65 rfl (Try.siz3 _) rfl rfl)) hR.st0
    ·intro ac done u W Sx hR
     have g : Gr w4 W := hR.1
     exact X.vl (X.load rfl (Sx.ev 33 (.pointer (some ⟨w3.heap.size, 2, none⟩))) (X.ld1 (Try.agg3 _) ((hC.gr g).at 6 rfl))) hR.st0
    ·intro ac done u W Sx hR
     exact X.vl (X.binop rfl (Sx.ev 32 (Vi (xs[(p.bv j 1).toNat]?.getD 0))) (Sx.ev 34 (Vi (p.bv j 2))) (X.eqlI Try.underlying3 rfl)) hR.st0
    ·intro ac done u W Sx hR
     exact X.vl (X.assign rfl (Sx.ev 35 (.bool ((xs[(p.bv j 1).toNat]?.getD 0 : Int) == (p.bv j 2))))) hR.st0
    intro ac u w18 hs hd hl ho hR
    have g : Gr w4 w18 := hR.1
    replace F : Fr ac 76 [(6, .bool ((xs[(p.bv j 1).toNat]?.getD 0 : Int) == (p.bv j 2)))] := X.fr hs hd hl _ (by kernel_rfl)
    clear hs hd hl ho hR
    replace G := G.trans g
    replace hC := hC.gr g
    replace hpt := hpt.gr g
    replace hph := hph.gr g
    replace hpb := hpb.gr g
    replace hpl := hpl.gr g
    replace hxs := hxs.gr g
    clear g
    refine X.thenN ?_
    refine Y.ret ?_
    refine X.thenR ?_
    exact Y.ret0 (v := .bool ((xs[(p.bv j 1).toNat]?.getD 0 : Int) == (p.bv j 2))) F (Y.r1 F) ⟨by rw [kept_5 (by omega) (by omega)], G⟩
  | true =>
   try rw [h6] at F
   have h6p : (p.bv j 0 : Int) = 4 := by simpa using h6
   refine Y.condT (F.ev 16 (.bool true)) ?_
   refine Y.seq ?_
   obtain ⟨pd19, pe19, -, pc19⟩ := hxs.at (j := (p.bv j 1).toNat) (by omega)
   subst pe19
   replace hC := hC.append (show RCells w4 ([(pd19.add ((p.bv j 1).toNat), Vi (xs[(p.bv j 1).toNat]?.getD 0))]) from (RCells.cons pc19 (RCells.nil _)))
   clear pc19
   refine Y.region F [some (.slice (some pd19) xs.length c), some (.pointer (some ⟨w3.heap.size, 1, none⟩)), some (Vi (p.bv j 1)), some (.pointer (some (pd19.add ((p.bv j 1).toNat)))), some (Vi (xs[(p.bv j 1).toNat]?.getD 0)), some (.pointer (some ⟨w3.heap.size, 2, none⟩)), some (Vi (p.bv j 2)), some (.bool ((xs[(p.bv j 1).toNat]?.getD 0 : Int) != (p.bv j 2))), some (.bool ((xs[(p.bv j 1).toNat]?.getD 0 : Int) != (p.bv j 2)))] [] rfl ⟨by kernel_rfl, of_decide_eq_true (by kernel_rfl), by kernel_rfl, by kernel_rfl, by kernel_rfl⟩ ⟨?_, ?_, ?_, ?_, ?_, ?_, ?_, ?_, ?_, trivial⟩ ?_
   ·intro ac done u W Sx hR
    exact X.vl (X.move rfl (Sx.ev 2 (.slice (some pd19) xs.length c))) hR.st0
   ·intro ac done u W Sx hR
    exact X.vl (X.field rfl (Sx.ev 4 (Vp w3.heap.size)) (X.fld Try.underlying65 rfl (Try.siz3 _) rfl rfl)) hR.st0
   ·intro ac done u W Sx hR
    have g : Gr w4 W := hR.1
    exact X.vl (X.load rfl (Sx.ev 18 (.pointer (some ⟨w3.heap.size, 1, none⟩))) (X.ld1 (Try.agg3 _) ((hC.gr g).at 5 rfl))) hR.st0
   ·intro ac done u W Sx hR
    exact X.val (X.w0 rfl) rfl (X.index rfl (Sx.ev 17 (.slice (some pd19) xs.length c)) (Sx.ev 19 (Vi (p.bv j 1))) (X.idx (k := (p.bv j 1).toNat) Try.underlying34 (Try.siz3 _) (by omega) (by omega) (by rw [Nat.mul_one]))) hR.st0
   ·intro ac done u W Sx hR
    have g : Gr w4 W := hR.1
    exact X.vl (X.load rfl (Sx.ev 20 (.pointer (some (pd19.add ((p.bv j 1).toNat))))) (X.ld1 (Try.agg3 _) ((hC.gr g).at 7 rfl))) hR.st0
   ·intro ac done u W Sx hR
    exact X.vl (X.field rfl (Sx.ev 4 (Vp w3.heap.size)) (X.fld Try.underlying65 rfl (Try.siz3 _) rfl rfl)) hR.st0
   ·intro ac done u W Sx hR
    have g : Gr w4 W := hR.1
    exact X.vl (X.load rfl (Sx.ev 22 (.pointer (some ⟨w3.heap.size, 2, none⟩))) (X.ld1 (Try.agg3 _) ((hC.gr g).at 6 rfl))) hR.st0
   ·intro ac done u W Sx hR
    exact X.vl (X.binop rfl (Sx.ev 21 (Vi (xs[(p.bv j 1).toNat]?.getD 0))) (Sx.ev 23 (Vi (p.bv j 2))) (X.neqI Try.underlying3 rfl)) hR.st0
   ·intro ac done u W Sx hR
    exact X.vl (X.assign rfl (Sx.ev 24 (.bool ((xs[(p.bv j 1).toNat]?.getD 0 : Int) != (p.bv j 2))))) hR.st0
   intro ac u w20 hs hd hl ho hR
   have g : Gr w4 w20 := hR.1
   replace F : Fr ac 76 [(6, .bool ((xs[(p.bv j 1).toNat]?.getD 0 : Int) != (p.bv j 2)))] := X.fr hs hd hl _ (by kernel_rfl)
   clear hs hd hl ho hR
   replace G := G.trans g
   replace hC := hC.gr g
   replace hpt := hpt.gr g
   replace hph := hph.gr g
   replace hpb := hpb.gr g
   replace hpl := hpl.gr g
   replace hxs := hxs.gr g
   clear g
   refine X.thenN ?_
   refine Y.ret ?_
   refine X.thenR ?_
   exact Y.ret0 (v := .bool ((xs[(p.bv j 1).toNat]?.getD 0 : Int) != (p.bv j 2))) F (Y.r1 F) ⟨by rw [kept_4 (by omega) (by omega)], G⟩
 | true =>
  try rw [h5] at F
  have h5p : ((xs.length : Int) ≤ (p.bv j 1)) := of_decide_eq_true h5
  refine Y.condT (F.ev 13 (.bool true)) ?_
  refine Y.sg F [(6, .bool true)] (Y.pv F (X.assign rfl (X.kc (.bool true) rfl)) fun ac F=>Y.fin F) ?_;clear F ac;intro ac F
  refine Y.ret ?_
  refine X.thenR ?_
  exact Y.ret0 (v := .bool true) F (Y.r1 F) ⟨by rw [kept_a (by omega)], G⟩
set_option maxRecDepth 100000 in
set_option maxHeartbeats 4000000 in
theorem hop2_any (p : Pb) (ta ha ba la : Option Addr) (tc hc bc lc : Nat) (a : Option Addr) (c : Nat) (xs : List Int) (hu : Int) (w : World) (hP : PbAt w p ta ha ba la tc hc bc lc) (hX : Ints w a xs.length xs) (hp : PbOk p) (hx : HosOk p xs) (hn : xs.length ≤ p.nt) (hhu : 0 ≤ hu ∧ hu ≤ 100001) :
  Calls Try.prog 75 #[.agg #[.slice ta p.nt tc, .slice ha p.nh hc, .slice ba p.nb bc, .slice la p.nl lc], .slice a xs.length c, Vi hu] w fun e w' => e = .returned (.bool (hopeB p (hund p hu) xs)) ∧ Gr w w' := by
 have G := Gr.refl w
 have hpt := hP.t
 have hph := hP.h
 have hpb := hP.b
 have hpl := hP.l
 have hplen := hP.len
 obtain ⟨hn1, hn2, hn3, hn4⟩ := hplen
 have hcp1 := hpt.cap
 have hcp2 := hph.cap
 have hcp3 := hpb.cap
 have hcp4 := hpl.cap
 have hxs := hX
 have hlt := hxs.lt
 have h6 := hp.h6
 have h10 := hp.t10
 refine Y.calls 98 Try.func75 rfl rfl ?_
 intro ac F0
 have F : Fr ac 98 [(0, .agg #[.slice ta p.nt tc, .slice ha p.nh hc, .slice ba p.nb bc, .slice la p.nl lc]), (1, .slice a xs.length c), (2, Vi hu)] := F0.sub _
 clear F0
 refine Y.sl ?_
 have hgs3 : w.heap.size ≤ w.heap.size := G.size
 refine Y.pv F (X.box rfl (F.ev 0 (.agg #[.slice ta p.nt tc, .slice ha p.nh hc, .slice ba p.nb bc, .slice la p.nl lc])) X.bx) ?_;clear F ac;intro ac F
 have hgs5 : w.heap.size ≤ w.heap.size := G.size
 obtain ⟨w6, hw_, g, hb, hbl, hC2⟩ := Y.bxd (RCells.nil w) #[.slice ta p.nt tc, .slice ha p.nh hc, .slice ba p.nb bc, .slice la p.nl lc] 27;rw [hw_];clear hw_
 replace G := G.trans g
 have hC := hC2
 clear hC2
 replace hpt := hpt.gr g
 replace hph := hph.gr g
 replace hpb := hpb.gr g
 replace hpl := hpl.gr g
 replace hxs := hxs.gr g
 have hsz4 := hbl
 clear g hb hbl
 refine Y.pv F (X.assign rfl (X.kc (.bool false) rfl)) ?_;clear F ac;intro ac F
 refine Y.nt F [(1, .slice a xs.length c), (2, Vi hu), (3, Vp w.heap.size)] ?_;clear F ac;intro ac F
 refine Y.seq ?_
 refine Y.sg F [(1, .slice a xs.length c), (2, Vi hu), (3, Vp w.heap.size), (7, Vi 0)] (Y.pv F (X.assign rfl (X.kc (Vi 0) rfl)) fun ac F=>Y.fin F) ?_;clear F ac;intro ac F
 refine Y.block ?_
 refine Y.loop (fun me_ ac wr => ∃ (i : Nat), me_ = p.nh - i ∧ Only (fun b => False) w6 wr ∧ i ≤ p.nh ∧ allN (fitR p hu xs) i = true ∧ Fr ac 98 [(1, .slice a xs.length c), (2, Vi hu), (3, Vp w.heap.size), (7, Vi i)]) _ ⟨0, rfl, Only.refl _ _, Nat.zero_le _, rfl, F.sub _⟩ ?_
 have hptB1 := hpt
 have hphB1 := hph
 have hpbB1 := hpb
 have hplB1 := hpl
 have hxsB1 := hxs
 have GB1 := G
 have hCB1 := hC
 clear F ac
 intro me_ ac w7 hI
 obtain ⟨i, rfl, hO1, hi0, hok, F⟩ := hI
 replace G := GB1.trans (hO1.gr (fun _ _ h => h))
 replace hpt := (hP.t).gr G
 replace hph := (hP.h).gr G
 replace hpb := (hP.b).gr G
 replace hpl := (hP.l).gr G
 replace hxs := (hX).gr G
 replace hC := (RCells.cons (hO1.cell (hCB1.at 0 rfl) (fun h => h)) (RCells.cons (hO1.cell (hCB1.at 1 rfl) (fun h => h)) (RCells.cons (hO1.cell (hCB1.at 2 rfl) (fun h => h)) (RCells.cons (hO1.cell (hCB1.at 3 rfl) (fun h => h)) (RCells.nil _)))))
 refine Y.seq ?_
 refine Y.sg F [(1, .slice a xs.length c), (2, Vi hu), (3, Vp w.heap.size), (7, Vi i), (16, .bool (decide ((i : Int) < p.nh)))] (by
  refine Y.pv F (X.move rfl (F.ev 7 (Vi i))) fun ac F=>?_
  refine Y.pv F (X.field rfl (F.ev 3 (Vp w.heap.size)) (X.fld Try.underlying27 rfl (Try.siz23 _) rfl rfl)) fun ac F=>?_
  refine Y.pv F (X.load rfl (F.ev 13 (.pointer (some ⟨w.heap.size, 1, none⟩))) (X.ld1 (Try.agg23 _) (hC.at 1 rfl))) fun ac F=>?_
  refine Y.pv F (X.len1 Try.underlying23 rfl (F.ev 14 (.slice ha p.nh hc))) fun ac F=>?_
  refine Y.pv F (X.binop rfl (F.ev 12 (Vi i)) (F.ev 15 (Vi p.nh)) (X.lssI Try.underlying3 rfl)) fun ac F=>?_
  exact Y.fin F) ?_;clear F ac;intro ac F
 cases h8 : decide ((i : Int) < p.nh) with
 | false =>
  try rw [h8] at F
  have h8p : ¬ ((i : Int) < p.nh) := of_decide_eq_false h8
  obtain rfl : i = p.nh := by omega
  have hall1 := hok
  refine Y.condF (F.ev 16 (.bool false)) ?_
  refine Y.exit ?_
  refine X.thenX (X.thenX (X.blockX (X.thenN ?_)))
  refine Y.seq ?_
  refine Y.sg F [(1, .slice a xs.length c), (3, Vp w.heap.size), (11, Vi 0)] (Y.pv F (X.assign rfl (X.kc (Vi 0) rfl)) fun ac F=>Y.fin F) ?_;clear F ac;intro ac F
  refine Y.block ?_
  refine Y.loop (fun me_ ac wr => ∃ (j : Nat), me_ = p.nb - j ∧ Only (fun b => False) w7 wr ∧ j ≤ p.nb ∧ allN (keptB p xs) j = true ∧ Fr ac 98 [(1, .slice a xs.length c), (3, Vp w.heap.size), (11, Vi j)]) _ ⟨0, rfl, Only.refl _ _, Nat.zero_le _, rfl, F.sub _⟩ ?_
  have hptB1 := hpt
  have hphB1 := hph
  have hpbB1 := hpb
  have hplB1 := hpl
  have hxsB1 := hxs
  have GB1 := G
  have hCB1 := hC
  clear F ac
  intro me_ ac w9 hI
  obtain ⟨j, rfl, hO1, hj0, hkp, F⟩ := hI
  replace G := GB1.trans (hO1.gr (fun _ _ h => h))
  replace hpt := (hP.t).gr G
  replace hph := (hP.h).gr G
  replace hpb := (hP.b).gr G
  replace hpl := (hP.l).gr G
  replace hxs := (hX).gr G
  replace hC := (RCells.cons (hO1.cell (hCB1.at 0 rfl) (fun h => h)) (RCells.cons (hO1.cell (hCB1.at 1 rfl) (fun h => h)) (RCells.cons (hO1.cell (hCB1.at 2 rfl) (fun h => h)) (RCells.cons (hO1.cell (hCB1.at 3 rfl) (fun h => h)) (RCells.nil _)))))
  refine Y.seq ?_
  refine Y.sg F [(1, .slice a xs.length c), (3, Vp w.heap.size), (11, Vi j), (86, .bool (decide ((j : Int) < p.nb)))] (by
   refine Y.pv F (X.move rfl (F.ev 11 (Vi j))) fun ac F=>?_
   refine Y.pv F (X.field rfl (F.ev 3 (Vp w.heap.size)) (X.fld Try.underlying27 rfl (Try.siz24 _) rfl rfl)) fun ac F=>?_
   refine Y.pv F (X.load rfl (F.ev 83 (.pointer (some ⟨w.heap.size, 2, none⟩))) (X.ld1 (Try.agg24 _) (hC.at 2 rfl))) fun ac F=>?_
   refine Y.pv F (X.len1 Try.underlying24 rfl (F.ev 84 (.slice ba p.nb bc))) fun ac F=>?_
   refine Y.pv F (X.binop rfl (F.ev 82 (Vi j)) (F.ev 85 (Vi p.nb)) (X.lssI Try.underlying3 rfl)) fun ac F=>?_
   exact Y.fin F) ?_;clear F ac;intro ac F
  cases h10 : decide ((j : Int) < p.nb) with
  | false =>
   try rw [h10] at F
   have h10p : ¬ ((j : Int) < p.nb) := of_decide_eq_false h10
   obtain rfl : j = p.nb := by omega
   refine Y.condF (F.ev 86 (.bool false)) ?_
   refine Y.exit ?_
   refine X.thenX (X.thenX (X.blockX (X.thenN ?_)))
   refine Y.sg F [(6, .bool false)] (Y.pv F (X.assign rfl (X.kc (.bool false) rfl)) fun ac F=>Y.fin F) ?_;clear F ac;intro ac F
   refine Y.ret ?_
   exact Y.ret0 (v := .bool false) F (Y.r1 F) ⟨by rw [hopR_no hx hall1 hkp], G⟩
  | true =>
   try rw [h10] at F
   have h10p : ((j : Int) < p.nb) := of_decide_eq_true h10
   have hj : j < p.nb := by omega
   refine Y.condT (F.ev 86 (.bool true)) ?_
   refine Y.skip ?_
   refine X.thenN ?_
   refine Y.seq ?_
   refine Y.block ?_
   refine Y.seq ?_
   obtain ⟨pd11, pe11, -, pc11⟩ := hpb.at (j := j) (by omega)
   subst pe11
   replace hC := hC.append (show RCells w9 (Y.cs (pd11.add (j * 3)) [Vi (p.bv j 0), Vi (p.bv j 1), Vi (p.bv j 2)]) from (RCells.cons (pc11 0 (by decide)) (RCells.cons (pc11 1 (by decide)) (RCells.cons (pc11 2 (by decide)) (RCells.nil _)))))
   clear pc11
   refine Y.region F [some (.agg #[.slice ta p.nt tc, .slice ha p.nh hc, .slice (some pd11) p.nb bc, .slice la p.nl lc]), some (.pointer (some ⟨w.heap.size, 2, none⟩)), some (.slice (some pd11) p.nb bc), some (Vi j), some (.pointer (some (pd11.add (j * 3)))), some (.agg #[Vi (p.bv j 0), Vi (p.bv j 1), Vi (p.bv j 2)]), some (.slice a xs.length c), some (.bool (keptB p xs j)), some (.bool (!(keptB p xs j)))] [] rfl ⟨by kernel_rfl, of_decide_eq_true (by kernel_rfl), by kernel_rfl, by kernel_rfl, by kernel_rfl⟩ ⟨?_, ?_, ?_, ?_, ?_, ?_, ?_, ?_, ?_, trivial⟩ ?_
   ·intro ac done u W Sx hR
    have g : Gr w9 W := hR.1
    exact X.vl (X.load rfl (Sx.ev 3 (Vp w.heap.size)) (X.ldN (Try.agg27 _) (Try.siz27 _) (Y.atz (⟨w.heap.size, 0, none⟩) (Y.AtFrom.cons ((hC.gr g).at 0 rfl) (Y.AtFrom.cons ((hC.gr g).at 1 rfl) (Y.AtFrom.cons ((hC.gr g).at 2 rfl) (Y.AtFrom.cons ((hC.gr g).at 3 rfl) (Y.AtFrom.nil _ _ _)))))))) hR.st0
   ·intro ac done u W Sx hR
    exact X.vl (X.field rfl (Sx.ev 3 (Vp w.heap.size)) (X.fld Try.underlying27 rfl (Try.siz24 _) rfl rfl)) hR.st0
   ·intro ac done u W Sx hR
    have g : Gr w9 W := hR.1
    exact X.vl (X.load rfl (Sx.ev 90 (.pointer (some ⟨w.heap.size, 2, none⟩))) (X.ld1 (Try.agg24 _) ((hC.gr g).at 2 rfl))) hR.st0
   ·intro ac done u W Sx hR
    exact X.vl (X.move rfl (Sx.ev 11 (Vi j))) hR.st0
   ·intro ac done u W Sx hR
    exact X.vl (X.index rfl (Sx.ev 91 (.slice (some pd11) p.nb bc)) (Sx.ev 92 (Vi j)) (X.idx (k := j) Try.underlying24 (Try.siz65 _) (by omega) (by omega) rfl)) hR.st0
   ·intro ac done u W Sx hR
    have g : Gr w9 W := hR.1
    exact X.vl (X.load rfl (Sx.ev 93 (.pointer (some (pd11.add (j * 3))))) (X.ldN (Try.agg65 _) (Try.siz65 _) (Y.atz (pd11.add (j * 3)) (Y.AtFrom.cons ((hC.gr g).at 4 rfl) (Y.AtFrom.cons ((hC.gr g).at 5 rfl) (Y.AtFrom.cons ((hC.gr g).at 6 rfl) (Y.AtFrom.nil _ _ _))))))) hR.st0
   ·intro ac done u W Sx hR
    exact X.vl (X.move rfl (Sx.ev 1 (.slice a xs.length c))) hR.st0
   ·intro ac done u W Sx hR
    have g : Gr w9 W := hR.1
    refine X.call (X.w0 rfl) (X.enter (F := 108) rfl (X.kc (.func (.func 108) #[] #[]) rfl) (X.a3 (Sx.ev 89 (.agg #[.slice ta p.nt tc, .slice ha p.nh hc, .slice (some pd11) p.nb bc, .slice la p.nl lc])) (Sx.ev 94 (.agg #[Vi (p.bv j 0), Vi (p.bv j 1), Vi (p.bv j 2)])) (Sx.ev 95 (.slice a xs.length c))) (enters_of Try.func108 (by kernel_rfl) rfl _)) (kept2_any p ta ha (some pd11) la tc hc bc lc a c xs W (hP.gr (G.trans g)) (hX.gr (G.trans g)) hp hx j (by omega)) ?_
    rintro e W2 ⟨rfl, g2⟩
    exact ⟨_, rfl, X.kn rfl, hR.step g2 rfl⟩
   ·intro ac done u W Sx hR
    exact X.vl (X.notB rfl (Sx.ev 96 (.bool (keptB p xs j))) rfl) hR.st0
   intro ac u w12 hs hd hl ho hR
   have g : Gr w9 w12 := hR.1
   replace F : Fr ac 98 [(1, .slice a xs.length c), (3, Vp w.heap.size), (11, Vi j), (97, .bool (!(keptB p xs j)))] := X.fr hs hd hl _ (by kernel_rfl)
   clear hs hd hl ho hR
   replace G := G.trans g
   replace hC := hC.gr g
   replace hO1 := hO1.thenGr g
   replace hpt := hpt.gr g
   replace hph := hph.gr g
   replace hpb := hpb.gr g
   replace hpl := hpl.gr g
   replace hxs := hxs.gr g
   clear g
   refine X.thenN ?_
   cases h13 : keptB p xs j with
   | false =>
    try rw [h13] at F
    refine Y.condT (F.ev 97 (.bool true)) ?_
    refine Y.sg F [(6, .bool true)] (Y.pv F (X.assign rfl (X.kc (.bool true) rfl)) fun ac F=>Y.fin F) ?_;clear F ac;intro ac F
    refine Y.ret ?_
    refine X.blockR (X.thenR (X.thenR (X.blockR (X.thenR ?_))))
    exact Y.ret0 (v := .bool true) F (Y.r1 F) ⟨by rw [hopR_kept hj h13], G⟩
   | true =>
    try rw [h13] at F
    refine Y.condF (F.ev 97 (.bool false)) ?_
    refine Y.skip ?_
    refine X.blockN (X.thenN ?_)
    refine Y.lg F [(1, .slice a xs.length c), (3, Vp w.heap.size), (11, Vi ((j : Int) + 1))] (by
     refine Y.pv F (X.move rfl (F.ev 11 (Vi j))) fun ac F=>?_
     refine Y.pv F (X.binop rfl (F.ev 87 (Vi j)) (X.kc (Vi 1) rfl) (X.addI Try.underlying3 rfl (by omega) (by omega))) fun ac F=>?_
     refine Y.pv F (X.assign rfl (F.ev 88 (Vi ((j : Int) + 1)))) fun ac F=>?_
     exact Y.fin F) ?_;clear F ac;intro ac F
    refine ⟨_, ?_, j + 1, rfl, hO1, by omega, allN_succ hkp h13, F.sub _⟩
    omega
 | true =>
  try rw [h8] at F
  have h8p : ((i : Int) < p.nh) := of_decide_eq_true h8
  have hi : i < p.nh := by omega
  refine Y.condT (F.ev 16 (.bool true)) ?_
  refine Y.skip ?_
  refine X.thenN ?_
  refine Y.seq ?_
  refine Y.block ?_
  refine Y.sg F [(1, .slice a xs.length c), (2, Vi hu), (3, Vp w.heap.size), (7, Vi i), (8, Vi 0), (9, Vi 0)] (Y.pv F (X.assign rfl (X.kc (Vi 0) rfl)) fun ac F=>Y.pv F (X.assign rfl (X.kc (Vi 0) rfl)) fun ac F=>Y.fin F) ?_;clear F ac;intro ac F
  refine Y.seq ?_
  refine Y.sg F [(1, .slice a xs.length c), (2, Vi hu), (3, Vp w.heap.size), (7, Vi i), (8, Vi 0), (9, Vi 0), (10, Vi 0)] (Y.pv F (X.assign rfl (X.kc (Vi 0) rfl)) fun ac F=>Y.fin F) ?_;clear F ac;intro ac F
  refine Y.block ?_
  refine Y.loop (fun me_ ac wr => ∃ (k : Nat), me_ = xs.length - k ∧ Only (fun b => False) w7 wr ∧ k ≤ xs.length ∧ allN (levR p xs i) k = true ∧ Fr ac 98 [(1, .slice a xs.length c), (2, Vi hu), (3, Vp w.heap.size), (7, Vi i), (8, Vi (onS (fun j => p.tv j 1) xs i k)), (9, Vi (onS (hund p hu) xs i k)), (10, Vi k)]) _ ⟨0, rfl, Only.refl _ _, Nat.zero_le _, rfl, F.sub _⟩ ?_
  have hptB2 := hpt
  have hphB2 := hph
  have hpbB2 := hpb
  have hplB2 := hpl
  have hxsB2 := hxs
  have GB2 := G
  have hCB2 := hC
  clear F ac
  intro me_ ac w14 hI
  obtain ⟨k, rfl, hO2, hk0, hlev, F⟩ := hI
  replace G := GB2.trans (hO2.gr (fun _ _ h => h))
  replace hpt := (hP.t).gr G
  replace hph := (hP.h).gr G
  replace hpb := (hP.b).gr G
  replace hpl := (hP.l).gr G
  replace hxs := (hX).gr G
  replace hC := (RCells.cons (hO2.cell (hCB2.at 0 rfl) (fun h => h)) (RCells.cons (hO2.cell (hCB2.at 1 rfl) (fun h => h)) (RCells.cons (hO2.cell (hCB2.at 2 rfl) (fun h => h)) (RCells.cons (hO2.cell (hCB2.at 3 rfl) (fun h => h)) (RCells.nil _)))))
  replace hO1 := hO1.step2 hO2 (fun r e => False.elim e)
  refine Y.seq ?_
  refine Y.sg F [(1, .slice a xs.length c), (2, Vi hu), (3, Vp w.heap.size), (7, Vi i), (8, Vi (onS (fun j => p.tv j 1) xs i k)), (9, Vi (onS (hund p hu) xs i k)), (10, Vi k), (22, .bool (decide ((k : Int) < xs.length)))] (Y.pv F (X.move rfl (F.ev 10 (Vi k))) fun ac F=>Y.pv F (X.move rfl (F.ev 1 (.slice a xs.length c))) fun ac F=>Y.pv F (X.len1 Try.underlying34 rfl (F.ev 20 (.slice a xs.length c))) fun ac F=>Y.pv F (X.binop rfl (F.ev 19 (Vi k)) (F.ev 21 (Vi xs.length)) (X.lssI Try.underlying3 rfl)) fun ac F=>Y.fin F) ?_;clear F ac;intro ac F
  cases h15 : decide ((k : Int) < xs.length) with
  | false =>
   try rw [h15] at F
   have h15p : ¬ ((k : Int) < xs.length) := of_decide_eq_false h15
   obtain rfl : k = xs.length := by omega
   refine Y.condF (F.ev 22 (.bool false)) ?_
   refine Y.exit ?_
   refine X.thenX (X.thenX (X.blockX (X.thenN ?_)))
   refine Y.sl ?_
   refine Y.pv4 F (X.move rfl (F.ev 8 (Vi (onS (fun j => p.tv j 1) xs i xs.length)))) (fun _ F=>X.field rfl (F.ev 3 (Vp w.heap.size)) (X.fld Try.underlying27 rfl (Try.siz23 _) rfl rfl)) (fun _ F=>X.load rfl (F.ev 65 (.pointer (some ⟨w.heap.size, 1, none⟩))) (X.ld1 (Try.agg23 _) (hC.at 1 rfl))) (fun _ F=>X.move rfl (F.ev 7 (Vi i))) ?_;clear F ac;intro ac F
   obtain ⟨pd16, pe16, -, pc16⟩ := hph.at (j := i) (by omega)
   subst pe16
   replace hC := hC.append (show RCells w14 (Y.cs (pd16.add (i * 6)) [.string (p.hn i), Vi (p.hv i 1), Vi (p.hv i 2), Vi (p.hv i 3), Vi (p.hv i 4), Vi (p.hv i 5)]) from (RCells.cons (pc16 0 (by decide)) (RCells.cons (pc16 1 (by decide)) (RCells.cons (pc16 2 (by decide)) (RCells.cons (pc16 3 (by decide)) (RCells.cons (pc16 4 (by decide)) (RCells.cons (pc16 5 (by decide)) (RCells.nil _))))))))
   clear pc16
   refine Y.pv4 F (X.index rfl (F.ev 66 (.slice (some pd16) p.nh hc)) (F.ev 67 (Vi i)) (X.idx (k := i) Try.underlying23 (Try.siz53 _) (by omega) (by omega) rfl)) (fun _ F=>X.field rfl (F.ev 68 (.pointer (some (pd16.add (i * 6))))) (X.fld Try.underlying53 rfl (Try.siz3 _) rfl rfl)) (fun _ F=>X.load rfl (F.ev 69 (.pointer (some (⟨(pd16.add (i * 6)).block, (pd16.add (i * 6)).off + 1, none⟩)))) (X.ld1 (Try.agg3 _) (hC.at 5 rfl))) (fun _ F=>X.binop rfl (F.ev 64 (Vi (onS (fun j => p.tv j 1) xs i xs.length))) (F.ev 70 (Vi (p.hv i 1))) (X.gtrI Try.underlying3 rfl)) ?_;clear F ac;intro ac F
   refine Y.pv F (X.move rfl (F.ev 71 (.bool (decide ((p.hv i 1 : Int) < (onS (fun j => p.tv j 1) xs i xs.length)))))) ?_;clear F ac;intro ac F
   cases h17 : decide ((p.hv i 1 : Int) < (onS (fun j => p.tv j 1) xs i xs.length)) with
   | false =>
    try rw [h17] at F
    have h17p : ¬ ((p.hv i 1 : Int) < (onS (fun j => p.tv j 1) xs i xs.length)) := of_decide_eq_false h17
    refine Y.pg F 8 72 false (X.move rfl (F.ev 9 (Vi (onS (hund p hu) xs i xs.length)))) ?_;clear F ac;intro ac F
    refine Y.pg F 8 72 false (X.field rfl (F.ev 3 (Vp w.heap.size)) (X.fld Try.underlying27 rfl (Try.siz23 _) rfl rfl)) ?_;clear F ac;intro ac F
    refine Y.pg F 8 72 false (X.load rfl (F.ev 74 (.pointer (some ⟨w.heap.size, 1, none⟩))) (X.ld1 (Try.agg23 _) (hC.at 1 rfl))) ?_;clear F ac;intro ac F
    refine Y.pg F 8 72 false (X.move rfl (F.ev 7 (Vi i))) ?_;clear F ac;intro ac F
    refine Y.pg F 8 72 false (X.index rfl (F.ev 75 (.slice (some pd16) p.nh hc)) (F.ev 76 (Vi i)) (X.idx (k := i) Try.underlying23 (Try.siz53 _) (by omega) (by omega) rfl)) ?_;clear F ac;intro ac F
    refine Y.pg F 8 72 false (X.field rfl (F.ev 77 (.pointer (some (pd16.add (i * 6))))) (X.fld Try.underlying53 rfl (Try.siz3 _) rfl rfl)) ?_;clear F ac;intro ac F
    refine Y.pg F 8 72 false (X.load rfl (F.ev 78 (.pointer (some (⟨(pd16.add (i * 6)).block, (pd16.add (i * 6)).off + 2, none⟩)))) (X.ld1 (Try.agg3 _) (hC.at 6 rfl))) ?_;clear F ac;intro ac F
    refine Y.pg F 8 72 false (X.binop rfl (F.ev 73 (Vi (onS (hund p hu) xs i xs.length))) (F.ev 79 (Vi (p.hv i 2))) (X.gtrI Try.underlying3 rfl)) ?_;clear F ac;intro ac F
    refine Y.pv F (X.pickF rfl (F.ev 72 (.bool false)) (F.ev 80 (.bool (decide ((p.hv i 2 : Int) < (onS (hund p hu) xs i xs.length)))))) ?_;clear F ac;intro ac F
    refine Y.nt F [(1, .slice a xs.length c), (2, Vi hu), (3, Vp w.heap.size), (7, Vi i), (81, .bool (decide ((p.hv i 2 : Int) < (onS (hund p hu) xs i xs.length))))] ?_;clear F ac;intro ac F
    cases h18 : decide ((p.hv i 2 : Int) < (onS (hund p hu) xs i xs.length)) with
    | false =>
     try rw [h18] at F
     have h18p : ¬ ((p.hv i 2 : Int) < (onS (hund p hu) xs i xs.length)) := of_decide_eq_false h18
     refine Y.condF (F.ev 81 (.bool false)) ?_
     refine Y.skip ?_
     refine X.blockN (X.thenN ?_)
     refine Y.lg F [(1, .slice a xs.length c), (2, Vi hu), (3, Vp w.heap.size), (7, Vi ((i : Int) + 1))] (by
      refine Y.pv F (X.move rfl (F.ev 7 (Vi i))) fun ac F=>?_
      refine Y.pv F (X.binop rfl (F.ev 17 (Vi i)) (X.kc (Vi 1) rfl) (X.addI Try.underlying3 rfl (by omega) (by omega))) fun ac F=>?_
      refine Y.pv F (X.assign rfl (F.ev 18 (Vi ((i : Int) + 1)))) fun ac F=>?_
      exact Y.fin F) ?_;clear F ac;intro ac F
     refine ⟨_, ?_, i + 1, rfl, hO1, by omega, allN_succ hok (fitR_ok (by omega) (by omega) hlev), F.sub _⟩
     omega
    | true =>
     try rw [h18] at F
     have h18p : ((p.hv i 2 : Int) < (onS (hund p hu) xs i xs.length)) := of_decide_eq_true h18
     refine Y.condT (F.ev 81 (.bool true)) ?_
     refine Y.sg F [(6, .bool true)] (Y.pv F (X.assign rfl (X.kc (.bool true) rfl)) fun ac F=>Y.fin F) ?_;clear F ac;intro ac F
     refine Y.ret ?_
     refine X.blockR (X.thenR (X.thenR (X.blockR (X.thenR ?_))))
     exact Y.ret0 (v := .bool true) F (Y.r1 F) ⟨by rw [hopR_fit hi (by omega)], G⟩
   | true =>
    try rw [h17] at F
    have h17p : ((p.hv i 1 : Int) < (onS (fun j => p.tv j 1) xs i xs.length)) := of_decide_eq_true h17
    refine Y.ps F 8 72 true ?_;clear F ac;intro ac F
    refine Y.ps F 8 72 true ?_;clear F ac;intro ac F
    refine Y.ps F 8 72 true ?_;clear F ac;intro ac F
    refine Y.ps F 8 72 true ?_;clear F ac;intro ac F
    refine Y.ps F 8 72 true ?_;clear F ac;intro ac F
    refine Y.ps F 8 72 true ?_;clear F ac;intro ac F
    refine Y.ps F 8 72 true ?_;clear F ac;intro ac F
    refine Y.ps F 8 72 true ?_;clear F ac;intro ac F
    refine Y.pv F (X.pickT rfl (F.ev 72 (.bool true)) (X.kc (.bool true) rfl)) ?_;clear F ac;intro ac F
    refine Y.nt F [(1, .slice a xs.length c), (2, Vi hu), (3, Vp w.heap.size), (7, Vi i), (81, .bool true)] ?_;clear F ac;intro ac F
    refine Y.condT (F.ev 81 (.bool true)) ?_
    refine Y.sg F [(6, .bool true)] (Y.pv F (X.assign rfl (X.kc (.bool true) rfl)) fun ac F=>Y.fin F) ?_;clear F ac;intro ac F
    refine Y.ret ?_
    refine X.blockR (X.thenR (X.thenR (X.blockR (X.thenR ?_))))
    exact Y.ret0 (v := .bool true) F (Y.r1 F) ⟨by rw [hopR_fit hi (by omega)], G⟩
  | true =>
   try rw [h15] at F
   have h15p : ((k : Int) < xs.length) := of_decide_eq_true h15
   have hk : k < xs.length := by omega
   have htm := hp.tm k (by omega)
   have hhb := hund_bd hp hhu (i := k) (by omega)
   have hpr := prod8 (hp.tt k (by omega)) hhu
   have hb1 := onS_bd (g := fun j => p.tv j 1) (xs := xs) (h := i) (c := 100000) (k := k) (fun j hj => hp.tm j (by omega))
   have hb2 := onS_bd (g := hund p hu) (xs := xs) (h := i) (c := 200002000001) (k := k) (fun j hj => hund_bd hp hhu (by omega))
   have hhd : hund p hu k = (p.tv k 2 * hu + 99) / 100 := rfl
   refine Y.condT (F.ev 22 (.bool true)) ?_
   refine Y.skip ?_
   refine X.thenN ?_
   refine Y.seq ?_
   refine Y.block ?_
   refine Y.seq ?_
   refine Y.sl ?_
   refine Y.pv2 F (X.move rfl (F.ev 1 (.slice a xs.length c))) (fun _ F=>X.move rfl (F.ev 10 (Vi k))) ?_;clear F ac;intro ac F
   obtain ⟨pd19, pe19, -, pc19⟩ := hxs.at (j := k) (by omega)
   subst pe19
   replace hC := hC.append (show RCells w14 ([(pd19.add k, Vi (xs[k]?.getD 0))]) from (RCells.cons pc19 (RCells.nil _)))
   clear pc19
   refine Y.pval F (X.w0 rfl) rfl (X.index rfl (F.ev 25 (.slice (some pd19) xs.length c)) (F.ev 26 (Vi k)) (X.idx (k := k) Try.underlying34 (Try.siz3 _) (by omega) (by omega) (by rw [Nat.mul_one]))) ?_;clear F ac;intro ac F
   refine Y.pv3 F (X.load rfl (F.ev 27 (.pointer (some (pd19.add k)))) (X.ld1 (Try.agg3 _) (hC.at 4 rfl))) (fun _ F=>X.move rfl (F.ev 7 (Vi i))) (fun _ F=>X.binop rfl (F.ev 28 (Vi (xs[k]?.getD 0))) (F.ev 29 (Vi i)) (X.neqI Try.underlying3 rfl)) ?_;clear F ac;intro ac F
   refine Y.nt F [(1, .slice (some pd19) xs.length c), (2, Vi hu), (3, Vp w.heap.size), (7, Vi i), (8, Vi (onS (fun j => p.tv j 1) xs i k)), (9, Vi (onS (hund p hu) xs i k)), (10, Vi k), (30, .bool ((xs[k]?.getD 0 : Int) != i))] ?_;clear F ac;intro ac F
   cases h20 : ((xs[k]?.getD 0 : Int) != i) with
   | false =>
    try rw [h20] at F
    have h20p : (xs[k]?.getD 0 : Int) = i := by simpa using h20
    refine Y.condF (F.ev 30 (.bool false)) ?_
    refine Y.skip ?_
    refine X.thenN ?_
    refine Y.sl ?_
    refine Y.pv4 F (X.move rfl (F.ev 8 (Vi (onS (fun j => p.tv j 1) xs i k)))) (fun _ F=>X.field rfl (F.ev 3 (Vp w.heap.size)) (X.fld Try.underlying27 rfl (Try.siz22 _) rfl rfl)) (fun _ F=>X.load rfl (F.ev 32 (Vp w.heap.size)) (X.ld1 (Try.agg22 _) (hC.at 0 rfl))) (fun _ F=>X.move rfl (F.ev 10 (Vi k))) ?_;clear F ac;intro ac F
    obtain ⟨pd21, pe21, -, pc21⟩ := hpt.at (j := k) (by omega)
    subst pe21
    replace hC := hC.append (show RCells w14 (Y.cs (pd21.add (k * 4)) [.string (p.tn k), Vi (p.tv k 1), Vi (p.tv k 2), Vi (p.tv k 3)]) from (RCells.cons (pc21 0 (by decide)) (RCells.cons (pc21 1 (by decide)) (RCells.cons (pc21 2 (by decide)) (RCells.cons (pc21 3 (by decide)) (RCells.nil _))))))
    clear pc21
    refine Y.pv4 F (X.index rfl (F.ev 33 (.slice (some pd21) p.nt tc)) (F.ev 34 (Vi k)) (X.idx (k := k) Try.underlying22 (Try.siz74 _) (by omega) (by omega) rfl)) (fun _ F=>X.field rfl (F.ev 35 (.pointer (some (pd21.add (k * 4))))) (X.fld Try.underlying74 rfl (Try.siz3 _) rfl rfl)) (fun _ F=>X.load rfl (F.ev 36 (.pointer (some (⟨(pd21.add (k * 4)).block, (pd21.add (k * 4)).off + 1, none⟩)))) (X.ld1 (Try.agg3 _) (hC.at 6 rfl))) (fun _ F=>X.binop rfl (F.ev 31 (Vi (onS (fun j => p.tv j 1) xs i k))) (F.ev 37 (Vi (p.tv k 1))) (X.addI Try.underlying3 rfl (by omega) (by omega))) ?_;clear F ac;intro ac F
    refine Y.pv F (X.assign rfl (F.ev 38 (Vi ((onS (fun j => p.tv j 1) xs i k : Int) + (p.tv k 1))))) ?_;clear F ac;intro ac F
    refine Y.nt F [(1, .slice (some pd19) xs.length c), (2, Vi hu), (3, Vp w.heap.size), (7, Vi i), (8, Vi ((onS (fun j => p.tv j 1) xs i k : Int) + (p.tv k 1))), (9, Vi (onS (hund p hu) xs i k)), (10, Vi k)] ?_;clear F ac;intro ac F
    refine Y.sg F [(1, .slice (some pd19) xs.length c), (2, Vi hu), (3, Vp w.heap.size), (7, Vi i), (8, Vi ((onS (fun j => p.tv j 1) xs i k : Int) + (p.tv k 1))), (9, Vi ((onS (hund p hu) xs i k : Int) + ((((p.tv k 2 : Int) * hu : Int) + 99 : Int) / 100))), (10, Vi k)] (by
     refine Y.pv F (X.move rfl (F.ev 9 (Vi (onS (hund p hu) xs i k)))) fun ac F=>?_
     refine Y.pv F (X.field rfl (F.ev 3 (Vp w.heap.size)) (X.fld Try.underlying27 rfl (Try.siz22 _) rfl rfl)) fun ac F=>?_
     refine Y.pv F (X.load rfl (F.ev 40 (Vp w.heap.size)) (X.ld1 (Try.agg22 _) (hC.at 0 rfl))) fun ac F=>?_
     refine Y.pv F (X.move rfl (F.ev 10 (Vi k))) fun ac F=>?_
     refine Y.pv F (X.index rfl (F.ev 41 (.slice (some pd21) p.nt tc)) (F.ev 42 (Vi k)) (X.idx (k := k) Try.underlying22 (Try.siz74 _) (by omega) (by omega) rfl)) fun ac F=>?_
     refine Y.pv F (X.field rfl (F.ev 43 (.pointer (some (pd21.add (k * 4))))) (X.fld Try.underlying74 rfl (Try.siz3 _) rfl rfl)) fun ac F=>?_
     refine Y.pv F (X.load rfl (F.ev 44 (.pointer (some (⟨(pd21.add (k * 4)).block, (pd21.add (k * 4)).off + 2, none⟩)))) (X.ld1 (Try.agg3 _) (hC.at 7 rfl))) fun ac F=>?_
     refine Y.pv F (X.move rfl (F.ev 2 (Vi hu))) fun ac F=>?_
     refine Y.pv F (X.binop rfl (F.ev 45 (Vi (p.tv k 2))) (F.ev 46 (Vi hu)) (X.mulI Try.underlying3 rfl (by omega) (by omega))) fun ac F=>?_
     refine Y.pv F (X.binop rfl (F.ev 47 (Vi ((p.tv k 2 : Int) * hu))) (X.kc (Vi 99) rfl) (X.addI Try.underlying3 rfl (by omega) (by omega))) fun ac F=>?_
     refine Y.pv F (X.binop rfl (F.ev 48 (Vi (((p.tv k 2 : Int) * hu : Int) + 99))) (X.kc (Vi 100) rfl) (X.quoI Try.underlying3 rfl (by omega) (by omega))) fun ac F=>?_
     refine Y.pv F (X.binop rfl (F.ev 39 (Vi (onS (hund p hu) xs i k))) (F.ev 49 (Vi ((((p.tv k 2 : Int) * hu : Int) + 99 : Int) / 100))) (X.addI Try.underlying3 rfl (by omega) (by omega))) fun ac F=>?_
     refine Y.pv F (X.assign rfl (F.ev 50 (Vi ((onS (hund p hu) xs i k : Int) + ((((p.tv k 2 : Int) * hu : Int) + 99 : Int) / 100))))) fun ac F=>?_
     exact Y.fin F) ?_;clear F ac;intro ac F
    refine Y.seq ?_
    obtain ⟨pd22, pe22, -, pc22⟩ := hph.at (j := i) (by omega)
    subst pe22
    replace hC := hC.append (show RCells w14 (Y.cs (pd22.add (i * 6)) [.string (p.hn i), Vi (p.hv i 1), Vi (p.hv i 2), Vi (p.hv i 3), Vi (p.hv i 4), Vi (p.hv i 5)]) from (RCells.cons (pc22 0 (by decide)) (RCells.cons (pc22 1 (by decide)) (RCells.cons (pc22 2 (by decide)) (RCells.cons (pc22 3 (by decide)) (RCells.cons (pc22 4 (by decide)) (RCells.cons (pc22 5 (by decide)) (RCells.nil _))))))))
    clear pc22
    refine Y.region F [some (Vp w.heap.size), some (.slice (some pd21) p.nt tc), some (Vi k), some (.pointer (some (pd21.add (k * 4)))), some (.pointer (some (⟨(pd21.add (k * 4)).block, (pd21.add (k * 4)).off + 3, none⟩))), some (Vi (p.tv k 3)), some (.pointer (some ⟨w.heap.size, 1, none⟩)), some (.slice (some pd22) p.nh hc), some (Vi i), some (.pointer (some (pd22.add (i * 6)))), some (.pointer (some (⟨(pd22.add (i * 6)).block, (pd22.add (i * 6)).off + 3, none⟩))), some (Vi (p.hv i 3)), some (.bool (decide ((p.hv i 3 : Int) < (p.tv k 3))))] [] rfl ⟨by kernel_rfl, of_decide_eq_true (by kernel_rfl), by kernel_rfl, by kernel_rfl, by kernel_rfl⟩ ⟨?_, ?_, ?_, ?_, ?_, ?_, ?_, ?_, ?_, ?_, ?_, ?_, ?_, trivial⟩ ?_
    ·intro ac done u W Sx hR
     exact X.vl (X.field rfl (Sx.ev 3 (Vp w.heap.size)) (X.fld Try.underlying27 rfl (Try.siz22 _) rfl rfl)) hR.st0
    ·intro ac done u W Sx hR
     have g : Gr w14 W := hR.1
     exact X.vl (X.load rfl (Sx.ev 51 (Vp w.heap.size)) (X.ld1 (Try.agg22 _) ((hC.gr g).at 0 rfl))) hR.st0
    ·intro ac done u W Sx hR
     exact X.vl (X.move rfl (Sx.ev 10 (Vi k))) hR.st0
    ·intro ac done u W Sx hR
     exact X.vl (X.index rfl (Sx.ev 52 (.slice (some pd21) p.nt tc)) (Sx.ev 53 (Vi k)) (X.idx (k := k) Try.underlying22 (Try.siz74 _) (by omega) (by omega) rfl)) hR.st0
    ·intro ac done u W Sx hR
     exact X.vl (X.field rfl (Sx.ev 54 (.pointer (some (pd21.add (k * 4))))) (X.fld Try.underlying74 rfl (Try.siz3 _) rfl rfl)) hR.st0
    ·intro ac done u W Sx hR
     have g : Gr w14 W := hR.1
     exact X.vl (X.load rfl (Sx.ev 55 (.pointer (some (⟨(pd21.add (k * 4)).block, (pd21.add (k * 4)).off + 3, none⟩)))) (X.ld1 (Try.agg3 _) ((hC.gr g).at 8 rfl))) hR.st0
    ·intro ac done u W Sx hR
     exact X.vl (X.field rfl (Sx.ev 3 (Vp w.heap.size)) (X.fld Try.underlying27 rfl (Try.siz23 _) rfl rfl)) hR.st0
    ·intro ac done u W Sx hR
     have g : Gr w14 W := hR.1
     exact X.vl (X.load rfl (Sx.ev 57 (.pointer (some ⟨w.heap.size, 1, none⟩))) (X.ld1 (Try.agg23 _) ((hC.gr g).at 1 rfl))) hR.st0
    ·intro ac done u W Sx hR
     exact X.vl (X.move rfl (Sx.ev 7 (Vi i))) hR.st0
    ·intro ac done u W Sx hR
     exact X.vl (X.index rfl (Sx.ev 58 (.slice (some pd22) p.nh hc)) (Sx.ev 59 (Vi i)) (X.idx (k := i) Try.underlying23 (Try.siz53 _) (by omega) (by omega) rfl)) hR.st0
    ·intro ac done u W Sx hR
     exact X.vl (X.field rfl (Sx.ev 60 (.pointer (some (pd22.add (i * 6))))) (X.fld Try.underlying53 rfl (Try.siz3 _) rfl rfl)) hR.st0
    ·intro ac done u W Sx hR
     have g : Gr w14 W := hR.1
     exact X.vl (X.load rfl (Sx.ev 61 (.pointer (some (⟨(pd22.add (i * 6)).block, (pd22.add (i * 6)).off + 3, none⟩)))) (X.ld1 (Try.agg3 _) ((hC.gr g).at 12 rfl))) hR.st0
    ·intro ac done u W Sx hR
     exact X.vl (X.binop rfl (Sx.ev 56 (Vi (p.tv k 3))) (Sx.ev 62 (Vi (p.hv i 3))) (X.gtrI Try.underlying3 rfl)) hR.st0
    intro ac u w23 hs hd hl ho hR
    have g : Gr w14 w23 := hR.1
    replace F : Fr ac 98 [(1, .slice (some pd19) xs.length c), (2, Vi hu), (3, Vp w.heap.size), (7, Vi i), (8, Vi ((onS (fun j => p.tv j 1) xs i k : Int) + (p.tv k 1))), (9, Vi ((onS (hund p hu) xs i k : Int) + ((((p.tv k 2 : Int) * hu : Int) + 99 : Int) / 100))), (10, Vi k), (63, .bool (decide ((p.hv i 3 : Int) < (p.tv k 3))))] := X.fr hs hd hl _ (by kernel_rfl)
    clear hs hd hl ho hR
    replace G := G.trans g
    replace hC := hC.gr g
    replace hO1 := hO1.thenGr g
    replace hO2 := hO2.thenGr g
    replace hpt := hpt.gr g
    replace hph := hph.gr g
    replace hpb := hpb.gr g
    replace hpl := hpl.gr g
    replace hxs := hxs.gr g
    clear g
    refine X.thenN ?_
    cases h24 : decide ((p.hv i 3 : Int) < (p.tv k 3)) with
    | false =>
     try rw [h24] at F
     have h24p : ¬ ((p.hv i 3 : Int) < (p.tv k 3)) := of_decide_eq_false h24
     refine Y.condF (F.ev 63 (.bool false)) ?_
     refine Y.skip ?_
     refine X.blockN (X.thenN ?_)
     refine Y.lg F [(1, .slice (some pd19) xs.length c), (2, Vi hu), (3, Vp w.heap.size), (7, Vi i), (8, Vi ((onS (fun j => p.tv j 1) xs i k : Int) + (p.tv k 1))), (9, Vi ((onS (hund p hu) xs i k : Int) + ((((p.tv k 2 : Int) * hu : Int) + 99 : Int) / 100))), (10, Vi ((k : Int) + 1))] (by
      refine Y.pv F (X.move rfl (F.ev 10 (Vi k))) fun ac F=>?_
      refine Y.pv F (X.binop rfl (F.ev 23 (Vi k)) (X.kc (Vi 1) rfl) (X.addI Try.underlying3 rfl (by omega) (by omega))) fun ac F=>?_
      refine Y.pv F (X.assign rfl (F.ev 24 (Vi ((k : Int) + 1)))) fun ac F=>?_
      exact Y.fin F) ?_;clear F ac;intro ac F
     refine ⟨_, ?_, k + 1, rfl, hO2, by omega, allN_succ hlev (levR_ok (by omega)), (by rw [show onS (hund p hu) xs i (k + 1) = (onS (hund p hu) xs i k : Int) + ((((p.tv k 2 : Int) * hu : Int) + 99 : Int) / 100) from onS_eq (by omega), show onS (fun j => p.tv j 1) xs i (k + 1) = (onS (fun j => p.tv j 1) xs i k : Int) + (p.tv k 1) from onS_eq (by omega)]; exact F.sub _)⟩
     omega
    | true =>
     try rw [h24] at F
     have h24p : ((p.hv i 3 : Int) < (p.tv k 3)) := of_decide_eq_true h24
     refine Y.condT (F.ev 63 (.bool true)) ?_
     refine Y.sg F [(6, .bool true)] (Y.pv F (X.assign rfl (X.kc (.bool true) rfl)) fun ac F=>Y.fin F) ?_;clear F ac;intro ac F
     refine Y.ret ?_
     refine X.blockR (X.thenR (X.thenR (X.blockR (X.thenR (X.blockR (X.thenR (X.thenR (X.blockR (X.thenR ?_)))))))))
     exact Y.ret0 (v := .bool true) F (Y.r1 F) ⟨by rw [hopR_lev hk (by omega) (by omega)], G⟩
   | true =>
    try rw [h20] at F
    have h20p : ¬ (xs[k]?.getD 0 : Int) = i := by simpa using h20
    refine Y.condT (F.ev 30 (.bool true)) ?_
    refine Y.exit ?_
    refine X.thenX (X.blockX (X.thenN ?_))
    refine Y.lg F [(1, .slice (some pd19) xs.length c), (2, Vi hu), (3, Vp w.heap.size), (7, Vi i), (8, Vi (onS (fun j => p.tv j 1) xs i k)), (9, Vi (onS (hund p hu) xs i k)), (10, Vi ((k : Int) + 1))] (by
     refine Y.pv F (X.move rfl (F.ev 10 (Vi k))) fun ac F=>?_
     refine Y.pv F (X.binop rfl (F.ev 23 (Vi k)) (X.kc (Vi 1) rfl) (X.addI Try.underlying3 rfl (by omega) (by omega))) fun ac F=>?_
     refine Y.pv F (X.assign rfl (F.ev 24 (Vi ((k : Int) + 1)))) fun ac F=>?_
     exact Y.fin F) ?_;clear F ac;intro ac F
    refine ⟨_, ?_, k + 1, rfl, hO2, by omega, allN_succ hlev (levR_ok (by omega)), (by rw [show onS (hund p hu) xs i (k + 1) = onS (hund p hu) xs i k from onS_ne (by omega), show onS (fun j => p.tv j 1) xs i (k + 1) = onS (fun j => p.tv j 1) xs i k from onS_ne (by omega)]; exact F.sub _)⟩
    omega
end
section
open Go.RowKit

theorem BegAt.none {W : World} {B : Nat} {a : Option Addr} {c : Nat} {xs : List Int} (h : BegAt W B a c xs) : a = none → xs.length = 0 ∧ c = 0 := fun e => by
  subst e
  have h0 : xs.length = 0 := by
    rcases Nat.eq_zero_or_pos xs.length with h1 | h1
    · exact h1
    · obtain ⟨_, e, _⟩ := h.i.at h1; cases e
  exact ⟨h0, (h.nil h0).2⟩
theorem OnlyG {w W W' : World} {v : Value} (g : Gr w W) (hon : Only (fun b => v.ownBlock = some b) W W') (h : ∀ b, v.ownBlock = some b → w.heap.size ≤ b) : Gr w W' :=
  ((g.only (fun b => v.ownBlock = some b)).trans hon).gr (fun i hi e => by have := h i e; omega)
/-- what the search does from a beginning on, with m tasks to come -/
def VisC {σ : Type} (p : Pb) (bp by_ bv : Nat) (Yb : Nat → Prop) (w0 : World) (st : σ → List Int → σ × Bool × Bool) (J : σ → (Nat → Prop) → (Nat → Prop) → World → Prop) (Z : World → Prop) (m : Nat) : Prop :=
  ∀ (xs : List Int) (a : Option Addr) (c : Nat) (s : σ) (O Kp : Nat → Prop) (w : World), xs.length + m = p.nt → HosOk p xs → BegAt w w0.heap.size a c xs → (∀ ad, a = some ad → ¬ O ad.block) → (∀ b, O b → Yb b ∨ w0.heap.size ≤ b) → Only Yb w0 w → J s O Kp w →
    Calls Try.prog 103 #[.slice a xs.length c, .agg (ldA (ldV p xs xs.length)).toArray, Vp bp, Vp by_, Vp bv] w fun e w' =>
      (e = .returned (.bool true) ∧ ∃ s' O' Kp', visF p.nh (hopeB p (tim p)) st m xs s = (s', true) ∧ J s' O' Kp' w' ∧ Only O w w' ∧ (∀ b, O' b → O b ∨ w.heap.size ≤ b)) ∨ (e = .returned (.bool false) ∧ (visF p.nh (hopeB p (tim p)) st m xs s).2 = false ∧ Z w')
/-- what a round does: st says the new state, whether it goes deeper, whether it goes on -/
def VisY {σ : Type} (p : Pb) (lp : Nat) (Yb : Nat → Prop) (w0 : World) (st : σ → List Int → σ × Bool × Bool) (J : σ → (Nat → Prop) → (Nat → Prop) → World → Prop) (Z : World → Prop) : Prop :=
  ∀ (s : σ) (O Kp : Nat → Prop) (xs : List Int) (d : Nat) (a : Option Addr) (c : Nat) (W : World), J s O Kp W → (∀ b, O b → Yb b ∨ w0.heap.size ≤ b) → Only Yb w0 W → xs.length ≤ p.nt → HosOk p xs → BegAt W w0.heap.size a c xs → w0.heap.size ≤ d → (∀ ad, a = some ad → ad.block ≠ d) → ¬ O d → ¬ Kp d → (∀ ad, a = some ad → ¬ O ad.block) → OwnP W d 1 (fun _ => .bool true) →
    YieldAt Fence.wide 0 Try.prog lp #[ndV p a c d xs] W fun e W' => ∃ b, e = .returned (.bool b) ∧ ((b = true ∧ (st s xs).2.2 = true ∧ ∃ O' Kp', J (st s xs).1 O' Kp' W' ∧ OwnP W' d 1 (fun _ => .bool (st s xs).2.1) ∧ Only (fun x => O x ∨ x = d) W W' ∧ (∀ b, O' b → O b ∨ W.heap.size ≤ b)) ∨ (b = false ∧ (st s xs).2.2 = false ∧ Z W'))
set_option maxRecDepth 100000 in
set_option maxHeartbeats 4000000 in
theorem visit_step {σ : Type} (p : Pb) (ta ha ba la : Option Addr) (tc hc bc lc bp by_ bv lp : Nat) (Yb : Nat → Prop) (w0 : World) (st : σ → List Int → σ × Bool × Bool) (J : σ → (Nat → Prop) → (Nat → Prop) → World → Prop) (Z : World → Prop) (m : Nat)
  (hp : PbOk p) (hYb : ∀ b, Yb b → b < w0.heap.size) (hE : ∀ W, Only Yb w0 W → VisE W p ta ha ba la tc hc bc lc bp by_ bv lp) (hJl : ∀ s O Kp W, J s O Kp W → ∀ b, O b ∨ Kp b → b < W.heap.size) (hJg : ∀ s O Kp W W', J s O Kp W → Gr W W' → J s O Kp W') (hYd : VisY p lp Yb w0 st J Z)
  (ih : ∀ k, m = k + 1 → VisC p bp by_ bv Yb w0 st J Z k)
  (xs : List Int) (a : Option Addr) (c : Nat) (s : σ) (O Kp : Nat → Prop) (w : World) (hm : xs.length + m = p.nt) (hx : HosOk p xs) (hB : BegAt w w0.heap.size a c xs) (hOa : ∀ ad, a = some ad → ¬ O ad.block) (hOs : ∀ b, O b → Yb b ∨ w0.heap.size ≤ b) (hO : Only Yb w0 w) (hJ : J s O Kp w) :
  Calls Try.prog 103 #[.slice a xs.length c, .agg (ldA (ldV p xs xs.length)).toArray, Vp bp, Vp by_, Vp bv] w fun e w' => (e = .returned (.bool true) ∧ ∃ s' O' Kp', visF p.nh (hopeB p (tim p)) st m xs s = (s', true) ∧ J s' O' Kp' w' ∧ Only O w w' ∧ (∀ b, O' b → O b ∨ w.heap.size ≤ b)) ∨ (e = .returned (.bool false) ∧ (visF p.nh (hopeB p (tim p)) st m xs s).2 = false ∧ Z w') := by
 have G := Gr.refl w
 have h10 := hp.t10
 have h6 := hp.h6
 have hs0 := hO.size
 have hOw := Only.refl O w
 have hE2 := hE w hO
 have hP := hE2.P
 have hC := hE2.c
 clear hE2
 have hpt := hP.t
 have hph := hP.h
 have hpb := hP.b
 have hpl := hP.l
 have hplen := hP.len
 obtain ⟨hn1, hn2, hn3, hn4⟩ := hplen
 have hcp1 := hpt.cap
 have hcp2 := hph.cap
 have hcp3 := hpb.cap
 have hcp4 := hpl.cap
 have hxs := hB.i
 have hlt := hxs.lt
 have hq1 : bp < w.heap.size := lt_cell (hC.at 0 rfl)
 have hq2 : by_ < w.heap.size := lt_cell (hC.at 4 rfl)
 have hq3 : bv < w.heap.size := lt_cell (hC.at 5 rfl)
 refine Y.calls 63 Try.func103 rfl rfl ?_
 intro ac F0
 have F : Fr ac 63 [(0, .slice a xs.length c), (1, .agg (ldA (ldV p xs xs.length)).toArray), (2, Vp bp), (3, Vp by_), (4, Vp bv)] := F0.sub _
 clear F0
 refine Y.sl ?_
 refine Y.pv F (X.box rfl (F.ev 1 (.agg (ldA (ldV p xs xs.length)).toArray)) X.bx) ?_;clear F ac;intro ac F
 have g := Gr.alloc w (.cells (ldA (ldV p xs xs.length)).toArray 108)
 have hb := heap_alloc_new w (.cells (ldA (ldV p xs xs.length)).toArray 108)
 have hszw3 : w.heap.size < (w.alloc (.cells (ldA (ldV p xs xs.length)).toArray 108)).heap.size := by simp
 have hgsw3 : w.heap.size ≤ w.heap.size := G.size
 generalize w.alloc (.cells (ldA (ldV p xs xs.length)).toArray 108) = w3 at *
 replace G := G.trans g
 replace hC := hC.gr g
 replace hO := hO.thenGr g
 replace hOw := hOw.thenGr g
 replace hpt := hpt.gr g
 replace hph := hph.gr g
 replace hpb := hpb.gr g
 replace hpl := hpl.gr g
 replace hxs := hxs.gr g
 have hVw3 : OwnP w3 w.heap.size 18 (LV (ldV p xs xs.length)) := ld_own hb
 clear g hb
 refine Y.pv F (X.assign rfl (X.kc (.bool false) rfl)) ?_;clear F ac;intro ac F
 refine Y.nt F [(0, .slice a xs.length c), (2, Vp bp), (3, Vp by_), (4, Vp bv), (6, Vp w.heap.size)] ?_;clear F ac;intro ac F
 refine Y.sl ?_
 refine Y.pv F (Y.al rfl (Try.new4 _)) ?_;clear F ac;intro ac F
 have g := Gr.alloc w3 (.cells #[.bool false] 4)
 have hb := heap_alloc_new w3 (.cells #[.bool false] 4)
 have hszw4 : w3.heap.size < (w3.alloc (.cells #[.bool false] 4)).heap.size := by simp
 have hgsw4 : w.heap.size ≤ w3.heap.size := G.size
 generalize w3.alloc (.cells #[.bool false] 4) = w4 at *
 replace G := G.trans g
 replace hC := hC.gr g
 replace hO := hO.thenGr g
 replace hOw := hOw.thenGr g
 replace hpt := hpt.gr g
 replace hph := hph.gr g
 replace hpb := hpb.gr g
 replace hpl := hpl.gr g
 replace hxs := hxs.gr g
 replace hVw3 := hVw3.gr g
 have hVw4 : OwnP w4 w3.heap.size 1 (VL [.bool false]) := ownP_bx (vs := [.bool false]) hb
 clear g hb
 refine Y.punit F (X.w0 rfl) rfl (X.store rfl (F.ev 8 (Vp w3.heap.size)) (X.kc (.bool true) rfl) (hVw4.st1 (Try.siz4 _) rfl rfl (by omega))) ?_;clear F ac;intro ac F
 have hon := Y.set_only w4 w3.heap.size 0 (.bool true)
 have hV2 := hVw4.set (k := 0) (.bool true)
 replace hV2 := hV2.congr (val' := fun _ => .bool true) (fun k hk => if_pos (by omega))
 generalize w4.setCell ⟨w3.heap.size, 0, none⟩ (.bool true) = w5 at *
 replace hVw4 : OwnP w5 w3.heap.size 1 (fun _ => .bool true) := hV2
 clear hV2
 replace G := Y.Only.up G hon (by omega)
 replace hpt := (hP.t).gr G
 replace hph := (hP.h).gr G
 replace hpb := (hP.b).gr G
 replace hpl := (hP.l).gr G
 replace hxs := (hB.i).gr G
 replace hVw3 := hVw3.only hon (by show ¬ _ = _; omega)
 replace hO := hO.step hon (.inr (by omega))
 replace hOw := hOw.step hon (.inr (by omega))
 replace hC := (hC.kc hon 0 rfl (hC.kc hon 1 rfl (hC.kc hon 2 rfl (hC.kc hon 3 rfl (hC.kc hon 4 rfl (hC.kc hon 5 rfl (RCells.nil _)))))))
 clear hon
 refine Y.nt F [(0, .slice a xs.length c), (2, Vp bp), (3, Vp by_), (4, Vp bv), (6, Vp w.heap.size), (8, Vp w3.heap.size)] ?_;clear F ac;intro ac F
 refine Y.seq ?_
 have hd5 := hVw4.lt
 refine region_xi F [some (.slice a xs.length c), some (.agg #[.slice ta p.nt tc, .slice ha p.nh hc, .slice ba p.nb bc, .slice la p.nl lc]), some (.slice a xs.length c), some (.agg (ldA (ldV p xs xs.length)).toArray), some (.bool (hopeB p (tim p) xs)), some (.agg #[.slice ta p.nt tc, .slice ha p.nh hc, .slice ba p.nb bc, .slice la p.nl lc]), some (.slice a xs.length c), some (.agg (ldA (ldV p xs xs.length)).toArray), some (Vi (bndV p xs)), some (.agg #[.slice a xs.length c, .bool (hopeB p (tim p) xs), Vi (bndV p xs), Vp w3.heap.size]), none, none] (RN w5 10 11 4 (VL [.slice none 0 0, .bool false, Vi 0, .pointer none]) (VL [.slice a xs.length c, .bool (hopeB p (tim p) xs), Vi (bndV p xs), Vp w3.heap.size])) rfl ⟨by kernel_rfl, of_decide_eq_true (by kernel_rfl), by kernel_rfl, by kernel_rfl, by kernel_rfl⟩ (fun _ => ⟨RN.start (Gr.refl _), RN.start (Gr.drew _)⟩) ⟨?_, ?_, ?_, ?_, ?_, ?_, ?_, ?_, ?_, ?_, ?_, ?_, trivial⟩ ?_
 ·intro ac done u W Sx hR
  have g : Gr w5 W := hR.g
  exact X.vl (X.move rfl (Sx.ev 0 (.slice a xs.length c))) (hR.quiet (Gr.refl _) (by decide))
 ·intro ac done u W Sx hR
  have g : Gr w5 W := hR.g
  exact X.vl (X.load rfl (Sx.ev 2 (Vp bp)) (X.ldN (Try.agg27 _) (Try.siz27 _) (Y.atz (⟨bp, 0, none⟩) (Y.AtFrom.cons ((hC.gr g).at 0 rfl) (Y.AtFrom.cons ((hC.gr g).at 1 rfl) (Y.AtFrom.cons ((hC.gr g).at 2 rfl) (Y.AtFrom.cons ((hC.gr g).at 3 rfl) (Y.AtFrom.nil _ _ _)))))))) (hR.quiet (Gr.refl _) (by decide))
 ·intro ac done u W Sx hR
  have g : Gr w5 W := hR.g
  exact X.vl (X.move rfl (Sx.ev 0 (.slice a xs.length c))) (hR.quiet (Gr.refl _) (by decide))
 ·intro ac done u W Sx hR
  have g : Gr w5 W := hR.g
  exact X.vl (X.load rfl (Sx.ev 6 (Vp w.heap.size)) (ld_load (hVw3.gr g) (Try.agg108 _) (Try.siz108 _))) (hR.quiet (Gr.refl _) (by decide))
 ·intro ac done u W Sx hR
  have g : Gr w5 W := hR.g
  refine X.call (X.w0 rfl) (X.enter (F := 72) rfl (X.kc (.func (.func 72) #[] #[]) rfl) (X.a3 (Sx.ev 12 (.agg #[.slice ta p.nt tc, .slice ha p.nh hc, .slice ba p.nb bc, .slice la p.nl lc])) (Sx.ev 13 (.slice a xs.length c)) (Sx.ev 14 (.agg (ldA (ldV p xs xs.length)).toArray))) (enters_of Try.func72 (by kernel_rfl) rfl _)) (by have hq := hop_any p ta ha ba la tc hc bc lc a c xs (ldV p xs xs.length) W (hP.gr (G.trans g)) (hB.i.gr (G.trans g)) hp hx (by omega); rw [hope_ld hx] at hq; exact hq) ?_
  rintro e W2 ⟨rfl, g2⟩
  exact ⟨_, rfl, X.kn rfl, hR.quiet g2 (by decide)⟩
 ·intro ac done u W Sx hR
  have g : Gr w5 W := hR.g
  exact X.vl (X.load rfl (Sx.ev 2 (Vp bp)) (X.ldN (Try.agg27 _) (Try.siz27 _) (Y.atz (⟨bp, 0, none⟩) (Y.AtFrom.cons ((hC.gr g).at 0 rfl) (Y.AtFrom.cons ((hC.gr g).at 1 rfl) (Y.AtFrom.cons ((hC.gr g).at 2 rfl) (Y.AtFrom.cons ((hC.gr g).at 3 rfl) (Y.AtFrom.nil _ _ _)))))))) (hR.quiet (Gr.refl _) (by decide))
 ·intro ac done u W Sx hR
  have g : Gr w5 W := hR.g
  exact X.vl (X.move rfl (Sx.ev 0 (.slice a xs.length c))) (hR.quiet (Gr.refl _) (by decide))
 ·intro ac done u W Sx hR
  have g : Gr w5 W := hR.g
  exact X.vl (X.load rfl (Sx.ev 6 (Vp w.heap.size)) (ld_load (hVw3.gr g) (Try.agg108 _) (Try.siz108 _))) (hR.quiet (Gr.refl _) (by decide))
 ·intro ac done u W Sx hR
  have g : Gr w5 W := hR.g
  refine X.call (X.w0 rfl) (X.enter (F := 76) rfl (X.kc (.func (.func 76) #[] #[]) rfl) (X.a3 (Sx.ev 16 (.agg #[.slice ta p.nt tc, .slice ha p.nh hc, .slice ba p.nb bc, .slice la p.nl lc])) (Sx.ev 17 (.slice a xs.length c)) (Sx.ev 18 (.agg (ldA (ldV p xs xs.length)).toArray))) (enters_of Try.func76 (by kernel_rfl) rfl _)) (by have hq := bnd_any p ta ha ba la tc hc bc lc a c xs (ldV p xs xs.length) W (hP.gr (G.trans g)) (hB.i.gr (G.trans g)) hp hx (by omega); rw [bnd_ld hx] at hq; exact hq) ?_
  rintro e W2 ⟨rfl, g2⟩
  exact ⟨_, rfl, X.kn rfl, hR.quiet g2 (by decide)⟩
 ·intro ac done u W Sx hR
  have g : Gr w5 W := hR.g
  exact X.vl (Y.bd rfl (X.b4 (Sx.ev 11 (.slice a xs.length c)) (Sx.ev 15 (.bool (hopeB p (tim p) xs))) (Sx.ev 19 (Vi (bndV p xs))) (Sx.ev 8 (Vp w3.heap.size))) (Try.bd102 _ _ _ _ _ _ _)) (hR.quiet (Gr.refl _) (by decide))
 ·intro ac done u W Sx hR
  have g : Gr w5 W := hR.g
  exact X.valN (X.w0 rfl) rfl (Y.al rfl (Try.new102 _)) (hR.sa (by decide) (Sx.no 11 (by kernel_rfl)) (Gr.alloc _ _) g.size (ownP_bx (vs := [.slice none 0 0, .bool false, Vi 0, .pointer none]) (World.alloc_heap_new _ _)))
 ·intro ac done u W Sx hR
  have g : Gr w5 W := hR.g
  obtain ⟨q, e10, hq, hq2⟩ := hR.ga (Sx.an 10 (by kernel_rfl)) Sx.nd
  obtain ⟨W2, hrun, hV2, hon⟩ := ownP_store (P := Try.prog) (vs := [.slice a xs.length c, .bool (hopeB p (tim p) xs), Vi (bndV p xs), Vp w3.heap.size]) (t := 102) hq2 rfl (fun W => Try.siz102 W) rfl
  exact X.unit (X.w0 rfl) rfl (X.store rfl ((Sx.own 10 9 rfl).trans e10) (Sx.ev 20 (.agg #[.slice a xs.length c, .bool (hopeB p (tim p) xs), Vi (bndV p xs), Vp w3.heap.size])) hrun) (hR.sb (by decide) e10 (Y.Only.up g hon hq) hq hV2)
 rintro ac u w6 hs hd hl_ ho hR
 obtain ⟨q9, e10, hq9, hN⟩ := hR.gb rfl
 have g : Gr w5 w6 := hR.g
 replace F : Fr ac 63 [(0, .slice a xs.length c), (2, Vp bp), (3, Vp by_), (4, Vp bv), (6, Vp w.heap.size), (8, Vp w3.heap.size)] := X.fr hs hd hl_ _ (by kernel_rfl)
 replace F := F.add (ho 10 9 rfl) e10
 clear hs hd hl_ ho hR e10
 replace F : Fr ac 63 [(0, .slice a xs.length c), (2, Vp bp), (3, Vp by_), (4, Vp bv), (6, Vp w.heap.size), (8, Vp w3.heap.size), (9, Vp q9)] := F.sub _
 replace G := G.trans g
 replace hC := hC.gr g
 replace hO := hO.thenGr g
 replace hOw := hOw.thenGr g
 replace hpt := hpt.gr g
 replace hph := hph.gr g
 replace hpb := hpb.gr g
 replace hpl := hpl.gr g
 replace hxs := hxs.gr g
 replace hVw3 := hVw3.gr g
 replace hVw4 := hVw4.gr g
 clear g
 refine X.thenN ?_
 refine Y.seq ?_
 refine Y.seq ?_
 refine Y.litcutk 2 _ rfl (by kernel_rfl) ?_
 simp only [List.take_succ_cons, List.take_zero, List.drop_succ_cons, List.drop_zero]
 refine Y.pv2 F (X.load rfl (F.ev 3 (Vp by_)) (X.ld1 (Try.agg128 _) (hC.at 4 rfl))) (fun _ F=>X.load rfl (F.ev 9 (Vp q9)) (ownP_load hN (Try.agg102 _) (Try.siz102 _) rfl)) ?_;clear F ac;intro ac F
 refine Y.nil ?_
 refine X.thenN ?_
 have hgB := G.size
 have hd0 := hVw4.lt
 have hBg := hB.gr G
 have hBn : ∀ ad, a = some ad → ad.block < w.heap.size := fun ad e => (hB.ge ad e).2
 have hOl := fun b e => hJl _ _ _ _ hJ b (.inl e)
 have hKl := fun b e => hJl _ _ _ _ hJ b (.inr e)
 have hy := hYd s O Kp xs w3.heap.size a c w6 (hJg _ _ _ _ _ hJ G) hOs hO (by omega) hx hBg (by omega) (fun ad e => by have := hBn ad e; omega) (fun e => by have := hOl _ e; omega) (fun e => by have := hKl _ e; omega) hOa hVw4
 refine Y.cutyield2 F (X.w0 rfl) rfl (by kernel_rfl) rfl (F.ev 21 (.func (.yield lp) #[] #[])) (F.ev 22 (.agg #[.slice a xs.length c, .bool (hopeB p (tim p) xs), Vi (bndV p xs), Vp w3.heap.size])) hy ?_
 rintro yb w7 (⟨rfl, hgo, O2, Kp2, hJ2, hD2, hOY, hO2⟩ | ⟨rfl, hng, hZ⟩)
 ·clear F ac
  intro ac F
  have hsz := hOY.size
  have h6l := hVw3.lt
  have h9l := hN.lt
  replace hO := hO.step2 hOY (fun r e => e.elim (fun e => hOs r e) (fun e => .inr (by omega)))
  replace hOw := hOw.step2 hOY (fun r e => e.elim .inl (fun e => .inr (by omega)))
  replace hVw3 := hVw3.only hOY (by rintro (e | e); (have := hOl _ e; omega); omega)
  replace hN := hN.only hOY (by rintro (e | e); (have := hOl _ e; omega); omega)
  replace hB := hBg.only hOY (fun ad e => by have h1 := hBn ad e; have h2 := (hB.ge ad e).1; rintro (e2 | e2); exact hOa ad e e2; omega)
  have hOJ := hJ
  replace hJ := hJ2
  have hw9 := hgB
  clear hJ2 hy hBg hgB
  clear hVw4
  have hVw4 := hD2
  clear hD2
  have hE2 := hE w7 hO
  clear G hC
  replace hP := hE2.P
  replace hpt := hP.t
  replace hph := hP.h
  replace hpb := hP.b
  replace hpl := hP.l
  replace hxs := hB.i
  have hC := hE2.c
  have G := Gr.refl w7
  clear hE2
  refine Y.pv F (X.notB rfl (F.ev 23 (.bool true)) rfl) ?_;clear F ac;intro ac F
  refine Y.nt F [(0, .slice a xs.length c), (2, Vp bp), (4, Vp bv), (6, Vp w.heap.size), (8, Vp w3.heap.size), (9, Vp q9), (24, .bool false)] ?_;clear F ac;intro ac F
  refine Y.condF (F.ev 24 (.bool false)) ?_
  refine Y.skip ?_
  refine X.thenN ?_
  refine Y.seq ?_
  refine Y.sl ?_
  refine Y.pv F (X.field rfl (F.ev 9 (Vp q9)) (X.fld Try.underlying102 rfl (Try.siz4 _) rfl rfl)) ?_;clear F ac;intro ac F
  replace hC := hC.append (show RCells w7 (bcells q9 [.slice a xs.length c, .bool (hopeB p (tim p) xs), Vi (bndV p xs), Vp w3.heap.size] 0) from (RCells.cons (hN.cell (k := 0) (by decide)) (RCells.cons (hN.cell (k := 1) (by decide)) (RCells.cons (hN.cell (k := 2) (by decide)) (RCells.cons (hN.cell (k := 3) (by decide)) (RCells.nil _))))))
  refine Y.pv2 F (X.load rfl (F.ev 25 (.pointer (some ⟨q9, 1, none⟩))) (X.ld1 (Try.agg4 _) (hC.at 7 rfl))) (fun _ F=>X.move rfl (F.ev 26 (.bool (hopeB p (tim p) xs)))) ?_;clear F ac;intro ac F
  cases h8 : hopeB p (tim p) xs with
  | false =>
   try rw [h8] at F
   replace hC := hC.append (show RCells w7 ([(Ad w3.heap.size 0, .bool ((st s xs).2.1))]) from (RCells.cons (hVw4.cell (k := 0) (by omega)) (RCells.nil _)))
   refine Y.pg F 2 27 false (X.load rfl (F.ev 8 (Vp w3.heap.size)) (X.ld1 (Try.agg4 _) (hC.at 10 rfl))) ?_;clear F ac;intro ac F
   refine Y.pg F 2 27 false (X.notB rfl (F.ev 28 (.bool ((st s xs).2.1))) rfl) ?_;clear F ac;intro ac F
   refine Y.pv2 F (X.pickF rfl (F.ev 27 (.bool false)) (F.ev 29 (.bool (!((st s xs).2.1))))) (fun _ F=>X.move rfl (F.ev 30 (.bool (!((st s xs).2.1))))) ?_;clear F ac;intro ac F
   cases h9 : (st s xs).2.1 with
   | false =>
    try rw [h9] at F
    refine Y.ps F 6 31 true ?_;clear F ac;intro ac F
    refine Y.ps F 6 31 true ?_;clear F ac;intro ac F
    refine Y.ps F 6 31 true ?_;clear F ac;intro ac F
    refine Y.ps F 6 31 true ?_;clear F ac;intro ac F
    refine Y.ps F 6 31 true ?_;clear F ac;intro ac F
    refine Y.ps F 6 31 true ?_;clear F ac;intro ac F
    refine Y.pv F (X.pickT rfl (F.ev 31 (.bool true)) (X.kc (.bool true) rfl)) ?_;clear F ac;intro ac F
    refine Y.nt F [(0, .slice a xs.length c), (2, Vp bp), (4, Vp bv), (6, Vp w.heap.size), (38, .bool true)] ?_;clear F ac;intro ac F
    refine Y.condT (F.ev 38 (.bool true)) ?_
    refine Y.sg F [(7, .bool true)] (Y.pv F (X.assign rfl (X.kc (.bool true) rfl)) fun ac F=>Y.fin F) ?_;clear F ac;intro ac F
    refine Y.ret ?_
    refine X.thenR ?_
    exact Y.ret0 (v := .bool true) F (Y.r1 F) (.inl ⟨rfl, _, O2, _, (vis_leaf hgo (.inr (.inl h9))), hJg _ _ _ _ _ hJ G, hOw, fun b e => (hO2 b e).imp id (fun e => by omega)⟩)
   | true =>
    try rw [h9] at F
    refine Y.pg F 6 31 false (X.move rfl (F.ev 0 (.slice a xs.length c))) ?_;clear F ac;intro ac F
    refine Y.pg F 6 31 false (X.len1 Try.underlying34 rfl (F.ev 32 (.slice a xs.length c))) ?_;clear F ac;intro ac F
    refine Y.pg F 6 31 false (X.field rfl (F.ev 2 (Vp bp)) (X.fld Try.underlying27 rfl (Try.siz22 _) rfl rfl)) ?_;clear F ac;intro ac F
    refine Y.pg F 6 31 false (X.load rfl (F.ev 34 (Vp bp)) (X.ld1 (Try.agg22 _) (hC.at 0 rfl))) ?_;clear F ac;intro ac F
    refine Y.pg F 6 31 false (X.len1 Try.underlying22 rfl (F.ev 35 (.slice ta p.nt tc))) ?_;clear F ac;intro ac F
    refine Y.pg F 6 31 false (X.binop rfl (F.ev 33 (Vi xs.length)) (F.ev 36 (Vi p.nt)) (X.eqlI Try.underlying3 rfl)) ?_;clear F ac;intro ac F
    refine Y.pv F (X.pickF rfl (F.ev 31 (.bool false)) (F.ev 37 (.bool ((xs.length : Int) == p.nt)))) ?_;clear F ac;intro ac F
    refine Y.nt F [(0, .slice a xs.length c), (2, Vp bp), (4, Vp bv), (6, Vp w.heap.size), (38, .bool ((xs.length : Int) == p.nt))] ?_;clear F ac;intro ac F
    cases h10 : ((xs.length : Int) == p.nt) with
    | false =>
     try rw [h10] at F
     have h10p : ¬ (xs.length : Int) = p.nt := by simpa using h10
     obtain ⟨k, rfl⟩ : ∃ k, m = k + 1 := ⟨m - 1, by omega⟩
     have hin := vis_in (nh := p.nh) (m := k) (s := s) hgo h8 h9
     refine Y.condF (F.ev 38 (.bool false)) ?_
     refine Y.skip ?_
     refine X.thenN ?_
     refine Y.seq ?_
     refine Y.sg F [(0, .slice a xs.length c), (2, Vp bp), (4, Vp bv), (6, Vp w.heap.size), (41, Vi p.nh), (42, Vi 0)] (by
      refine Y.pv F (X.field rfl (F.ev 2 (Vp bp)) (X.fld Try.underlying27 rfl (Try.siz23 _) rfl rfl)) fun ac F=>?_
      refine Y.pv F (X.load rfl (F.ev 39 (.pointer (some ⟨bp, 1, none⟩))) (X.ld1 (Try.agg23 _) (hC.at 1 rfl))) fun ac F=>?_
      refine Y.pv F (X.len1 Try.underlying23 rfl (F.ev 40 (.slice ha p.nh hc))) fun ac F=>?_
      refine Y.pv F (X.move rfl (X.kc (Vi 0) rfl)) fun ac F=>?_
      exact Y.fin F) ?_;clear F ac;intro ac F
     refine Y.block ?_
     refine Y.loop (fun me_ ac wr => ∃ (i : Nat) (s1 : σ) (O1 Kp1 : Nat → Prop), me_ = p.nh - i ∧ i ≤ p.nh ∧ Only (fun b => O b ∨ w6.heap.size ≤ b) w7 wr ∧ visN (fun h s => visF p.nh (hopeB p (tim p)) st k (xs ++ [(h : Int)]) s) i (st s xs).1 = (s1, true) ∧ J s1 O1 Kp1 wr ∧ (∀ b, O1 b → O b ∨ w6.heap.size ≤ b) ∧ Fr ac 63 [(0, .slice a xs.length c), (2, Vp bp), (4, Vp bv), (6, Vp w.heap.size), (41, Vi p.nh), (42, Vi i)]) _ ⟨0, _, _, _, rfl, Nat.zero_le _, Only.refl _ _, rfl, hJg _ _ _ _ _ hJ G, hO2, F.sub _⟩ ?_
     have h6l := hVw3.lt
     replace hB := hB.gr G
     clear F ac
     intro me_ ac w11 hI
     obtain ⟨i, s1, O1, Kp1, rfl, hi, hOL, hv, hJ1, hO1, F⟩ := hI
     replace hO := hO.step2 hOL (fun r e => e.elim (fun e => hOs r e) (fun e => .inr (by omega)))
     replace hOw := hOw.step2 hOL (fun r e => e.elim .inl (fun e => .inr (by omega)))
     replace hVw3 := hVw3.only hOL (by rintro (e | e); (have := hOl _ e; omega); omega)
     replace hB := hB.only hOL (fun ad e => by have h1 := hBn ad e; rintro (e2 | e2); exact hOa ad e e2; omega)
     replace hJ := hJ1
     clear hJ1
     have hE2 := hE w11 hO
     clear G hC
     replace hP := hE2.P
     replace hpt := hP.t
     replace hph := hP.h
     replace hpb := hP.b
     replace hpl := hP.l
     replace hxs := hB.i
     have hC := hE2.c
     have G := Gr.refl w11
     clear hE2
     refine Y.sg F [(0, .slice a xs.length c), (2, Vp bp), (4, Vp bv), (6, Vp w.heap.size), (41, Vi p.nh), (42, Vi i), (43, .bool (decide ((i : Int) < p.nh)))] (Y.pv F (X.binop rfl (F.ev 42 (Vi i)) (F.ev 41 (Vi p.nh)) (X.lssI Try.underlying3 rfl)) fun ac F=>Y.fin F) ?_;clear F ac;intro ac F
     refine Y.seq ?_
     cases h12 : decide ((i : Int) < p.nh) with
     | false =>
      try rw [h12] at F
      have h12p : ¬ ((i : Int) < p.nh) := of_decide_eq_false h12
      obtain rfl : i = p.nh := by omega
      refine Y.condF (F.ev 43 (.bool false)) ?_
      refine Y.exit ?_
      refine X.thenX (X.thenX (X.blockX (X.thenN ?_)))
      refine Y.sg F [(7, .bool true)] (Y.pv F (X.assign rfl (X.kc (.bool true) rfl)) fun ac F=>Y.fin F) ?_;clear F ac;intro ac F
      refine Y.ret ?_
      exact Y.ret0 (v := .bool true) F (Y.r1 F) (.inl ⟨rfl, s1, O1, _, (by rw [hin]; exact hv), hJg _ _ _ _ _ hJ G, hOw, fun b e => (hO1 b e).imp id (fun e => by omega)⟩)
     | true =>
      try rw [h12] at F
      have h12p : ((i : Int) < p.nh) := of_decide_eq_true h12
      have hi2 : i < p.nh := by omega
      refine Y.condT (F.ev 43 (.bool true)) ?_
      refine Y.skip ?_
      refine X.thenN ?_
      refine Y.seq ?_
      refine Y.block ?_
      refine Y.sg F [(0, .slice a xs.length c), (2, Vp bp), (4, Vp bv), (6, Vp w.heap.size), (10, Vi i), (41, Vi p.nh), (42, Vi i)] (Y.pv F (X.move rfl (F.ev 42 (Vi i))) fun ac F=>Y.pv F (X.assign rfl (F.ev 44 (Vi i))) fun ac F=>Y.fin F) ?_;clear F ac;intro ac F
      refine Y.seq ?_
      have htm := hp.tm xs.length (by omega)
      have htt := hp.tt xs.length (by omega)
      have h6 := hp.h6
      have h10 := hp.t10
      obtain ⟨pd13, pe13, -, pc13⟩ := hpt.at (j := xs.length) (by omega)
      subst pe13
      replace hC := hC.append (show RCells w11 (Y.cs (pd13.add (xs.length * 4)) [.string (p.tn xs.length), Vi (p.tv xs.length 1), Vi (p.tv xs.length 2), Vi (p.tv xs.length 3)]) from (RCells.cons (pc13 0 (by decide)) (RCells.cons (pc13 1 (by decide)) (RCells.cons (pc13 2 (by decide)) (RCells.cons (pc13 3 (by decide)) (RCells.nil _))))))
      clear pc13
      obtain ⟨Ta, hTa⟩ : ∃ T : Value → World → Prop, T = fun v W => OwnR W w11.heap.size 3 1 v xs.length (xs.map (Value.int .i64)) := ⟨_, rfl⟩
      obtain ⟨Tb, hTb⟩ : ∃ T : Value → World → Prop, T = fun v W => ∃ g9, v = .slice (some ⟨g9, 0, none⟩) 1 1 ∧ W.heap[g9]? = some (.cells #[Vi (i : Int)] 3) := ⟨_, rfl⟩
      obtain ⟨Tc, hTc⟩ : ∃ T : Value → World → Prop, T = fun v W => ∃ g5 c5, v = .slice (some ⟨g5, 0, none⟩) (xs ++ [(i : Int)]).length c5 ∧ BegAt W w0.heap.size (some ⟨g5, 0, none⟩) c5 (xs ++ [(i : Int)]) ∧ w11.heap.size ≤ g5 := ⟨_, rfl⟩
      obtain ⟨Td, hTd⟩ : ∃ T : Value → World → Prop, T = fun v W => (v = .bool true ∧ ∃ s2 O3 Kp3, visF p.nh (hopeB p (tim p)) st k (xs ++ [(i : Int)]) s1 = (s2, true) ∧ J s2 O3 Kp3 W ∧ Only O1 w11 W ∧ (∀ b, O3 b → O1 b ∨ w11.heap.size ≤ b)) ∨ (v = .bool false ∧ (visF p.nh (hopeB p (tim p)) st k (xs ++ [(i : Int)]) s1).2 = false ∧ Z W) := ⟨_, rfl⟩
      have uTa : UpV Ta := by subst hTa; exact fun v W W2 h g => OwnR.gr h g
      have uTb : UpV Tb := by subst hTb; exact fun v W W2 ⟨g9, e, h⟩ g => ⟨g9, e, (g.below.block _ (Array.getElem?_eq_some_iff.1 h).1).trans h⟩
      have uTc : UpV Tc := by subst hTc; exact fun v W W2 ⟨g5, c5, e, h, h2⟩ g => ⟨g5, c5, e, h.gr g, h2⟩
      have hs9 := hO.size
      refine region_xi F [some (.func (.func 103) #[] #[Vp bp, Vp by_, Vp bv]), some (.slice a xs.length c), none, some (Vi i), none, none, some (.agg (ldA (ldV p xs xs.length)).toArray), some (Vp bp), some (.slice (some pd13) p.nt tc), some (.slice a xs.length c), some (Vi xs.length), some (.pointer (some (pd13.add (xs.length * 4)))), some (.agg #[.string (p.tn xs.length), Vi (p.tv xs.length 1), Vi (p.tv xs.length 2), Vi (p.tv xs.length 3)]), some (Vi i), some (.agg (ldA (withV (ldV p xs xs.length) (p.tv xs.length 1) (p.tv xs.length 2) (i : Int).toNat)).toArray), none, none] (RV w11 2 4 5 15 16 Ta Tb Tc Td) rfl ⟨by kernel_rfl, of_decide_eq_true (by kernel_rfl), by kernel_rfl, by kernel_rfl, by kernel_rfl⟩ (fun _ => ⟨RV.start (Gr.refl _), RV.start (Gr.drew _)⟩) ⟨?_, ?_, ?_, ?_, ?_, ?_, ?_, ?_, ?_, ?_, ?_, ?_, ?_, ?_, ?_, ?_, ?_, trivial⟩ ?_
      ·intro ac done u W Sx hR
       have g : Gr w11 W := hR.g (Sx.no 15 (by kernel_rfl))
       exact X.vl (X.load rfl (Sx.ev 4 (Vp bv)) (X.ld1 (Try.agg129 _) ((hC.gr g).at 5 rfl))) (hR.quiet uTa uTb uTc (Sx.no 15 (by kernel_rfl)) (Sx.no 16 (by kernel_rfl)) (Gr.refl _) (by decide))
      ·intro ac done u W Sx hR
       have g : Gr w11 W := hR.g (Sx.no 15 (by kernel_rfl))
       exact X.vl (X.move rfl (Sx.ev 0 (.slice a xs.length c))) (hR.quiet uTa uTb uTc (Sx.no 15 (by kernel_rfl)) (Sx.no 16 (by kernel_rfl)) (Gr.refl _) (by decide))
      ·intro ac done u W Sx hR
       have g : Gr w11 W := hR.g (Sx.no 15 (by kernel_rfl))
       refine X.call (X.w0 rfl) (X.enter (F := 86) rfl (X.kc (.func (.func 86) #[] #[]) rfl) (X.a1 (Sx.ev 46 (.slice a xs.length c))) (enters_of Try.func86 (by kernel_rfl) rfl _)) (clone_any a xs.length c xs W (hB.i.gr g) (by omega) hB.none) ?_
       rintro e W2 ⟨v, rfl, hv2, g2⟩
       exact ⟨_, rfl, X.un rfl, hR.sa (by decide) uTb (Sx.no 5 (by kernel_rfl)) (Sx.no 15 (by kernel_rfl)) (Sx.no 16 (by kernel_rfl)) g2 (by subst hTa; exact hv2.lower g.size)⟩
      ·intro ac done u W Sx hR
       have g : Gr w11 W := hR.g (Sx.no 15 (by kernel_rfl))
       exact X.vl (X.move rfl (Sx.ev 10 (Vi i))) (hR.quiet uTa uTb uTc (Sx.no 15 (by kernel_rfl)) (Sx.no 16 (by kernel_rfl)) (Gr.refl _) (by decide))
      ·intro ac done u W Sx hR
       have g : Gr w11 W := hR.g (Sx.no 15 (by kernel_rfl))
       exact X.valN (X.w0 rfl) rfl (X.bs rfl (X.b1 (Sx.ev 48 (Vi i))) (Try.bs34_1 _ _)) (hR.sb (by decide) uTa (Sx.no 5 (by kernel_rfl)) (Sx.no 15 (by kernel_rfl)) (Sx.no 16 (by kernel_rfl)) (Gr.alloc _ _) (by subst hTb; exact ⟨W.heap.size, rfl, heap_alloc_new _ _⟩))
      ·intro ac done u W Sx hR
       have g : Gr w11 W := hR.g (Sx.no 15 (by kernel_rfl))
       have hA := hR.ga (Sx.an 2 (by kernel_rfl)) Sx.nd (Sx.no 15 (by kernel_rfl))
       have hBb := hR.gb (Sx.an 4 (by kernel_rfl)) Sx.nd (Sx.no 15 (by kernel_rfl))
       rw [hTa] at hA
       rw [hTb] at hBb
       obtain ⟨g9, e4, hg9⟩ := hBb
       refine X.law (X.w0 rfl) (fun K_ hK => wp_pushV Try.underlying34 Try.info3 rfl (by decide) rfl ((Sx.own 2 47 rfl)) ((Sx.own 4 49 rfl).trans e4) hA (m := 1) (news := [Vi (i : Int)]) rfl (cells_at (vs := [Vi (i : Int)]) hg9) rfl (by omega) (by decide) g.size (fun v2 W2 hO2 hon hat => hK v2 W2 (fun x hx => by cases hx) (RV.sc (by decide) (Sx.no 15 (by kernel_rfl)) (Sx.no 16 (by kernel_rfl)) (OnlyG g hon (fun b e => (hA.ge e).1)) ?_)))
       obtain ⟨g5, c5, e5, hb5⟩ := OwnR.beg (xs := xs ++ [(i : Int)]) (by rw [List.map_append, List.length_append]; exact hO2) (by simp; omega) (by simp)
       subst hTc
       exact ⟨g5, c5, e5, ⟨hb5.i, fun ad e => ⟨Nat.le_trans hs9 (hb5.ge ad e).1, (hb5.ge ad e).2⟩, hb5.nil, hb5.le⟩, (hb5.ge _ rfl).1⟩
      ·intro ac done u W Sx hR
       have g : Gr w11 W := hR.g (Sx.no 15 (by kernel_rfl))
       exact X.vl (X.load rfl (Sx.ev 6 (Vp w.heap.size)) (ld_load (hVw3.gr g) (Try.agg108 _) (Try.siz108 _))) (hR.quiet uTa uTb uTc (Sx.no 15 (by kernel_rfl)) (Sx.no 16 (by kernel_rfl)) (Gr.refl _) (by decide))
      ·intro ac done u W Sx hR
       have g : Gr w11 W := hR.g (Sx.no 15 (by kernel_rfl))
       exact X.vl (X.field rfl (Sx.ev 2 (Vp bp)) (X.fld Try.underlying27 rfl (Try.siz22 _) rfl rfl)) (hR.quiet uTa uTb uTc (Sx.no 15 (by kernel_rfl)) (Sx.no 16 (by kernel_rfl)) (Gr.refl _) (by decide))
      ·intro ac done u W Sx hR
       have g : Gr w11 W := hR.g (Sx.no 15 (by kernel_rfl))
       exact X.vl (X.load rfl (Sx.ev 52 (Vp bp)) (X.ld1 (Try.agg22 _) ((hC.gr g).at 0 rfl))) (hR.quiet uTa uTb uTc (Sx.no 15 (by kernel_rfl)) (Sx.no 16 (by kernel_rfl)) (Gr.refl _) (by decide))
      ·intro ac done u W Sx hR
       have g : Gr w11 W := hR.g (Sx.no 15 (by kernel_rfl))
       exact X.vl (X.move rfl (Sx.ev 0 (.slice a xs.length c))) (hR.quiet uTa uTb uTc (Sx.no 15 (by kernel_rfl)) (Sx.no 16 (by kernel_rfl)) (Gr.refl _) (by decide))
      ·intro ac done u W Sx hR
       have g : Gr w11 W := hR.g (Sx.no 15 (by kernel_rfl))
       exact X.vl (X.len1 Try.underlying34 rfl (Sx.ev 54 (.slice a xs.length c))) (hR.quiet uTa uTb uTc (Sx.no 15 (by kernel_rfl)) (Sx.no 16 (by kernel_rfl)) (Gr.refl _) (by decide))
      ·intro ac done u W Sx hR
       have g : Gr w11 W := hR.g (Sx.no 15 (by kernel_rfl))
       exact X.vl (X.index rfl (Sx.ev 53 (.slice (some pd13) p.nt tc)) (Sx.ev 55 (Vi xs.length)) (X.idx (k := xs.length) Try.underlying22 (Try.siz74 _) (by omega) (by omega) rfl)) (hR.quiet uTa uTb uTc (Sx.no 15 (by kernel_rfl)) (Sx.no 16 (by kernel_rfl)) (Gr.refl _) (by decide))
      ·intro ac done u W Sx hR
       have g : Gr w11 W := hR.g (Sx.no 15 (by kernel_rfl))
       exact X.vl (X.load rfl (Sx.ev 56 (.pointer (some (pd13.add (xs.length * 4))))) (X.ldN (Try.agg74 _) (Try.siz74 _) (Y.atz (pd13.add (xs.length * 4)) (Y.AtFrom.cons ((hC.gr g).at 6 rfl) (Y.AtFrom.cons ((hC.gr g).at 7 rfl) (Y.AtFrom.cons ((hC.gr g).at 8 rfl) (Y.AtFrom.cons ((hC.gr g).at 9 rfl) (Y.AtFrom.nil _ _ _)))))))) (hR.quiet uTa uTb uTc (Sx.no 15 (by kernel_rfl)) (Sx.no 16 (by kernel_rfl)) (Gr.refl _) (by decide))
      ·intro ac done u W Sx hR
       have g : Gr w11 W := hR.g (Sx.no 15 (by kernel_rfl))
       exact X.vl (X.move rfl (Sx.ev 10 (Vi i))) (hR.quiet uTa uTb uTc (Sx.no 15 (by kernel_rfl)) (Sx.no 16 (by kernel_rfl)) (Gr.refl _) (by decide))
      ·intro ac done u W Sx hR
       have g : Gr w11 W := hR.g (Sx.no 15 (by kernel_rfl))
       refine X.call (X.w0 rfl) (X.enter (F := 104) rfl (X.kc (.func (.func 104) #[] #[]) rfl) (X.a3 (Sx.ev 51 (.agg (ldA (ldV p xs xs.length)).toArray)) (Sx.ev 57 (.agg #[.string (p.tn xs.length), Vi (p.tv xs.length 1), Vi (p.tv xs.length 2), Vi (p.tv xs.length 3)])) (Sx.ev 58 (Vi i))) (enters_of Try.func104 (by kernel_rfl) rfl _)) (with_any (ldV p xs xs.length) (p.tn xs.length) (p.tv xs.length 1) (p.tv xs.length 2) (p.tv xs.length 3) i W (200000000 * xs.length) (by omega) (ldV_ok hp hx xs.length (by omega) (by omega)) (by omega) (by omega)) ?_
       rintro e W2 ⟨rfl, g2⟩
       exact ⟨_, rfl, X.kn rfl, hR.quiet uTa uTb uTc (Sx.no 15 (by kernel_rfl)) (Sx.no 16 (by kernel_rfl)) g2 (by decide)⟩
      ·intro ac done u W Sx hR
       have g : Gr w11 W := hR.g Sx.nd
       have hcc := hR.gc (Sx.an 5 (by kernel_rfl)) Sx.nd
       rw [hTc] at hcc
       obtain ⟨g5, c5, e5, hb5, hg5⟩ := hcc
       have hq := ih k rfl (xs ++ [(i : Int)]) (some ⟨g5, 0, none⟩) c5 s1 O1 Kp1 W (by simp; omega) (hx.app hi2) hb5 (fun ad e h => by injection e with e; subst e; have h9 : g5 < _ := hJl _ _ _ _ hJ _ (.inl h); omega) (fun b e => (hO1 b e).elim (fun e => hOs b e) (fun e => .inr (by omega))) (hO.thenGr g) (hJg _ _ _ _ _ hJ g)
       rw [ldV_snoc] at hq
       refine X.call (X.w0 rfl) (X.enter (F := 103) rfl (Sx.ev 45 (.func (.func 103) #[] #[Vp bp, Vp by_, Vp bv])) (X.a2 ((Sx.own 5 50 rfl).trans e5) (Sx.ev 59 (.agg (ldA (withV (ldV p xs xs.length) (p.tv xs.length 1) (p.tv xs.length 2) (i : Int).toNat)).toArray))) (enters_of Try.func103 (by kernel_rfl) rfl _)) hq ?_
       intro e W2 hT
       obtain ⟨b, rfl, hT2⟩ : ∃ b, e = .returned (.bool b) ∧ Td (.bool b) W2 := by
        subst hTd
        rcases hT with ⟨rfl, s2, O3, Kp3, h1, h2, h3, h4⟩ | ⟨rfl, h1, h2⟩
        ·exact ⟨_, rfl, .inl ⟨rfl, s2, O3, Kp3, h1, h2, (g.only O1).trans h3, fun b e => (h4 b e).imp id (fun e => Nat.le_trans g.size e)⟩⟩
        ·exact ⟨_, rfl, .inr ⟨rfl, h1, h2⟩⟩
       exact ⟨_, rfl, X.un rfl, RV.sd (by decide) (Sx.no 16 (by kernel_rfl)) hT2⟩
      ·intro ac done u W Sx hR
       have h15 := Sx.an 15 (by kernel_rfl)
       have hdd := hR.gd h15
       obtain ⟨b, e15⟩ : ∃ b, u 15 = .bool b := by
        rw [hTd] at hdd
        rcases hdd with ⟨e, _⟩ | ⟨e, _⟩ <;> exact ⟨_, e⟩
       exact X.valN (X.w0 rfl) rfl (X.notB (x := .tmp 60) (b := b) rfl ((Sx.own 15 60 rfl).trans e15) rfl) (RV.se (by decide) h15 e15 hdd)
      rintro ac u w14 hs hd hl_ ho hR
      obtain ⟨b15, e15, e16⟩ := hR.ge rfl
      have hdd := hR.gd rfl
      rw [hTd, e15] at hdd
      clear hTa hTb hTc hTd uTa uTb uTc
      replace F : Fr ac 63 [(0, .slice a xs.length c), (2, Vp bp), (4, Vp bv), (6, Vp w.heap.size), (41, Vi p.nh), (42, Vi i)] := X.fr hs hd hl_ _ (by kernel_rfl)
      replace F := F.add (ho 16 61 rfl) e16
      clear hs hd hl_ ho hR e15 e16
      rcases hdd with ⟨e, s2, O3, Kp3, hv2, hJ2, hOR, hO3⟩ | ⟨e, hng, hZ⟩
      ·injection e with e
       subst e
       replace F : Fr ac 63 [(0, .slice a xs.length c), (2, Vp bp), (4, Vp bv), (6, Vp w.heap.size), (41, Vi p.nh), (42, Vi i), (61, .bool false)] := F.sub _
       have hzL := hOL.size
       replace hOw := hOw.step2 hOR (fun r e => (hO1 r e).elim .inl (fun e => .inr (by omega)))
       replace hOL := hOL.step2 hOR (fun r e => .inl (hO1 r e))
       replace hO3 := fun b (e : O3 b) => (hO3 b e).elim (fun e => hO1 b e) (fun e => Or.inr (by omega))
       replace hJ := hJ2
       clear hJ2 hOR
       clear G hC
       have G := Gr.refl w14
       refine X.thenN ?_
       refine Y.condF (F.ev 61 (.bool false)) ?_
       refine Y.skip ?_
       refine X.blockN (X.thenN ?_)
       refine Y.lg F [(0, .slice a xs.length c), (2, Vp bp), (4, Vp bv), (6, Vp w.heap.size), (41, Vi p.nh), (42, Vi ((i : Int) + 1))] (by
        refine Y.pv F (X.binop rfl (F.ev 42 (Vi i)) (X.kc (Vi 1) rfl) (X.addI Try.underlying3 rfl (by omega) (by omega))) fun ac F=>?_
        refine Y.pv F (X.move rfl (F.ev 62 (Vi ((i : Int) + 1)))) fun ac F=>?_
        exact Y.fin F) ?_;clear F ac;intro ac F
       refine ⟨_, ?_, i + 1, s2, O3, Kp3, rfl, by omega, hOL, (visN_next hv).trans hv2, hJg _ _ _ _ _ hJ G, hO3, F.sub _⟩
       omega
      ·injection e with e
       subst e
       replace F : Fr ac 63 [(0, .slice a xs.length c), (2, Vp bp), (4, Vp bv), (6, Vp w.heap.size), (41, Vi p.nh), (42, Vi i), (61, .bool true)] := F.sub _
       refine X.thenN ?_
       refine Y.condT (F.ev 61 (.bool true)) ?_
       refine Y.sg F [(7, .bool false)] (Y.pv F (X.assign rfl (X.kc (.bool false) rfl)) fun ac F=>Y.fin F) ?_;clear F ac;intro ac F
       refine Y.ret ?_
       refine X.blockR (X.thenR (X.thenR (X.blockR (X.thenR ?_))))
       exact Y.ret0 (v := .bool false) F (Y.r1 F) (.inr ⟨rfl, (by rw [hin]; exact visN_false (k := i + 1) (by rw [visN_next hv]; exact hng) (by omega)), hZ⟩)
    | true =>
     try rw [h10] at F
     have h10p : (xs.length : Int) = p.nt := by simpa using h10
     refine Y.condT (F.ev 38 (.bool true)) ?_
     refine Y.sg F [(7, .bool true)] (Y.pv F (X.assign rfl (X.kc (.bool true) rfl)) fun ac F=>Y.fin F) ?_;clear F ac;intro ac F
     refine Y.ret ?_
     refine X.thenR ?_
     exact Y.ret0 (v := .bool true) F (Y.r1 F) (.inl ⟨rfl, _, O2, _, (vis_leaf hgo (.inr (.inr (by omega)))), hJg _ _ _ _ _ hJ G, hOw, fun b e => (hO2 b e).imp id (fun e => by omega)⟩)
  | true =>
   try rw [h8] at F
   refine Y.ps F 2 27 true ?_;clear F ac;intro ac F
   refine Y.ps F 2 27 true ?_;clear F ac;intro ac F
   refine Y.pv2 F (X.pickT rfl (F.ev 27 (.bool true)) (X.kc (.bool true) rfl)) (fun _ F=>X.move rfl (F.ev 30 (.bool true))) ?_;clear F ac;intro ac F
   refine Y.ps F 6 31 true ?_;clear F ac;intro ac F
   refine Y.ps F 6 31 true ?_;clear F ac;intro ac F
   refine Y.ps F 6 31 true ?_;clear F ac;intro ac F
   refine Y.ps F 6 31 true ?_;clear F ac;intro ac F
   refine Y.ps F 6 31 true ?_;clear F ac;intro ac F
   refine Y.ps F 6 31 true ?_;clear F ac;intro ac F
   refine Y.pv F (X.pickT rfl (F.ev 31 (.bool true)) (X.kc (.bool true) rfl)) ?_;clear F ac;intro ac F
   refine Y.nt F [(0, .slice a xs.length c), (2, Vp bp), (4, Vp bv), (6, Vp w.heap.size), (38, .bool true)] ?_;clear F ac;intro ac F
   refine Y.condT (F.ev 38 (.bool true)) ?_
   refine Y.sg F [(7, .bool true)] (Y.pv F (X.assign rfl (X.kc (.bool true) rfl)) fun ac F=>Y.fin F) ?_;clear F ac;intro ac F
   refine Y.ret ?_
   refine X.thenR ?_
   exact Y.ret0 (v := .bool true) F (Y.r1 F) (.inl ⟨rfl, _, O2, _, (vis_leaf hgo (.inl h8)), hJg _ _ _ _ _ hJ G, hOw, fun b e => (hO2 b e).imp id (fun e => by omega)⟩)
 ·clear F ac
  intro ac F
  refine Y.pv F (X.notB rfl (F.ev 23 (.bool false)) rfl) ?_;clear F ac;intro ac F
  refine Y.nt F [(0, .slice a xs.length c), (2, Vp bp), (4, Vp bv), (6, Vp w.heap.size), (8, Vp w3.heap.size), (9, Vp q9), (24, .bool true)] ?_;clear F ac;intro ac F
  refine Y.condT (F.ev 24 (.bool true)) ?_
  refine Y.sg F [(7, .bool false)] (Y.pv F (X.assign rfl (X.kc (.bool false) rfl)) fun ac F=>Y.fin F) ?_;clear F ac;intro ac F
  refine Y.ret ?_
  refine X.thenR ?_
  exact Y.ret0 (v := .bool false) F (Y.r1 F) (.inr ⟨rfl, vis_stop hng, hZ⟩)
theorem visit_any {σ : Type} (p : Pb) (ta ha ba la : Option Addr) (tc hc bc lc bp by_ bv lp : Nat) (Yb : Nat → Prop) (w0 : World) (st : σ → List Int → σ × Bool × Bool) (J : σ → (Nat → Prop) → (Nat → Prop) → World → Prop) (Z : World → Prop)
  (hp : PbOk p) (hYb : ∀ b, Yb b → b < w0.heap.size) (hE : ∀ W, Only Yb w0 W → VisE W p ta ha ba la tc hc bc lc bp by_ bv lp) (hJl : ∀ s O Kp W, J s O Kp W → ∀ b, O b ∨ Kp b → b < W.heap.size) (hJg : ∀ s O Kp W W', J s O Kp W → Gr W W' → J s O Kp W') (hYd : VisY p lp Yb w0 st J Z) : ∀ m, VisC p bp by_ bv Yb w0 st J Z m := by
 intro m
 induction m with
 | zero => exact fun xs a c s O Kp w h1 h2 h3 h4 h5 h6 h7 => visit_step p ta ha ba la tc hc bc lc bp by_ bv lp Yb w0 st J Z 0 hp hYb hE hJl hJg hYd (fun k e => by cases e) xs a c s O Kp w h1 h2 h3 h4 h5 h6 h7
 | succ m ih => exact fun xs a c s O Kp w h1 h2 h3 h4 h5 h6 h7 => visit_step p ta ha ba la tc hc bc lc bp by_ bv lp Yb w0 st J Z (m + 1) hp hYb hE hJl hJg hYd (fun k e => by cases e; exact ih) xs a c s O Kp w h1 h2 h3 h4 h5 h6 h7
end
end Go.Proofs.Ytodedneanlekdaa
