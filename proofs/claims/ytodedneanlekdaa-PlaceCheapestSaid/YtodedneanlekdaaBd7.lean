/- Contracts: hopeless and bound. -/
import Derived.Test.YtodedneanlekdaaBd6
import Derived.Test.YtodedneanlekdaaBd3
namespace Go.Proofs.Ytodedneanlekdaa
set_option linter.unusedSimpArgs false
set_option linter.unusedVariables false
open Go.RowKit

theorem fit_ok {p : Pb} {l : Nat → Int} {i : Nat} (h1 : l (i * 3) ≤ p.hv i 1) (h2 : l (i * 3 + 1) ≤ p.hv i 2) : fitL p l i = true := by
  unfold fitL; rw [decide_eq_true h1, decide_eq_true h2]; rfl
theorem fit_no {p : Pb} {l : Nat → Int} {i : Nat} (h : ¬ (l (i * 3) ≤ p.hv i 1 ∧ l (i * 3 + 1) ≤ p.hv i 2)) : fitL p l i = false := by
  unfold fitL
  by_cases h1 : l (i * 3) ≤ p.hv i 1
  · rw [decide_eq_false (fun h2 => h ⟨h1, h2⟩), Bool.and_false]
  · rw [decide_eq_false h1, Bool.false_and]
theorem lvl_ok {p : Pb} {xs : List Int} {i : Nat} (h : p.tv i 3 ≤ p.hv (xs[i]?.getD 0).toNat 3) : lvlB p xs i = true := decide_eq_true h
theorem lvl_no {p : Pb} {xs : List Int} {i : Nat} (h : ¬ p.tv i 3 ≤ p.hv (xs[i]?.getD 0).toNat 3) : lvlB p xs i = false := decide_eq_false h
theorem hop_1 {p : Pb} {l : Nat → Int} {xs : List Int} {i : Nat} (hi : i < p.nh) (h : fitL p l i = false) : hopeL p l xs = true := by
  unfold hopeL; rw [allN_false hi h]; rfl
theorem hop_2 {p : Pb} {l : Nat → Int} {xs : List Int} {i : Nat} (hi : i < xs.length) (h : lvlB p xs i = false) : hopeL p l xs = true := by
  unfold hopeL; rw [allN_false hi h, Bool.and_false]; rfl
theorem hop_3 {p : Pb} {l : Nat → Int} {xs : List Int} (h1 : allN (fitL p l) p.nh = true) (h2 : allN (lvlB p xs) xs.length = true) : hopeL p l xs = !allN (keptB p xs) p.nb := by
  unfold hopeL; rw [h1, h2]; rfl
theorem price_1 {p : Pb} {l : Nat → Int} {i : Nat} (h : 0 < l (i * 3 + 2)) : sumZ (priceL p l) (i + 1) = sumZ (priceL p l) i + p.hv i 5 := by
  simp only [sumZ]; rw [show priceL p l i = p.hv i 5 from if_pos h]
theorem price_0 {p : Pb} {l : Nat → Int} {i : Nat} (h : ¬ 0 < l (i * 3 + 2)) : sumZ (priceL p l) (i + 1) = sumZ (priceL p l) i := by
  simp only [sumZ]; rw [show priceL p l i = 0 from if_neg h, Int.add_zero]
theorem priceL_bd {p : Pb} (hp : PbOk p) {l : Nat → Int} {i : Nat} (hi : i ≤ p.nh) : 0 ≤ sumZ (priceL p l) i ∧ sumZ (priceL p l) i ≤ 600000 := by
  have h := sumZ_bd (f := priceL p l) (n := i) (c := 100000) (fun j hj => by
    have := hp.hp j (by omega)
    unfold priceL; split <;> omega)
  have := hp.h6
  omega
theorem talkI_bd {p : Pb} (hp : PbOk p) {xs : List Int} {i : Nat} (hi : i ≤ p.nl) : 0 ≤ sumZ (talkI p xs) i ∧ sumZ (talkI p xs) i ≤ 6000000 := by
  have h := sumZ_bd (f := talkI p xs) (n := i) (c := 200000) (fun j hj => by
    have := hp.lw j (by omega)
    unfold talkI
    split
    · omega
    · split <;> omega)
  have := hp.l30
  omega
theorem talk_0 {p : Pb} {xs : List Int} {j : Nat} (h : (xs.length : Int) ≤ max (p.lv j 0) (p.lv j 1) ∨ xs[(p.lv j 0).toNat]?.getD 0 = xs[(p.lv j 1).toNat]?.getD 0) : sumZ (talkI p xs) (j + 1) = sumZ (talkI p xs) j := by
  simp only [sumZ]; rw [show talkI p xs j = 0 from if_pos h, Int.add_zero]
theorem talk_1 {p : Pb} {xs : List Int} {j : Nat} (h : ¬ (xs.length : Int) ≤ max (p.lv j 0) (p.lv j 1)) (k : ¬ xs[(p.lv j 0).toNat]?.getD 0 = xs[(p.lv j 1).toNat]?.getD 0) (z : p.hv (xs[(p.lv j 0).toNat]?.getD 0).toNat 4 = p.hv (xs[(p.lv j 1).toNat]?.getD 0).toNat 4) : sumZ (talkI p xs) (j + 1) = sumZ (talkI p xs) j + p.lv j 2 := by
  simp only [sumZ]; rw [show talkI p xs j = p.lv j 2 + 0 from (if_neg (fun e => e.elim h k)).trans (by rw [if_pos (show p.hv (xg xs (p.lv j 0).toNat).toNat 4 = p.hv (xg xs (p.lv j 1).toNat).toNat 4 from z)]), Int.add_zero]
theorem talk_2 {p : Pb} {xs : List Int} {j : Nat} (h : ¬ (xs.length : Int) ≤ max (p.lv j 0) (p.lv j 1)) (k : ¬ xs[(p.lv j 0).toNat]?.getD 0 = xs[(p.lv j 1).toNat]?.getD 0) (z : ¬ p.hv (xs[(p.lv j 0).toNat]?.getD 0).toNat 4 = p.hv (xs[(p.lv j 1).toNat]?.getD 0).toNat 4) : sumZ (talkI p xs) (j + 1) = sumZ (talkI p xs) j + p.lv j 2 + p.lv j 2 := by
  simp only [sumZ]; rw [show talkI p xs j = p.lv j 2 + p.lv j 2 from (if_neg (fun e => e.elim h k)).trans (by rw [if_neg (show ¬ p.hv (xg xs (p.lv j 0).toNat).toNat 4 = p.hv (xg xs (p.lv j 1).toNat).toNat 4 from z)])]; omega
set_option maxRecDepth 100000 in
set_option maxHeartbeats 4000000 in
theorem hop_any (p : Pb) (ta ha ba la : Option Addr) (tc hc bc lc : Nat) (a : Option Addr) (c : Nat) (xs : List Int) (l : Nat → Int) (w : World) (hP : PbAt w p ta ha ba la tc hc bc lc) (hX : Ints w a xs.length xs) (hp : PbOk p) (hx : HosOk p xs) (hn : xs.length ≤ p.nt) :
  Calls Try.prog 72 #[.agg #[.slice ta p.nt tc, .slice ha p.nh hc, .slice ba p.nb bc, .slice la p.nl lc], .slice a xs.length c, .agg (ldA l).toArray] w fun e w' => e = .returned (.bool (hopeL p l xs)) ∧ Gr w w' := by
 have G := Gr.refl w
 have hpt := hP.t
 have hph := hP.h
 have hpb := hP.b
 have hpl := hP.l
 have hplen := hP.len
 obtain ⟨hn1, hn2, hn3, hn4⟩ := hplen
 have hcp1 := hpt.cap
 have hcp2 := hph.cap
 have hcp3 := hpb.cap
 have hcp4 := hpl.cap
 have hxs := hX
 have hlt := hxs.lt
 have h6 := hp.h6
 have h10 := hp.t10
 refine Y.calls 61 Try.func72 rfl rfl ?_
 intro ac F0
 have F : Fr ac 61 [(0, .agg #[.slice ta p.nt tc, .slice ha p.nh hc, .slice ba p.nb bc, .slice la p.nl lc]), (1, .slice a xs.length c), (2, .agg (ldA l).toArray)] := F0.sub _
 clear F0
 refine Y.sl ?_
 have hgs3 : w.heap.size ≤ w.heap.size := G.size
 refine Y.pv F (X.box rfl (F.ev 0 (.agg #[.slice ta p.nt tc, .slice ha p.nh hc, .slice ba p.nb bc, .slice la p.nl lc])) X.bx) ?_;clear F ac;intro ac F
 have hgs5 : w.heap.size ≤ w.heap.size := G.size
 obtain ⟨w6, hw_, g, hb, hbl, hC2⟩ := Y.bxd (RCells.nil w) #[.slice ta p.nt tc, .slice ha p.nh hc, .slice ba p.nb bc, .slice la p.nl lc] 27;rw [hw_];clear hw_
 replace G := G.trans g
 have hC := hC2
 clear hC2
 replace hpt := hpt.gr g
 replace hph := hph.gr g
 replace hpb := hpb.gr g
 replace hpl := hpl.gr g
 replace hxs := hxs.gr g
 have hsz4 := hbl
 clear g hb hbl
 have hgs7 : w.heap.size ≤ w6.heap.size := G.size
 refine Y.pv F (X.box rfl (F.ev 1 (.slice a xs.length c)) (Y.bx1 rfl)) ?_;clear F ac;intro ac F
 have hgs9 : w.heap.size ≤ w6.heap.size := G.size
 obtain ⟨w10, hw_, g, hb, hbl, hC2⟩ := Y.bxd hC #[.slice a xs.length c] 34;rw [hw_];clear hw_
 replace G := G.trans g
 replace hC := hC2
 clear hC2
 replace hpt := hpt.gr g
 replace hph := hph.gr g
 replace hpb := hpb.gr g
 replace hpl := hpl.gr g
 replace hxs := hxs.gr g
 have hsz8 := hbl
 clear g hb hbl
 refine Y.pv F (X.box rfl (F.ev 2 (.agg (ldA l).toArray)) X.bx) ?_;clear F ac;intro ac F
 have g := Gr.alloc w10 (.cells (ldA l).toArray 108)
 have hb := heap_alloc_new w10 (.cells (ldA l).toArray 108)
 have hszw11 : w10.heap.size < (w10.alloc (.cells (ldA l).toArray 108)).heap.size := by simp
 have hgsw11 : w.heap.size ≤ w10.heap.size := G.size
 generalize w10.alloc (.cells (ldA l).toArray 108) = w11 at *
 replace G := G.trans g
 replace hC := hC.gr g
 replace hpt := hpt.gr g
 replace hph := hph.gr g
 replace hpb := hpb.gr g
 replace hpl := hpl.gr g
 replace hxs := hxs.gr g
 have hVw11 : OwnP w11 w10.heap.size 18 (LV l) := ld_own hb
 clear g hb
 refine Y.pv F (X.assign rfl (X.kc (.bool false) rfl)) ?_;clear F ac;intro ac F
 refine Y.nt F [(3, Vp w.heap.size), (4, Vp w6.heap.size), (5, Vp w10.heap.size)] ?_;clear F ac;intro ac F
 refine Y.seq ?_
 refine Y.sg F [(3, Vp w.heap.size), (4, Vp w6.heap.size), (5, Vp w10.heap.size), (12, .slice ha p.nh hc), (13, Vi p.nh), (14, Vi 0)] (by
  refine Y.pv F (X.field rfl (F.ev 3 (Vp w.heap.size)) (X.fld Try.underlying27 rfl (Try.siz23 _) rfl rfl)) fun ac F=>?_
  refine Y.pv F (X.load rfl (F.ev 11 (.pointer (some ⟨w.heap.size, 1, none⟩))) (X.ld1 (Try.agg23 _) (hC.at 1 rfl))) fun ac F=>?_
  refine Y.pv F (X.len1 Try.underlying23 rfl (F.ev 12 (.slice ha p.nh hc))) fun ac F=>?_
  refine Y.pv F (X.move rfl (X.kc (Vi 0) rfl)) fun ac F=>?_
  exact Y.fin F) ?_;clear F ac;intro ac F
 refine Y.block ?_
 refine Y.loop (fun me_ ac wr => ∃ (i : Nat), me_ = p.nh - i ∧ Only (fun b => False) w11 wr ∧ i ≤ p.nh ∧ allN (fitL p l) i = true ∧ Fr ac 61 [(3, Vp w.heap.size), (4, Vp w6.heap.size), (5, Vp w10.heap.size), (12, .slice ha p.nh hc), (13, Vi p.nh), (14, Vi i)]) _ ⟨0, rfl, Only.refl _ _, Nat.zero_le _, rfl, F.sub _⟩ ?_
 have hptB1 := hpt
 have hphB1 := hph
 have hpbB1 := hpb
 have hplB1 := hpl
 have hxsB1 := hxs
 have hVw11B1 := hVw11
 have GB1 := G
 have hCB1 := hC
 clear F ac
 intro me_ ac w12 hI
 obtain ⟨i, rfl, hO1, hi0, hok, F⟩ := hI
 replace G := GB1.trans (hO1.gr (fun _ _ h => h))
 replace hpt := (hP.t).gr G
 replace hph := (hP.h).gr G
 replace hpb := (hP.b).gr G
 replace hpl := (hP.l).gr G
 replace hxs := (hX).gr G
 replace hVw11 := hVw11B1.only hO1 (fun h => h)
 replace hC := (RCells.cons (hO1.cell (hCB1.at 0 rfl) (fun h => h)) (RCells.cons (hO1.cell (hCB1.at 1 rfl) (fun h => h)) (RCells.cons (hO1.cell (hCB1.at 2 rfl) (fun h => h)) (RCells.cons (hO1.cell (hCB1.at 3 rfl) (fun h => h)) (RCells.cons (hO1.cell (hCB1.at 4 rfl) (fun h => h)) (RCells.nil _))))))
 refine Y.sg F [(3, Vp w.heap.size), (4, Vp w6.heap.size), (5, Vp w10.heap.size), (12, .slice ha p.nh hc), (13, Vi p.nh), (14, Vi i), (15, .bool (decide ((i : Int) < p.nh)))] (Y.pv F (X.binop rfl (F.ev 14 (Vi i)) (F.ev 13 (Vi p.nh)) (X.lssI Try.underlying3 rfl)) fun ac F=>Y.fin F) ?_;clear F ac;intro ac F
 refine Y.seq ?_
 cases h13 : decide ((i : Int) < p.nh) with
 | false =>
  try rw [h13] at F
  have h13p : ¬ ((i : Int) < p.nh) := of_decide_eq_false h13
  obtain rfl : i = p.nh := by omega
  have hall1 := hok
  refine Y.cF F 15 ?_
  refine Y.exit ?_
  refine X.thenX (X.thenX (X.blockX (X.thenN ?_)))
  refine Y.seq ?_
  refine Y.sg F [(3, Vp w.heap.size), (4, Vp w6.heap.size), (36, .slice a xs.length c), (37, Vi xs.length), (38, Vi 0)] (Y.pv F (X.load rfl (F.ev 4 (Vp w6.heap.size)) (X.ld1 (Try.agg34 _) (hC.at 4 rfl))) fun ac F=>Y.pv F (X.len1 Try.underlying34 rfl (F.ev 36 (.slice a xs.length c))) fun ac F=>Y.pv F (X.move rfl (X.kc (Vi 0) rfl)) fun ac F=>Y.fin F) ?_;clear F ac;intro ac F
  refine Y.block ?_
  refine Y.loop (fun me_ ac wr => ∃ (k : Nat), me_ = xs.length - k ∧ Only (fun b => False) w12 wr ∧ k ≤ xs.length ∧ allN (lvlB p xs) k = true ∧ Fr ac 61 [(3, Vp w.heap.size), (4, Vp w6.heap.size), (36, .slice a xs.length c), (37, Vi xs.length), (38, Vi k)]) _ ⟨0, rfl, Only.refl _ _, Nat.zero_le _, rfl, F.sub _⟩ ?_
  have hptB1 := hpt
  have hphB1 := hph
  have hpbB1 := hpb
  have hplB1 := hpl
  have hxsB1 := hxs
  have hVw11B1 := hVw11
  have GB1 := G
  have hCB1 := hC
  clear F ac
  intro me_ ac w14 hI
  obtain ⟨k, rfl, hO1, hk0, hok, F⟩ := hI
  replace G := GB1.trans (hO1.gr (fun _ _ h => h))
  replace hpt := (hP.t).gr G
  replace hph := (hP.h).gr G
  replace hpb := (hP.b).gr G
  replace hpl := (hP.l).gr G
  replace hxs := (hX).gr G
  replace hVw11 := hVw11B1.only hO1 (fun h => h)
  replace hC := (RCells.cons (hO1.cell (hCB1.at 0 rfl) (fun h => h)) (RCells.cons (hO1.cell (hCB1.at 1 rfl) (fun h => h)) (RCells.cons (hO1.cell (hCB1.at 2 rfl) (fun h => h)) (RCells.cons (hO1.cell (hCB1.at 3 rfl) (fun h => h)) (RCells.cons (hO1.cell (hCB1.at 4 rfl) (fun h => h)) (RCells.nil _))))))
  refine Y.sg F [(3, Vp w.heap.size), (4, Vp w6.heap.size), (36, .slice a xs.length c), (37, Vi xs.length), (38, Vi k), (39, .bool (decide ((k : Int) < xs.length)))] (Y.pv F (X.binop rfl (F.ev 38 (Vi k)) (F.ev 37 (Vi xs.length)) (X.lssI Try.underlying3 rfl)) fun ac F=>Y.fin F) ?_;clear F ac;intro ac F
  refine Y.seq ?_
  cases h15 : decide ((k : Int) < xs.length) with
  | false =>
   try rw [h15] at F
   have h15p : ¬ ((k : Int) < xs.length) := of_decide_eq_false h15
   obtain rfl : k = xs.length := by omega
   have hall2 := hok
   refine Y.cF F 39 ?_
   refine Y.exit ?_
   refine X.thenX (X.thenX (X.blockX (X.thenN ?_)))
   refine Y.sl ?_
   refine Y.pv3 F (X.field rfl (F.ev 3 (Vp w.heap.size)) (X.fld Try.underlying27 rfl (Try.siz24 _) rfl rfl)) (fun _ F=>X.load rfl (F.ev 57 (.pointer (some ⟨w.heap.size, 2, none⟩))) (X.ld1 (Try.agg24 _) (hC.at 2 rfl))) (fun _ F=>Y.fnc rfl (Y.m2 (F.ev 3 (Vp w.heap.size)) (F.ev 4 (Vp w6.heap.size)))) fun ac F=>Y.pc F 105 (X.a2 (F.ev 58 (.slice ba p.nb bc)) (F.ev 59 (.func (.func 106) #[] #[Vp w.heap.size, Vp w6.heap.size]))) Try.func105 (con105_any p ta ha ba la tc hc bc lc a c w.heap.size w6.heap.size xs w14 (hP.gr G) (hX.gr G) hp hx ((RCells.cons (hC.at 0 rfl) (RCells.cons (hC.at 1 rfl) (RCells.cons (hC.at 2 rfl) (RCells.cons (hC.at 3 rfl) (RCells.cons (hC.at 4 rfl) (RCells.nil _)))))))) ?_
   clear F ac
   rintro e w16 ⟨rfl, g⟩
   refine ⟨_, rfl, ?_⟩
   intro ac F
   replace G := G.trans g
   replace hC := hC.gr g
   replace hpt := hpt.gr g
   replace hph := hph.gr g
   replace hpb := hpb.gr g
   replace hpl := hpl.gr g
   replace hxs := hxs.gr g
   replace hVw11 := hVw11.gr g
   clear g
   refine Y.pv F (X.assign rfl (F.ev 60 (.bool (!allN (keptB p xs) p.nb)))) ?_;clear F ac;intro ac F
   refine Y.nt F [(6, .bool (!allN (keptB p xs) p.nb))] ?_;clear F ac;intro ac F
   refine Y.ret ?_
   exact Y.ret0 (v := .bool (!allN (keptB p xs) p.nb)) F (Y.r1 F) ⟨by rw [hop_3 hall1 hall2], G⟩
  | true =>
   try rw [h15] at F
   have h15p : ((k : Int) < xs.length) := of_decide_eq_true h15
   have hk : k < xs.length := by omega
   have hxk := hx k hk
   have hxe : xs[k]?.getD 0 = xg xs k := rfl
   refine Y.cT F 39 ?_
   refine Y.skip ?_
   refine X.thenN ?_
   refine Y.seq ?_
   refine Y.block ?_
   refine Y.sl ?_
   refine Y.pv F (X.move rfl (F.ev 38 (Vi k))) ?_;clear F ac;intro ac F
   obtain ⟨pd17, pe17, -, pc17⟩ := hxs.at (j := k) (by omega)
   subst pe17
   replace hC := hC.append (show RCells w14 ([(pd17.add k, Vi (xs[k]?.getD 0))]) from (RCells.cons pc17 (RCells.nil _)))
   clear pc17
   refine Y.pval F (X.w0 rfl) rfl (X.index rfl (F.ev 36 (.slice (some pd17) xs.length c)) (F.ev 38 (Vi k)) (X.idx (k := k) Try.underlying34 (Try.siz3 _) (by omega) (by omega) (by rw [Nat.mul_one]))) fun ac F=>Y.pv3 F (X.load rfl (F.ev 41 (.pointer (some (pd17.add k)))) (X.ld1 (Try.agg3 _) (hC.at 5 rfl))) (fun _ F=>X.assign rfl (F.ev 40 (Vi k))) (fun _ F=>X.assign rfl (F.ev 42 (Vi (xs[k]?.getD 0)))) ?_;clear F ac;intro ac F
   refine Y.nt F [(3, Vp w.heap.size), (4, Vp w6.heap.size), (9, Vi k), (10, Vi (xs[k]?.getD 0)), (36, .slice (some pd17) xs.length c), (37, Vi xs.length), (38, Vi k)] ?_;clear F ac;intro ac F
   refine Y.seq ?_
   obtain ⟨pd18, pe18, -, pc18⟩ := hph.at (j := (xs[k]?.getD 0).toNat) (by omega)
   subst pe18
   replace hC := hC.append (show RCells w14 (Y.cs (pd18.add (((xs[k]?.getD 0).toNat) * 6)) [.string (p.hn ((xs[k]?.getD 0).toNat)), Vi (p.hv ((xs[k]?.getD 0).toNat) 1), Vi (p.hv ((xs[k]?.getD 0).toNat) 2), Vi (p.hv ((xs[k]?.getD 0).toNat) 3), Vi (p.hv ((xs[k]?.getD 0).toNat) 4), Vi (p.hv ((xs[k]?.getD 0).toNat) 5)]) from (RCells.cons (pc18 0 (by decide)) (RCells.cons (pc18 1 (by decide)) (RCells.cons (pc18 2 (by decide)) (RCells.cons (pc18 3 (by decide)) (RCells.cons (pc18 4 (by decide)) (RCells.cons (pc18 5 (by decide)) (RCells.nil _))))))))
   clear pc18
   obtain ⟨pd19, pe19, -, pc19⟩ := hpt.at (j := k) (by omega)
   subst pe19
   replace hC := hC.append (show RCells w14 (Y.cs (pd19.add (k * 4)) [.string (p.tn k), Vi (p.tv k 1), Vi (p.tv k 2), Vi (p.tv k 3)]) from (RCells.cons (pc19 0 (by decide)) (RCells.cons (pc19 1 (by decide)) (RCells.cons (pc19 2 (by decide)) (RCells.cons (pc19 3 (by decide)) (RCells.nil _))))))
   clear pc19
   refine Y.region F [some (.pointer (some ⟨w.heap.size, 1, none⟩)), some (.slice (some pd18) p.nh hc), some (Vi (xs[k]?.getD 0)), some (.pointer (some (pd18.add (((xs[k]?.getD 0).toNat) * 6)))), some (.pointer (some (⟨(pd18.add (((xs[k]?.getD 0).toNat) * 6)).block, (pd18.add (((xs[k]?.getD 0).toNat) * 6)).off + 3, none⟩))), some (Vi (p.hv ((xs[k]?.getD 0).toNat) 3)), some (Vp w.heap.size), some (.slice (some pd19) p.nt tc), some (Vi k), some (.pointer (some (pd19.add (k * 4)))), some (.pointer (some (⟨(pd19.add (k * 4)).block, (pd19.add (k * 4)).off + 3, none⟩))), some (Vi (p.tv k 3)), some (.bool (decide ((p.hv ((xs[k]?.getD 0).toNat) 3 : Int) < (p.tv k 3))))] [] rfl ⟨by kernel_rfl, of_decide_eq_true (by kernel_rfl), by kernel_rfl, by kernel_rfl, by kernel_rfl⟩ ⟨?_, ?_, ?_, ?_, ?_, ?_, ?_, ?_, ?_, ?_, ?_, ?_, ?_, trivial⟩ ?_
   ·intro ac done u W Sx hR
    exact X.vl (X.field rfl (Sx.ev 3 (Vp w.heap.size)) (X.fld Try.underlying27 rfl (Try.siz23 _) rfl rfl)) hR.st0
   ·intro ac done u W Sx hR
    have g : Gr w14 W := hR.1
    exact X.vl (X.load rfl (Sx.ev 43 (.pointer (some ⟨w.heap.size, 1, none⟩))) (X.ld1 (Try.agg23 _) ((hC.gr g).at 1 rfl))) hR.st0
   ·intro ac done u W Sx hR
    exact X.vl (X.move rfl (Sx.ev 10 (Vi (xs[k]?.getD 0)))) hR.st0
   ·intro ac done u W Sx hR
    exact X.vl (X.index rfl (Sx.ev 44 (.slice (some pd18) p.nh hc)) (Sx.ev 45 (Vi (xs[k]?.getD 0))) (X.idx (k := (xs[k]?.getD 0).toNat) Try.underlying23 (Try.siz53 _) (by omega) (by omega) rfl)) hR.st0
   ·intro ac done u W Sx hR
    exact X.vl (X.field rfl (Sx.ev 46 (.pointer (some (pd18.add (((xs[k]?.getD 0).toNat) * 6))))) (X.fld Try.underlying53 rfl (Try.siz3 _) rfl rfl)) hR.st0
   ·intro ac done u W Sx hR
    have g : Gr w14 W := hR.1
    exact X.vl (X.load rfl (Sx.ev 47 (.pointer (some (⟨(pd18.add (((xs[k]?.getD 0).toNat) * 6)).block, (pd18.add (((xs[k]?.getD 0).toNat) * 6)).off + 3, none⟩)))) (X.ld1 (Try.agg3 _) ((hC.gr g).at 9 rfl))) hR.st0
   ·intro ac done u W Sx hR
    exact X.vl (X.field rfl (Sx.ev 3 (Vp w.heap.size)) (X.fld Try.underlying27 rfl (Try.siz22 _) rfl rfl)) hR.st0
   ·intro ac done u W Sx hR
    have g : Gr w14 W := hR.1
    exact X.vl (X.load rfl (Sx.ev 49 (Vp w.heap.size)) (X.ld1 (Try.agg22 _) ((hC.gr g).at 0 rfl))) hR.st0
   ·intro ac done u W Sx hR
    exact X.vl (X.move rfl (Sx.ev 9 (Vi k))) hR.st0
   ·intro ac done u W Sx hR
    exact X.vl (X.index rfl (Sx.ev 50 (.slice (some pd19) p.nt tc)) (Sx.ev 51 (Vi k)) (X.idx (k := k) Try.underlying22 (Try.siz74 _) (by omega) (by omega) rfl)) hR.st0
   ·intro ac done u W Sx hR
    exact X.vl (X.field rfl (Sx.ev 52 (.pointer (some (pd19.add (k * 4))))) (X.fld Try.underlying74 rfl (Try.siz3 _) rfl rfl)) hR.st0
   ·intro ac done u W Sx hR
    have g : Gr w14 W := hR.1
    exact X.vl (X.load rfl (Sx.ev 53 (.pointer (some (⟨(pd19.add (k * 4)).block, (pd19.add (k * 4)).off + 3, none⟩)))) (X.ld1 (Try.agg3 _) ((hC.gr g).at 15 rfl))) hR.st0
   ·intro ac done u W Sx hR
    exact X.vl (X.binop rfl (Sx.ev 48 (Vi (p.hv ((xs[k]?.getD 0).toNat) 3))) (Sx.ev 54 (Vi (p.tv k 3))) (X.lssI Try.underlying3 rfl)) hR.st0
   intro ac u w20 hs hd hl ho hR
   have g : Gr w14 w20 := hR.1
   replace F : Fr ac 61 [(3, Vp w.heap.size), (4, Vp w6.heap.size), (36, .slice (some pd17) xs.length c), (37, Vi xs.length), (38, Vi k), (55, .bool (decide ((p.hv ((xs[k]?.getD 0).toNat) 3 : Int) < (p.tv k 3))))] := X.fr hs hd hl _ (by kernel_rfl)
   clear hs hd hl ho hR
   replace G := G.trans g
   replace hC := hC.gr g
   replace hO1 := hO1.thenGr g
   replace hpt := hpt.gr g
   replace hph := hph.gr g
   replace hpb := hpb.gr g
   replace hpl := hpl.gr g
   replace hxs := hxs.gr g
   replace hVw11 := hVw11.gr g
   clear g
   refine X.thenN ?_
   cases h21 : decide ((p.hv ((xs[k]?.getD 0).toNat) 3 : Int) < (p.tv k 3)) with
   | false =>
    try rw [h21] at F
    have h21p : ¬ ((p.hv ((xs[k]?.getD 0).toNat) 3 : Int) < (p.tv k 3)) := of_decide_eq_false h21
    refine Y.cF F 55 ?_
    refine Y.skip ?_
    refine X.blockN (X.thenN ?_)
    refine Y.lg F [(3, Vp w.heap.size), (4, Vp w6.heap.size), (36, .slice (some pd17) xs.length c), (37, Vi xs.length), (38, Vi ((k : Int) + 1))] (by
     refine Y.pv F (X.binop rfl (F.ev 38 (Vi k)) (X.kc (Vi 1) rfl) (X.addI Try.underlying3 rfl (by omega) (by omega))) fun ac F=>?_
     refine Y.pv F (X.move rfl (F.ev 56 (Vi ((k : Int) + 1)))) fun ac F=>?_
     exact Y.fin F) ?_;clear F ac;intro ac F
    refine ⟨_, ?_, k + 1, rfl, hO1, by omega, allN_succ hok (lvl_ok (by omega)), F.sub _⟩
    omega
   | true =>
    try rw [h21] at F
    have h21p : ((p.hv ((xs[k]?.getD 0).toNat) 3 : Int) < (p.tv k 3)) := of_decide_eq_true h21
    refine Y.cT F 55 ?_
    refine Y.sk F 6 (.bool true) ?_;clear F ac;intro ac F
    refine Y.ret ?_
    refine X.blockR (X.thenR (X.thenR (X.blockR (X.thenR ?_))))
    exact Y.ret0 (v := .bool true) F (Y.r1 F) ⟨by rw [hop_2 hk (lvl_no (by omega))], G⟩
 | true =>
  try rw [h13] at F
  have h13p : ((i : Int) < p.nh) := of_decide_eq_true h13
  have hi : i < p.nh := by omega
  refine Y.cT F 15 ?_
  refine Y.skip ?_
  refine X.thenN ?_
  refine Y.seq ?_
  refine Y.block ?_
  refine Y.sl ?_
  refine Y.pv F (X.move rfl (F.ev 14 (Vi i))) ?_;clear F ac;intro ac F
  obtain ⟨pd22, pe22, -, pc22⟩ := hph.at (j := i) (by omega)
  subst pe22
  replace hC := hC.append (show RCells w12 (Y.cs (pd22.add (i * 6)) [.string (p.hn i), Vi (p.hv i 1), Vi (p.hv i 2), Vi (p.hv i 3), Vi (p.hv i 4), Vi (p.hv i 5)]) from (RCells.cons (pc22 0 (by decide)) (RCells.cons (pc22 1 (by decide)) (RCells.cons (pc22 2 (by decide)) (RCells.cons (pc22 3 (by decide)) (RCells.cons (pc22 4 (by decide)) (RCells.cons (pc22 5 (by decide)) (RCells.nil _))))))))
  clear pc22
  refine Y.pv4 F (X.index rfl (F.ev 12 (.slice (some pd22) p.nh hc)) (F.ev 14 (Vi i)) (X.idx (k := i) Try.underlying23 (Try.siz53 _) (by omega) (by omega) rfl)) (fun _ F=>X.load rfl (F.ev 17 (.pointer (some (pd22.add (i * 6))))) (X.ldN (Try.agg53 _) (Try.siz53 _) (Y.atz (pd22.add (i * 6)) (Y.AtFrom.cons (hC.at 5 rfl) (Y.AtFrom.cons (hC.at 6 rfl) (Y.AtFrom.cons (hC.at 7 rfl) (Y.AtFrom.cons (hC.at 8 rfl) (Y.AtFrom.cons (hC.at 9 rfl) (Y.AtFrom.cons (hC.at 10 rfl) (Y.AtFrom.nil _ _ _)))))))))) (fun _ F=>Y.al rfl (Try.new53 _)) (fun _ F=>X.assign rfl (F.ev 16 (Vi i))) fun ac F=>Y.punit F (X.w0 rfl) rfl (X.store rfl (F.ev 8 (Vp w12.heap.size)) (F.ev 18 (.agg #[.string (p.hn i), Vi (p.hv i 1), Vi (p.hv i 2), Vi (p.hv i 3), Vi (p.hv i 4), Vi (p.hv i 5)])) (Y.stNew [.string (p.hn i), Vi (p.hv i 1), Vi (p.hv i 2), Vi (p.hv i 3), Vi (p.hv i 4), Vi (p.hv i 5)] [(.string ByteArray.empty), Vi 0, Vi 0, Vi 0, Vi 0, Vi 0] (Try.siz53 _) rfl rfl)) ?_;clear F ac;intro ac F
  have hgs23 : w.heap.size ≤ w12.heap.size := G.size
  obtain ⟨w24, hw_, g, hb, hbl, hC2⟩ := Y.bxd hC #[.string (p.hn i), Vi (p.hv i 1), Vi (p.hv i 2), Vi (p.hv i 3), Vi (p.hv i 4), Vi (p.hv i 5)] 53;rw [hw_];clear hw_
  replace G := G.trans g
  replace hC := hC2
  clear hC2
  replace hO1 := hO1.thenGr g
  replace hpt := hpt.gr g
  replace hph := hph.gr g
  replace hpb := hpb.gr g
  replace hpl := hpl.gr g
  replace hxs := hxs.gr g
  replace hVw11 := hVw11.gr g
  clear g hb hbl
  refine Y.nt F [(3, Vp w.heap.size), (4, Vp w6.heap.size), (5, Vp w10.heap.size), (7, Vi i), (8, Vp w12.heap.size), (12, .slice (some pd22) p.nh hc), (13, Vi p.nh), (14, Vi i)] ?_;clear F ac;intro ac F
  refine Y.seq ?_
  replace hC := hC.append (show RCells w24 ([(⟨w10.heap.size, i * 3, none⟩, Vi (l (i * 3)))]) from (RCells.cons (hVw11.cell (k := i * 3) (by omega)) (RCells.nil _)))
  cases h25 : decide ((p.hv i 1 : Int) < (l (i * 3))) with
  | false =>
   try rw [h25] at F
   have h25p : ¬ ((p.hv i 1 : Int) < (l (i * 3))) := of_decide_eq_false h25
   replace hC := hC.append (show RCells w24 ([(⟨w10.heap.size, i * 3 + 1, none⟩, Vi (l (i * 3 + 1)))]) from (RCells.cons (hVw11.cell (k := i * 3 + 1) (by omega)) (RCells.nil _)))
   refine Y.region F [some (Vi i), some (.pointer (some ⟨w10.heap.size, i * 3, none⟩)), some (.pointer (some ⟨w10.heap.size, i * 3, none⟩)), some (Vi (l (i * 3))), some (.pointer (some ⟨w12.heap.size, 1, none⟩)), some (Vi (p.hv i 1)), some (.bool false), some (.bool false), some (Vi i), some (.pointer (some ⟨w10.heap.size, i * 3, none⟩)), some (.pointer (some ⟨w10.heap.size, i * 3 + 1, none⟩)), some (Vi (l (i * 3 + 1))), some (.pointer (some ⟨w12.heap.size, 2, none⟩)), some (Vi (p.hv i 2)), some (.bool (decide ((p.hv i 2 : Int) < (l (i * 3 + 1))))), some (.bool (decide ((p.hv i 2 : Int) < (l (i * 3 + 1)))))] [] rfl ⟨by kernel_rfl, of_decide_eq_true (by kernel_rfl), by kernel_rfl, by kernel_rfl, by kernel_rfl⟩ ⟨?_, ?_, ?_, ?_, ?_, ?_, ?_, ?_, ?_, ?_, ?_, ?_, ?_, ?_, ?_, ?_, trivial⟩ ?_
   ·intro ac done u W Sx hR
    exact X.vl (X.move rfl (Sx.ev 7 (Vi i))) hR.st0
   ·intro ac done u W Sx hR
    exact X.vl (X.index rfl (Sx.ev 5 (Vp w10.heap.size)) (Sx.ev 19 (Vi i)) (Y.idxA (k := i) Try.underlying108 (Try.siz106 _) (by decide) (by omega) (by omega) (addr_add0 _ _))) hR.st0
   ·intro ac done u W Sx hR
    exact X.vl (X.field rfl (Sx.ev 20 (.pointer (some ⟨w10.heap.size, i * 3, none⟩))) (X.fld Try.underlying106 rfl (Try.siz3 _) rfl rfl)) hR.st0
   ·intro ac done u W Sx hR
    have g : Gr w24 W := hR.1
    exact X.vl (X.load rfl (Sx.ev 21 (.pointer (some ⟨w10.heap.size, i * 3, none⟩))) (X.ld1 (Try.agg3 _) ((hC.gr g).at 17 rfl))) hR.st0
   ·intro ac done u W Sx hR
    exact X.vl (X.field rfl (Sx.ev 8 (Vp w12.heap.size)) (X.fld Try.underlying53 rfl (Try.siz3 _) rfl rfl)) hR.st0
   ·intro ac done u W Sx hR
    have g : Gr w24 W := hR.1
    exact X.vl (X.load rfl (Sx.ev 23 (.pointer (some ⟨w12.heap.size, 1, none⟩))) (X.ld1 (Try.agg3 _) ((hC.gr g).at 12 rfl))) hR.st0
   ·intro ac done u W Sx hR
    exact X.vl (X.binop rfl (Sx.ev 22 (Vi (l (i * 3)))) (Sx.ev 24 (Vi (p.hv i 1))) (X.gtrI Try.underlying3 h25)) hR.st0
   ·intro ac done u W Sx hR
    exact X.vl (X.move rfl (Sx.ev 25 (.bool false))) hR.st0
   ·intro ac done u W Sx hR
    exact X.val (X.w1 rfl (Sx.yl 7 26 false (by kernel_rfl) rfl rfl)) rfl (X.move rfl (Sx.ev 7 (Vi i))) hR.st0
   ·intro ac done u W Sx hR
    exact X.val (X.w1 rfl (Sx.yl 7 26 false (by kernel_rfl) rfl rfl)) rfl (X.index rfl (Sx.ev 5 (Vp w10.heap.size)) (Sx.ev 27 (Vi i)) (Y.idxA (k := i) Try.underlying108 (Try.siz106 _) (by decide) (by omega) (by omega) (addr_add0 _ _))) hR.st0
   ·intro ac done u W Sx hR
    exact X.val (X.w1 rfl (Sx.yl 7 26 false (by kernel_rfl) rfl rfl)) rfl (X.field rfl (Sx.ev 28 (.pointer (some ⟨w10.heap.size, i * 3, none⟩))) (X.fld Try.underlying106 rfl (Try.siz3 _) rfl rfl)) hR.st0
   ·intro ac done u W Sx hR
    have g : Gr w24 W := hR.1
    exact X.val (X.w1 rfl (Sx.yl 7 26 false (by kernel_rfl) rfl rfl)) rfl (X.load rfl (Sx.ev 29 (.pointer (some ⟨w10.heap.size, i * 3 + 1, none⟩))) (X.ld1 (Try.agg3 _) ((hC.gr g).at 18 rfl))) hR.st0
   ·intro ac done u W Sx hR
    exact X.val (X.w1 rfl (Sx.yl 7 26 false (by kernel_rfl) rfl rfl)) rfl (X.field rfl (Sx.ev 8 (Vp w12.heap.size)) (X.fld Try.underlying53 rfl (Try.siz3 _) rfl rfl)) hR.st0
   ·intro ac done u W Sx hR
    have g : Gr w24 W := hR.1
    exact X.val (X.w1 rfl (Sx.yl 7 26 false (by kernel_rfl) rfl rfl)) rfl (X.load rfl (Sx.ev 31 (.pointer (some ⟨w12.heap.size, 2, none⟩))) (X.ld1 (Try.agg3 _) ((hC.gr g).at 13 rfl))) hR.st0
   ·intro ac done u W Sx hR
    exact X.val (X.w1 rfl (Sx.yl 7 26 false (by kernel_rfl) rfl rfl)) rfl (X.binop rfl (Sx.ev 30 (Vi (l (i * 3 + 1)))) (Sx.ev 32 (Vi (p.hv i 2))) (X.gtrI Try.underlying3 rfl)) hR.st0
   ·intro ac done u W Sx hR
    exact X.vl (X.pickF rfl (Sx.ev 26 (.bool false)) (Sx.ev 33 (.bool (decide ((p.hv i 2 : Int) < (l (i * 3 + 1))))))) hR.st0
   intro ac u w26 hs hd hl ho hR
   have g : Gr w24 w26 := hR.1
   replace F : Fr ac 61 [(3, Vp w.heap.size), (4, Vp w6.heap.size), (5, Vp w10.heap.size), (12, .slice (some pd22) p.nh hc), (13, Vi p.nh), (14, Vi i), (34, .bool (decide ((p.hv i 2 : Int) < (l (i * 3 + 1)))))] := X.fr hs hd hl _ (by kernel_rfl)
   clear hs hd hl ho hR
   replace G := G.trans g
   replace hC := hC.gr g
   replace hO1 := hO1.thenGr g
   replace hpt := hpt.gr g
   replace hph := hph.gr g
   replace hpb := hpb.gr g
   replace hpl := hpl.gr g
   replace hxs := hxs.gr g
   replace hVw11 := hVw11.gr g
   clear g
   refine X.thenN ?_
   cases h27 : decide ((p.hv i 2 : Int) < (l (i * 3 + 1))) with
   | false =>
    try rw [h27] at F
    have h27p : ¬ ((p.hv i 2 : Int) < (l (i * 3 + 1))) := of_decide_eq_false h27
    refine Y.cF F 34 ?_
    refine Y.skip ?_
    refine X.blockN (X.thenN ?_)
    refine Y.lg F [(3, Vp w.heap.size), (4, Vp w6.heap.size), (5, Vp w10.heap.size), (12, .slice (some pd22) p.nh hc), (13, Vi p.nh), (14, Vi ((i : Int) + 1))] (by
     refine Y.pv F (X.binop rfl (F.ev 14 (Vi i)) (X.kc (Vi 1) rfl) (X.addI Try.underlying3 rfl (by omega) (by omega))) fun ac F=>?_
     refine Y.pv F (X.move rfl (F.ev 35 (Vi ((i : Int) + 1)))) fun ac F=>?_
     exact Y.fin F) ?_;clear F ac;intro ac F
    refine ⟨_, ?_, i + 1, rfl, hO1, by omega, allN_succ hok (fit_ok (by omega) (by omega)), F.sub _⟩
    omega
   | true =>
    try rw [h27] at F
    have h27p : ((p.hv i 2 : Int) < (l (i * 3 + 1))) := of_decide_eq_true h27
    refine Y.cT F 34 ?_
    refine Y.sk F 6 (.bool true) ?_;clear F ac;intro ac F
    refine Y.ret ?_
    refine X.blockR (X.thenR (X.thenR (X.blockR (X.thenR ?_))))
    exact Y.ret0 (v := .bool true) F (Y.r1 F) ⟨by rw [hop_1 hi (fit_no (by omega))], G⟩
  | true =>
   try rw [h25] at F
   have h25p : ((p.hv i 1 : Int) < (l (i * 3))) := of_decide_eq_true h25
   refine Y.region F [some (Vi i), some (.pointer (some ⟨w10.heap.size, i * 3, none⟩)), some (.pointer (some ⟨w10.heap.size, i * 3, none⟩)), some (Vi (l (i * 3))), some (.pointer (some ⟨w12.heap.size, 1, none⟩)), some (Vi (p.hv i 1)), some (.bool true), some (.bool true), none, none, none, none, none, none, none, some (.bool true)] [] rfl ⟨by kernel_rfl, of_decide_eq_true (by kernel_rfl), by kernel_rfl, by kernel_rfl, by kernel_rfl⟩ ⟨?_, ?_, ?_, ?_, ?_, ?_, ?_, ?_, ?_, ?_, ?_, ?_, ?_, ?_, ?_, ?_, trivial⟩ ?_
   ·intro ac done u W Sx hR
    exact X.vl (X.move rfl (Sx.ev 7 (Vi i))) hR.st0
   ·intro ac done u W Sx hR
    exact X.vl (X.index rfl (Sx.ev 5 (Vp w10.heap.size)) (Sx.ev 19 (Vi i)) (Y.idxA (k := i) Try.underlying108 (Try.siz106 _) (by decide) (by omega) (by omega) (addr_add0 _ _))) hR.st0
   ·intro ac done u W Sx hR
    exact X.vl (X.field rfl (Sx.ev 20 (.pointer (some ⟨w10.heap.size, i * 3, none⟩))) (X.fld Try.underlying106 rfl (Try.siz3 _) rfl rfl)) hR.st0
   ·intro ac done u W Sx hR
    have g : Gr w24 W := hR.1
    exact X.vl (X.load rfl (Sx.ev 21 (.pointer (some ⟨w10.heap.size, i * 3, none⟩))) (X.ld1 (Try.agg3 _) ((hC.gr g).at 17 rfl))) hR.st0
   ·intro ac done u W Sx hR
    exact X.vl (X.field rfl (Sx.ev 8 (Vp w12.heap.size)) (X.fld Try.underlying53 rfl (Try.siz3 _) rfl rfl)) hR.st0
   ·intro ac done u W Sx hR
    have g : Gr w24 W := hR.1
    exact X.vl (X.load rfl (Sx.ev 23 (.pointer (some ⟨w12.heap.size, 1, none⟩))) (X.ld1 (Try.agg3 _) ((hC.gr g).at 12 rfl))) hR.st0
   ·intro ac done u W Sx hR
    exact X.vl (X.binop rfl (Sx.ev 22 (Vi (l (i * 3)))) (Sx.ev 24 (Vi (p.hv i 1))) (X.gtrI Try.underlying3 h25)) hR.st0
   ·intro ac done u W Sx hR
    exact X.vl (X.move rfl (Sx.ev 25 (.bool true))) hR.st0
   ·intro ac done u W Sx hR
    exact X.skip (X.w2 rfl (Sx.yl 7 26 true (by kernel_rfl) rfl rfl) rfl) rfl (hR.skip rfl)
   ·intro ac done u W Sx hR
    exact X.skip (X.w2 rfl (Sx.yl 7 26 true (by kernel_rfl) rfl rfl) rfl) rfl (hR.skip rfl)
   ·intro ac done u W Sx hR
    exact X.skip (X.w2 rfl (Sx.yl 7 26 true (by kernel_rfl) rfl rfl) rfl) rfl (hR.skip rfl)
   ·intro ac done u W Sx hR
    exact X.skip (X.w2 rfl (Sx.yl 7 26 true (by kernel_rfl) rfl rfl) rfl) rfl (hR.skip rfl)
   ·intro ac done u W Sx hR
    exact X.skip (X.w2 rfl (Sx.yl 7 26 true (by kernel_rfl) rfl rfl) rfl) rfl (hR.skip rfl)
   ·intro ac done u W Sx hR
    exact X.skip (X.w2 rfl (Sx.yl 7 26 true (by kernel_rfl) rfl rfl) rfl) rfl (hR.skip rfl)
   ·intro ac done u W Sx hR
    exact X.skip (X.w2 rfl (Sx.yl 7 26 true (by kernel_rfl) rfl rfl) rfl) rfl (hR.skip rfl)
   ·intro ac done u W Sx hR
    exact X.vl (X.pickT rfl (Sx.ev 26 (.bool true)) (X.kc (.bool true) rfl)) hR.st0
   intro ac u w28 hs hd hl ho hR
   have g : Gr w24 w28 := hR.1
   replace F : Fr ac 61 [(3, Vp w.heap.size), (4, Vp w6.heap.size), (5, Vp w10.heap.size), (12, .slice (some pd22) p.nh hc), (13, Vi p.nh), (14, Vi i), (34, .bool true)] := X.fr hs hd hl _ (by kernel_rfl)
   clear hs hd hl ho hR
   replace G := G.trans g
   replace hC := hC.gr g
   replace hO1 := hO1.thenGr g
   replace hpt := hpt.gr g
   replace hph := hph.gr g
   replace hpb := hpb.gr g
   replace hpl := hpl.gr g
   replace hxs := hxs.gr g
   replace hVw11 := hVw11.gr g
   clear g
   refine X.thenN ?_
   refine Y.cT F 34 ?_
   refine Y.sk F 6 (.bool true) ?_;clear F ac;intro ac F
   refine Y.ret ?_
   refine X.blockR (X.thenR (X.thenR (X.blockR (X.thenR ?_))))
   exact Y.ret0 (v := .bool true) F (Y.r1 F) ⟨by rw [hop_1 hi (fit_no (by omega))], G⟩
set_option maxRecDepth 100000 in
set_option maxHeartbeats 4000000 in
theorem bnd_any (p : Pb) (ta ha ba la : Option Addr) (tc hc bc lc : Nat) (a : Option Addr) (c : Nat) (xs : List Int) (l : Nat → Int) (w : World) (hP : PbAt w p ta ha ba la tc hc bc lc) (hX : Ints w a xs.length xs) (hp : PbOk p) (hx : HosOk p xs) (hn : xs.length ≤ p.nt) :
  Calls Try.prog 76 #[.agg #[.slice ta p.nt tc, .slice ha p.nh hc, .slice ba p.nb bc, .slice la p.nl lc], .slice a xs.length c, .agg (ldA l).toArray] w fun e w' => e = .returned (Vi (bndL p l xs)) ∧ Gr w w' := by
 have G := Gr.refl w
 have hpt := hP.t
 have hph := hP.h
 have hpb := hP.b
 have hpl := hP.l
 have hplen := hP.len
 obtain ⟨hn1, hn2, hn3, hn4⟩ := hplen
 have hcp1 := hpt.cap
 have hcp2 := hph.cap
 have hcp3 := hpb.cap
 have hcp4 := hpl.cap
 have hxs := hX
 have hlt := hxs.lt
 have h6 := hp.h6
 have h10 := hp.t10
 refine Y.calls 89 Try.func76 rfl rfl ?_
 intro ac F0
 have F : Fr ac 89 [(0, .agg #[.slice ta p.nt tc, .slice ha p.nh hc, .slice ba p.nb bc, .slice la p.nl lc]), (1, .slice a xs.length c), (2, .agg (ldA l).toArray)] := F0.sub _
 clear F0
 refine Y.sl ?_
 have hgs3 : w.heap.size ≤ w.heap.size := G.size
 refine Y.pv F (X.box rfl (F.ev 0 (.agg #[.slice ta p.nt tc, .slice ha p.nh hc, .slice ba p.nb bc, .slice la p.nl lc])) X.bx) ?_;clear F ac;intro ac F
 have hgs5 : w.heap.size ≤ w.heap.size := G.size
 obtain ⟨w6, hw_, g, hb, hbl, hC2⟩ := Y.bxd (RCells.nil w) #[.slice ta p.nt tc, .slice ha p.nh hc, .slice ba p.nb bc, .slice la p.nl lc] 27;rw [hw_];clear hw_
 replace G := G.trans g
 have hC := hC2
 clear hC2
 replace hpt := hpt.gr g
 replace hph := hph.gr g
 replace hpb := hpb.gr g
 replace hpl := hpl.gr g
 replace hxs := hxs.gr g
 have hsz4 := hbl
 clear g hb hbl
 refine Y.pv F (X.box rfl (F.ev 2 (.agg (ldA l).toArray)) X.bx) ?_;clear F ac;intro ac F
 have g := Gr.alloc w6 (.cells (ldA l).toArray 108)
 have hb := heap_alloc_new w6 (.cells (ldA l).toArray 108)
 have hszw7 : w6.heap.size < (w6.alloc (.cells (ldA l).toArray 108)).heap.size := by simp
 have hgsw7 : w.heap.size ≤ w6.heap.size := G.size
 generalize w6.alloc (.cells (ldA l).toArray 108) = w7 at *
 replace G := G.trans g
 replace hC := hC.gr g
 replace hpt := hpt.gr g
 replace hph := hph.gr g
 replace hpb := hpb.gr g
 replace hpl := hpl.gr g
 replace hxs := hxs.gr g
 have hVw7 : OwnP w7 w6.heap.size 18 (LV l) := ld_own hb
 clear g hb
 refine Y.pv F (X.assign rfl (X.kc (Vi 0) rfl)) ?_;clear F ac;intro ac F
 refine Y.nt F [(1, .slice a xs.length c), (3, Vp w.heap.size), (5, Vp w6.heap.size)] ?_;clear F ac;intro ac F
 refine Y.sg F [(1, .slice a xs.length c), (3, Vp w.heap.size), (5, Vp w6.heap.size), (7, Vi 0)] (Y.pv F (X.assign rfl (X.kc (Vi 0) rfl)) fun ac F=>Y.fin F) ?_;clear F ac;intro ac F
 refine Y.seq ?_
 refine Y.sg F [(1, .slice a xs.length c), (3, Vp w.heap.size), (5, Vp w6.heap.size), (7, Vi 0), (13, .slice ha p.nh hc), (14, Vi p.nh), (15, Vi 0)] (by
  refine Y.pv F (X.field rfl (F.ev 3 (Vp w.heap.size)) (X.fld Try.underlying27 rfl (Try.siz23 _) rfl rfl)) fun ac F=>?_
  refine Y.pv F (X.load rfl (F.ev 12 (.pointer (some ⟨w.heap.size, 1, none⟩))) (X.ld1 (Try.agg23 _) (hC.at 1 rfl))) fun ac F=>?_
  refine Y.pv F (X.len1 Try.underlying23 rfl (F.ev 13 (.slice ha p.nh hc))) fun ac F=>?_
  refine Y.pv F (X.move rfl (X.kc (Vi 0) rfl)) fun ac F=>?_
  exact Y.fin F) ?_;clear F ac;intro ac F
 refine Y.block ?_
 refine Y.loop (fun me_ ac wr => ∃ (i : Nat), me_ = p.nh - i ∧ Only (fun b => False) w7 wr ∧ i ≤ p.nh ∧ Fr ac 89 [(1, .slice a xs.length c), (3, Vp w.heap.size), (5, Vp w6.heap.size), (7, Vi (sumZ (priceL p l) i)), (13, .slice ha p.nh hc), (14, Vi p.nh), (15, Vi i)]) _ ⟨0, rfl, Only.refl _ _, Nat.zero_le _, F.sub _⟩ ?_
 have hptB1 := hpt
 have hphB1 := hph
 have hpbB1 := hpb
 have hplB1 := hpl
 have hxsB1 := hxs
 have hVw7B1 := hVw7
 have GB1 := G
 have hCB1 := hC
 clear F ac
 intro me_ ac w8 hI
 obtain ⟨i, rfl, hO1, hi0, F⟩ := hI
 replace G := GB1.trans (hO1.gr (fun _ _ h => h))
 replace hpt := (hP.t).gr G
 replace hph := (hP.h).gr G
 replace hpb := (hP.b).gr G
 replace hpl := (hP.l).gr G
 replace hxs := (hX).gr G
 replace hVw7 := hVw7B1.only hO1 (fun h => h)
 replace hC := (RCells.cons (hO1.cell (hCB1.at 0 rfl) (fun h => h)) (RCells.cons (hO1.cell (hCB1.at 1 rfl) (fun h => h)) (RCells.cons (hO1.cell (hCB1.at 2 rfl) (fun h => h)) (RCells.cons (hO1.cell (hCB1.at 3 rfl) (fun h => h)) (RCells.nil _)))))
 refine Y.sg F [(1, .slice a xs.length c), (3, Vp w.heap.size), (5, Vp w6.heap.size), (7, Vi (sumZ (priceL p l) i)), (13, .slice ha p.nh hc), (14, Vi p.nh), (15, Vi i), (16, .bool (decide ((i : Int) < p.nh)))] (Y.pv F (X.binop rfl (F.ev 15 (Vi i)) (F.ev 14 (Vi p.nh)) (X.lssI Try.underlying3 rfl)) fun ac F=>Y.fin F) ?_;clear F ac;intro ac F
 refine Y.seq ?_
 cases h9 : decide ((i : Int) < p.nh) with
 | false =>
  try rw [h9] at F
  have h9p : ¬ ((i : Int) < p.nh) := of_decide_eq_false h9
  obtain rfl : i = p.nh := by omega
  refine Y.cF F 16 ?_
  refine Y.exit ?_
  refine X.thenX (X.thenX (X.blockX (X.thenN ?_)))
  refine Y.seq ?_
  refine Y.sg F [(1, .slice a xs.length c), (3, Vp w.heap.size), (7, Vi (sumZ (priceL p l) p.nh)), (31, .slice la p.nl lc), (32, Vi p.nl), (33, Vi 0)] (by
   refine Y.pv F (X.field rfl (F.ev 3 (Vp w.heap.size)) (X.fld Try.underlying27 rfl (Try.siz25 _) rfl rfl)) fun ac F=>?_
   refine Y.pv F (X.load rfl (F.ev 30 (.pointer (some ⟨w.heap.size, 3, none⟩))) (X.ld1 (Try.agg25 _) (hC.at 3 rfl))) fun ac F=>?_
   refine Y.pv F (X.len1 Try.underlying25 rfl (F.ev 31 (.slice la p.nl lc))) fun ac F=>?_
   refine Y.pv F (X.move rfl (X.kc (Vi 0) rfl)) fun ac F=>?_
   exact Y.fin F) ?_;clear F ac;intro ac F
  refine Y.block ?_
  refine Y.loop (fun me_ ac wr => ∃ (k : Nat), me_ = p.nl - k ∧ Only (fun b => False) w8 wr ∧ k ≤ p.nl ∧ Fr ac 89 [(1, .slice a xs.length c), (3, Vp w.heap.size), (7, Vi ((sumZ (priceL p l) p.nh : Int) + sumZ (talkI p xs) k)), (31, .slice la p.nl lc), (32, Vi p.nl), (33, Vi k)]) _ ⟨0, rfl, Only.refl _ _, Nat.zero_le _, (by rw [show sumZ (priceL p l) p.nh + sumZ (talkI p xs) 0 = sumZ (priceL p l) p.nh from Int.add_zero _]; exact F.sub _)⟩ ?_
  have hptB1 := hpt
  have hphB1 := hph
  have hpbB1 := hpb
  have hplB1 := hpl
  have hxsB1 := hxs
  have hVw7B1 := hVw7
  have GB1 := G
  have hCB1 := hC
  clear F ac
  intro me_ ac w10 hI
  obtain ⟨k, rfl, hO1, hk0, F⟩ := hI
  replace G := GB1.trans (hO1.gr (fun _ _ h => h))
  replace hpt := (hP.t).gr G
  replace hph := (hP.h).gr G
  replace hpb := (hP.b).gr G
  replace hpl := (hP.l).gr G
  replace hxs := (hX).gr G
  replace hVw7 := hVw7B1.only hO1 (fun h => h)
  replace hC := (RCells.cons (hO1.cell (hCB1.at 0 rfl) (fun h => h)) (RCells.cons (hO1.cell (hCB1.at 1 rfl) (fun h => h)) (RCells.cons (hO1.cell (hCB1.at 2 rfl) (fun h => h)) (RCells.cons (hO1.cell (hCB1.at 3 rfl) (fun h => h)) (RCells.nil _)))))
  refine Y.sg F [(1, .slice a xs.length c), (3, Vp w.heap.size), (7, Vi ((sumZ (priceL p l) p.nh : Int) + sumZ (talkI p xs) k)), (31, .slice la p.nl lc), (32, Vi p.nl), (33, Vi k), (34, .bool (decide ((k : Int) < p.nl)))] (Y.pv F (X.binop rfl (F.ev 33 (Vi k)) (F.ev 32 (Vi p.nl)) (X.lssI Try.underlying3 rfl)) fun ac F=>Y.fin F) ?_;clear F ac;intro ac F
  refine Y.seq ?_
  cases h11 : decide ((k : Int) < p.nl) with
  | false =>
   try rw [h11] at F
   have h11p : ¬ ((k : Int) < p.nl) := of_decide_eq_false h11
   obtain rfl : k = p.nl := by omega
   refine Y.cF F 34 ?_
   refine Y.exit ?_
   refine X.thenX (X.thenX (X.blockX (X.thenN ?_)))
   refine Y.sg F [(6, Vi ((sumZ (priceL p l) p.nh : Int) + sumZ (talkI p xs) p.nl))] (Y.pv F (X.move rfl (F.ev 7 (Vi ((sumZ (priceL p l) p.nh : Int) + sumZ (talkI p xs) p.nl)))) fun ac F=>Y.pv F (X.assign rfl (F.ev 88 (Vi ((sumZ (priceL p l) p.nh : Int) + sumZ (talkI p xs) p.nl)))) fun ac F=>Y.fin F) ?_;clear F ac;intro ac F
   refine Y.ret ?_
   exact Y.ret0 (v := Vi ((sumZ (priceL p l) p.nh : Int) + sumZ (talkI p xs) p.nl)) F (Y.r1 F) ⟨rfl, G⟩
  | true =>
   try rw [h11] at F
   have h11p : ((k : Int) < p.nl) := of_decide_eq_true h11
   have hk : k < p.nl := by omega
   have hsp := priceL_bd hp (l := l) (Nat.le_refl _)
   have hst := talkI_bd hp (xs := xs) hk0
   have hla := hp.la k hk
   have hlb := hp.lb k hk
   have hlw := hp.lw k hk
   refine Y.cT F 34 ?_
   refine Y.skip ?_
   refine X.thenN ?_
   refine Y.seq ?_
   refine Y.block ?_
   refine Y.sl ?_
   obtain ⟨pd12, pe12, -, pc12⟩ := hpl.at (j := k) (by omega)
   subst pe12
   replace hC := hC.append (show RCells w10 (Y.cs (pd12.add (k * 3)) [Vi (p.lv k 0), Vi (p.lv k 1), Vi (p.lv k 2)]) from (RCells.cons (pc12 0 (by decide)) (RCells.cons (pc12 1 (by decide)) (RCells.cons (pc12 2 (by decide)) (RCells.nil _)))))
   clear pc12
   refine Y.pv3 F (X.index rfl (F.ev 31 (.slice (some pd12) p.nl lc)) (F.ev 33 (Vi k)) (X.idx (k := k) Try.underlying25 (Try.siz84 _) (by omega) (by omega) rfl)) (fun _ F=>X.load rfl (F.ev 35 (.pointer (some (pd12.add (k * 3))))) (X.ldN (Try.agg84 _) (Try.siz84 _) (Y.atz (pd12.add (k * 3)) (Y.AtFrom.cons (hC.at 4 rfl) (Y.AtFrom.cons (hC.at 5 rfl) (Y.AtFrom.cons (hC.at 6 rfl) (Y.AtFrom.nil _ _ _))))))) (fun _ F=>Y.al rfl (Try.new84 _)) fun ac F=>Y.punit F (X.w0 rfl) rfl (X.store rfl (F.ev 11 (Vp w10.heap.size)) (F.ev 36 (.agg #[Vi (p.lv k 0), Vi (p.lv k 1), Vi (p.lv k 2)])) (Y.stNew [Vi (p.lv k 0), Vi (p.lv k 1), Vi (p.lv k 2)] [Vi 0, Vi 0, Vi 0] (Try.siz84 _) rfl rfl)) ?_;clear F ac;intro ac F
   have hgs13 : w.heap.size ≤ w10.heap.size := G.size
   obtain ⟨w14, hw_, g, hb, hbl, hC2⟩ := Y.bxd hC #[Vi (p.lv k 0), Vi (p.lv k 1), Vi (p.lv k 2)] 84;rw [hw_];clear hw_
   replace G := G.trans g
   replace hC := hC2
   clear hC2
   replace hO1 := hO1.thenGr g
   replace hpt := hpt.gr g
   replace hph := hph.gr g
   replace hpb := hpb.gr g
   replace hpl := hpl.gr g
   replace hxs := hxs.gr g
   replace hVw7 := hVw7.gr g
   clear g hb hbl
   refine Y.nt F [(1, .slice a xs.length c), (3, Vp w.heap.size), (7, Vi ((sumZ (priceL p l) p.nh : Int) + sumZ (talkI p xs) k)), (11, Vp w10.heap.size), (31, .slice (some pd12) p.nl lc), (32, Vi p.nl), (33, Vi k)] ?_;clear F ac;intro ac F
   refine Y.seq ?_
   refine Y.seq ?_
   cases h15 : decide ((xs.length : Int) ≤ (max (p.lv k 0 : Int) (p.lv k 1 : Int))) with
   | false =>
    try rw [h15] at F
    have h15p : ¬ ((xs.length : Int) ≤ (max (p.lv k 0 : Int) (p.lv k 1 : Int))) := of_decide_eq_false h15
    have hxa := hx (p.lv k 0).toNat (by omega)
    have hxb := hx (p.lv k 1).toNat (by omega)
    have hea : xs[(p.lv k 0).toNat]?.getD 0 = xg xs (p.lv k 0).toNat := rfl
    have heb : xs[(p.lv k 1).toNat]?.getD 0 = xg xs (p.lv k 1).toNat := rfl
    obtain ⟨pd16, pe16, -, pc16⟩ := hxs.at (j := (p.lv k 0).toNat) (by omega)
    subst pe16
    replace hC := hC.append (show RCells w14 ([(pd16.add ((p.lv k 0).toNat), Vi (xs[(p.lv k 0).toNat]?.getD 0))]) from (RCells.cons pc16 (RCells.nil _)))
    clear pc16
    obtain ⟨pd17, pe17, -, pc17⟩ := hxs.at (j := (p.lv k 1).toNat) (by omega)
    injection pe17 with pe17
    subst pe17
    replace hC := hC.append (show RCells w14 ([(pd16.add ((p.lv k 1).toNat), Vi (xs[(p.lv k 1).toNat]?.getD 0))]) from (RCells.cons pc17 (RCells.nil _)))
    clear pc17
    refine Y.region F [some (Vp w10.heap.size), some (Vi (p.lv k 0)), some (.pointer (some ⟨w10.heap.size, 1, none⟩)), some (Vi (p.lv k 1)), some (Vi (max (p.lv k 0 : Int) (p.lv k 1 : Int))), some (.slice (some pd16) xs.length c), some (Vi xs.length), some (.bool false), some (.bool false), some (.slice (some pd16) xs.length c), some (Vp w10.heap.size), some (Vi (p.lv k 0)), some (.pointer (some (pd16.add ((p.lv k 0).toNat)))), some (Vi (xs[(p.lv k 0).toNat]?.getD 0)), some (.slice (some pd16) xs.length c), some (.pointer (some ⟨w10.heap.size, 1, none⟩)), some (Vi (p.lv k 1)), some (.pointer (some (pd16.add ((p.lv k 1).toNat)))), some (Vi (xs[(p.lv k 1).toNat]?.getD 0)), some (.bool ((xs[(p.lv k 0).toNat]?.getD 0 : Int) == (xs[(p.lv k 1).toNat]?.getD 0))), some (.bool ((xs[(p.lv k 0).toNat]?.getD 0 : Int) == (xs[(p.lv k 1).toNat]?.getD 0)))] [] rfl ⟨by kernel_rfl, of_decide_eq_true (by kernel_rfl), by kernel_rfl, by kernel_rfl, by kernel_rfl⟩ ⟨?_, ?_, ?_, ?_, ?_, ?_, ?_, ?_, ?_, ?_, ?_, ?_, ?_, ?_, ?_, ?_, ?_, ?_, ?_, ?_, ?_, trivial⟩ ?_
    ·intro ac done u W Sx hR
     exact X.vl (X.field rfl (Sx.ev 11 (Vp w10.heap.size)) (X.fld Try.underlying84 rfl (Try.siz3 _) rfl rfl)) hR.st0
    ·intro ac done u W Sx hR
     have g : Gr w14 W := hR.1
     exact X.vl (X.load rfl (Sx.ev 37 (Vp w10.heap.size)) (X.ld1 (Try.agg3 _) ((hC.gr g).at 7 rfl))) hR.st0
    ·intro ac done u W Sx hR
     exact X.vl (X.field rfl (Sx.ev 11 (Vp w10.heap.size)) (X.fld Try.underlying84 rfl (Try.siz3 _) rfl rfl)) hR.st0
    ·intro ac done u W Sx hR
     have g : Gr w14 W := hR.1
     exact X.vl (X.load rfl (Sx.ev 39 (.pointer (some ⟨w10.heap.size, 1, none⟩))) (X.ld1 (Try.agg3 _) ((hC.gr g).at 8 rfl))) hR.st0
    ·intro ac done u W Sx hR
     exact X.vl (Y.max2 rfl (Sx.ev 38 (Vi (p.lv k 0))) (Sx.ev 40 (Vi (p.lv k 1)))) hR.st0
    ·intro ac done u W Sx hR
     exact X.vl (X.move rfl (Sx.ev 1 (.slice (some pd16) xs.length c))) hR.st0
    ·intro ac done u W Sx hR
     exact X.vl (X.len1 Try.underlying34 rfl (Sx.ev 42 (.slice (some pd16) xs.length c))) hR.st0
    ·intro ac done u W Sx hR
     exact X.vl (X.binop rfl (Sx.ev 41 (Vi (max (p.lv k 0 : Int) (p.lv k 1 : Int)))) (Sx.ev 43 (Vi xs.length)) (X.geqI Try.underlying3 h15)) hR.st0
    ·intro ac done u W Sx hR
     exact X.vl (X.move rfl (Sx.ev 44 (.bool false))) hR.st0
    ·intro ac done u W Sx hR
     exact X.val (X.w1 rfl (Sx.yl 8 45 false (by kernel_rfl) rfl rfl)) rfl (X.move rfl (Sx.ev 1 (.slice (some pd16) xs.length c))) hR.st0
    ·intro ac done u W Sx hR
     exact X.val (X.w1 rfl (Sx.yl 8 45 false (by kernel_rfl) rfl rfl)) rfl (X.field rfl (Sx.ev 11 (Vp w10.heap.size)) (X.fld Try.underlying84 rfl (Try.siz3 _) rfl rfl)) hR.st0
    ·intro ac done u W Sx hR
     have g : Gr w14 W := hR.1
     exact X.val (X.w1 rfl (Sx.yl 8 45 false (by kernel_rfl) rfl rfl)) rfl (X.load rfl (Sx.ev 47 (Vp w10.heap.size)) (X.ld1 (Try.agg3 _) ((hC.gr g).at 7 rfl))) hR.st0
    ·intro ac done u W Sx hR
     exact X.val (X.w1 rfl (Sx.yl 8 45 false (by kernel_rfl) rfl rfl)) rfl (X.index rfl (Sx.ev 46 (.slice (some pd16) xs.length c)) (Sx.ev 48 (Vi (p.lv k 0))) (X.idx (k := (p.lv k 0).toNat) Try.underlying34 (Try.siz3 _) (by omega) (by omega) (by rw [Nat.mul_one]))) hR.st0
    ·intro ac done u W Sx hR
     have g : Gr w14 W := hR.1
     exact X.val (X.w1 rfl (Sx.yl 8 45 false (by kernel_rfl) rfl rfl)) rfl (X.load rfl (Sx.ev 49 (.pointer (some (pd16.add ((p.lv k 0).toNat))))) (X.ld1 (Try.agg3 _) ((hC.gr g).at 10 rfl))) hR.st0
    ·intro ac done u W Sx hR
     exact X.val (X.w1 rfl (Sx.yl 8 45 false (by kernel_rfl) rfl rfl)) rfl (X.move rfl (Sx.ev 1 (.slice (some pd16) xs.length c))) hR.st0
    ·intro ac done u W Sx hR
     exact X.val (X.w1 rfl (Sx.yl 8 45 false (by kernel_rfl) rfl rfl)) rfl (X.field rfl (Sx.ev 11 (Vp w10.heap.size)) (X.fld Try.underlying84 rfl (Try.siz3 _) rfl rfl)) hR.st0
    ·intro ac done u W Sx hR
     have g : Gr w14 W := hR.1
     exact X.val (X.w1 rfl (Sx.yl 8 45 false (by kernel_rfl) rfl rfl)) rfl (X.load rfl (Sx.ev 52 (.pointer (some ⟨w10.heap.size, 1, none⟩))) (X.ld1 (Try.agg3 _) ((hC.gr g).at 8 rfl))) hR.st0
    ·intro ac done u W Sx hR
     exact X.val (X.w1 rfl (Sx.yl 8 45 false (by kernel_rfl) rfl rfl)) rfl (X.index rfl (Sx.ev 51 (.slice (some pd16) xs.length c)) (Sx.ev 53 (Vi (p.lv k 1))) (X.idx (k := (p.lv k 1).toNat) Try.underlying34 (Try.siz3 _) (by omega) (by omega) (by rw [Nat.mul_one]))) hR.st0
    ·intro ac done u W Sx hR
     have g : Gr w14 W := hR.1
     exact X.val (X.w1 rfl (Sx.yl 8 45 false (by kernel_rfl) rfl rfl)) rfl (X.load rfl (Sx.ev 54 (.pointer (some (pd16.add ((p.lv k 1).toNat))))) (X.ld1 (Try.agg3 _) ((hC.gr g).at 11 rfl))) hR.st0
    ·intro ac done u W Sx hR
     exact X.val (X.w1 rfl (Sx.yl 8 45 false (by kernel_rfl) rfl rfl)) rfl (X.binop rfl (Sx.ev 50 (Vi (xs[(p.lv k 0).toNat]?.getD 0))) (Sx.ev 55 (Vi (xs[(p.lv k 1).toNat]?.getD 0))) (X.eqlI Try.underlying3 rfl)) hR.st0
    ·intro ac done u W Sx hR
     exact X.vl (X.pickF rfl (Sx.ev 45 (.bool false)) (Sx.ev 56 (.bool ((xs[(p.lv k 0).toNat]?.getD 0 : Int) == (xs[(p.lv k 1).toNat]?.getD 0))))) hR.st0
    intro ac u w18 hs hd hl ho hR
    have g : Gr w14 w18 := hR.1
    replace F : Fr ac 89 [(1, .slice (some pd16) xs.length c), (3, Vp w.heap.size), (7, Vi ((sumZ (priceL p l) p.nh : Int) + sumZ (talkI p xs) k)), (11, Vp w10.heap.size), (31, .slice (some pd12) p.nl lc), (32, Vi p.nl), (33, Vi k), (57, .bool ((xs[(p.lv k 0).toNat]?.getD 0 : Int) == (xs[(p.lv k 1).toNat]?.getD 0)))] := X.fr hs hd hl _ (by kernel_rfl)
    clear hs hd hl ho hR
    replace G := G.trans g
    replace hC := hC.gr g
    replace hO1 := hO1.thenGr g
    replace hpt := hpt.gr g
    replace hph := hph.gr g
    replace hpb := hpb.gr g
    replace hpl := hpl.gr g
    replace hxs := hxs.gr g
    replace hVw7 := hVw7.gr g
    clear g
    refine X.thenN ?_
    cases h19 : ((xs[(p.lv k 0).toNat]?.getD 0 : Int) == (xs[(p.lv k 1).toNat]?.getD 0)) with
    | false =>
     try rw [h19] at F
     have h19p : ¬ (xs[(p.lv k 0).toNat]?.getD 0 : Int) = (xs[(p.lv k 1).toNat]?.getD 0) := by simpa using h19
     refine Y.cF F 57 ?_
     refine Y.skip ?_
     refine X.thenN ?_
     refine Y.sg F [(1, .slice (some pd16) xs.length c), (3, Vp w.heap.size), (7, Vi (((sumZ (priceL p l) p.nh : Int) + sumZ (talkI p xs) k : Int) + (p.lv k 2))), (11, Vp w10.heap.size), (31, .slice (some pd12) p.nl lc), (32, Vi p.nl), (33, Vi k)] (by
      refine Y.pv F (X.move rfl (F.ev 7 (Vi ((sumZ (priceL p l) p.nh : Int) + sumZ (talkI p xs) k)))) fun ac F=>?_
      refine Y.pv F (X.field rfl (F.ev 11 (Vp w10.heap.size)) (X.fld Try.underlying84 rfl (Try.siz3 _) rfl rfl)) fun ac F=>?_
      refine Y.pv F (X.load rfl (F.ev 59 (.pointer (some ⟨w10.heap.size, 2, none⟩))) (X.ld1 (Try.agg3 _) (hC.at 9 rfl))) fun ac F=>?_
      refine Y.pv F (X.binop rfl (F.ev 58 (Vi ((sumZ (priceL p l) p.nh : Int) + sumZ (talkI p xs) k))) (F.ev 60 (Vi (p.lv k 2))) (X.addI Try.underlying3 rfl (by omega) (by omega))) fun ac F=>?_
      refine Y.pv F (X.assign rfl (F.ev 61 (Vi (((sumZ (priceL p l) p.nh : Int) + sumZ (talkI p xs) k : Int) + (p.lv k 2))))) fun ac F=>?_
      exact Y.fin F) ?_;clear F ac;intro ac F
     refine Y.seq ?_
     obtain ⟨pd20, pe20, -, pc20⟩ := hph.at (j := (xs[(p.lv k 0).toNat]?.getD 0).toNat) (by omega)
     subst pe20
     replace hC := hC.append (show RCells w18 (Y.cs (pd20.add (((xs[(p.lv k 0).toNat]?.getD 0).toNat) * 6)) [.string (p.hn ((xs[(p.lv k 0).toNat]?.getD 0).toNat)), Vi (p.hv ((xs[(p.lv k 0).toNat]?.getD 0).toNat) 1), Vi (p.hv ((xs[(p.lv k 0).toNat]?.getD 0).toNat) 2), Vi (p.hv ((xs[(p.lv k 0).toNat]?.getD 0).toNat) 3), Vi (p.hv ((xs[(p.lv k 0).toNat]?.getD 0).toNat) 4), Vi (p.hv ((xs[(p.lv k 0).toNat]?.getD 0).toNat) 5)]) from (RCells.cons (pc20 0 (by decide)) (RCells.cons (pc20 1 (by decide)) (RCells.cons (pc20 2 (by decide)) (RCells.cons (pc20 3 (by decide)) (RCells.cons (pc20 4 (by decide)) (RCells.cons (pc20 5 (by decide)) (RCells.nil _))))))))
     clear pc20
     obtain ⟨pd21, pe21, -, pc21⟩ := hph.at (j := (xs[(p.lv k 1).toNat]?.getD 0).toNat) (by omega)
     injection pe21 with pe21
     subst pe21
     replace hC := hC.append (show RCells w18 (Y.cs (pd20.add (((xs[(p.lv k 1).toNat]?.getD 0).toNat) * 6)) [.string (p.hn ((xs[(p.lv k 1).toNat]?.getD 0).toNat)), Vi (p.hv ((xs[(p.lv k 1).toNat]?.getD 0).toNat) 1), Vi (p.hv ((xs[(p.lv k 1).toNat]?.getD 0).toNat) 2), Vi (p.hv ((xs[(p.lv k 1).toNat]?.getD 0).toNat) 3), Vi (p.hv ((xs[(p.lv k 1).toNat]?.getD 0).toNat) 4), Vi (p.hv ((xs[(p.lv k 1).toNat]?.getD 0).toNat) 5)]) from (RCells.cons (pc21 0 (by decide)) (RCells.cons (pc21 1 (by decide)) (RCells.cons (pc21 2 (by decide)) (RCells.cons (pc21 3 (by decide)) (RCells.cons (pc21 4 (by decide)) (RCells.cons (pc21 5 (by decide)) (RCells.nil _))))))))
     clear pc21
     refine Y.region F [some (.pointer (some ⟨w.heap.size, 1, none⟩)), some (.slice (some pd20) p.nh hc), some (.slice (some pd16) xs.length c), some (Vp w10.heap.size), some (Vi (p.lv k 0)), some (.pointer (some (pd16.add ((p.lv k 0).toNat)))), some (Vi (xs[(p.lv k 0).toNat]?.getD 0)), some (.pointer (some (pd20.add (((xs[(p.lv k 0).toNat]?.getD 0).toNat) * 6)))), some (.pointer (some (⟨(pd20.add (((xs[(p.lv k 0).toNat]?.getD 0).toNat) * 6)).block, (pd20.add (((xs[(p.lv k 0).toNat]?.getD 0).toNat) * 6)).off + 4, none⟩))), some (Vi (p.hv ((xs[(p.lv k 0).toNat]?.getD 0).toNat) 4)), some (.pointer (some ⟨w.heap.size, 1, none⟩)), some (.slice (some pd20) p.nh hc), some (.slice (some pd16) xs.length c), some (.pointer (some ⟨w10.heap.size, 1, none⟩)), some (Vi (p.lv k 1)), some (.pointer (some (pd16.add ((p.lv k 1).toNat)))), some (Vi (xs[(p.lv k 1).toNat]?.getD 0)), some (.pointer (some (pd20.add (((xs[(p.lv k 1).toNat]?.getD 0).toNat) * 6)))), some (.pointer (some (⟨(pd20.add (((xs[(p.lv k 1).toNat]?.getD 0).toNat) * 6)).block, (pd20.add (((xs[(p.lv k 1).toNat]?.getD 0).toNat) * 6)).off + 4, none⟩))), some (Vi (p.hv ((xs[(p.lv k 1).toNat]?.getD 0).toNat) 4)), some (.bool ((p.hv ((xs[(p.lv k 0).toNat]?.getD 0).toNat) 4 : Int) != (p.hv ((xs[(p.lv k 1).toNat]?.getD 0).toNat) 4)))] [] rfl ⟨by kernel_rfl, of_decide_eq_true (by kernel_rfl), by kernel_rfl, by kernel_rfl, by kernel_rfl⟩ ⟨?_, ?_, ?_, ?_, ?_, ?_, ?_, ?_, ?_, ?_, ?_, ?_, ?_, ?_, ?_, ?_, ?_, ?_, ?_, ?_, ?_, trivial⟩ ?_
     ·intro ac done u W Sx hR
      exact X.vl (X.field rfl (Sx.ev 3 (Vp w.heap.size)) (X.fld Try.underlying27 rfl (Try.siz23 _) rfl rfl)) hR.st0
     ·intro ac done u W Sx hR
      have g : Gr w18 W := hR.1
      exact X.vl (X.load rfl (Sx.ev 62 (.pointer (some ⟨w.heap.size, 1, none⟩))) (X.ld1 (Try.agg23 _) ((hC.gr g).at 1 rfl))) hR.st0
     ·intro ac done u W Sx hR
      exact X.vl (X.move rfl (Sx.ev 1 (.slice (some pd16) xs.length c))) hR.st0
     ·intro ac done u W Sx hR
      exact X.vl (X.field rfl (Sx.ev 11 (Vp w10.heap.size)) (X.fld Try.underlying84 rfl (Try.siz3 _) rfl rfl)) hR.st0
     ·intro ac done u W Sx hR
      have g : Gr w18 W := hR.1
      exact X.vl (X.load rfl (Sx.ev 65 (Vp w10.heap.size)) (X.ld1 (Try.agg3 _) ((hC.gr g).at 7 rfl))) hR.st0
     ·intro ac done u W Sx hR
      exact X.val (X.w0 rfl) rfl (X.index rfl (Sx.ev 64 (.slice (some pd16) xs.length c)) (Sx.ev 66 (Vi (p.lv k 0))) (X.idx (k := (p.lv k 0).toNat) Try.underlying34 (Try.siz3 _) (by omega) (by omega) (by rw [Nat.mul_one]))) hR.st0
     ·intro ac done u W Sx hR
      have g : Gr w18 W := hR.1
      exact X.vl (X.load rfl (Sx.ev 67 (.pointer (some (pd16.add ((p.lv k 0).toNat))))) (X.ld1 (Try.agg3 _) ((hC.gr g).at 10 rfl))) hR.st0
     ·intro ac done u W Sx hR
      exact X.vl (X.index rfl (Sx.ev 63 (.slice (some pd20) p.nh hc)) (Sx.ev 68 (Vi (xs[(p.lv k 0).toNat]?.getD 0))) (X.idx (k := (xs[(p.lv k 0).toNat]?.getD 0).toNat) Try.underlying23 (Try.siz53 _) (by omega) (by omega) rfl)) hR.st0
     ·intro ac done u W Sx hR
      exact X.vl (X.field rfl (Sx.ev 69 (.pointer (some (pd20.add (((xs[(p.lv k 0).toNat]?.getD 0).toNat) * 6))))) (X.fld Try.underlying53 rfl (Try.siz3 _) rfl rfl)) hR.st0
     ·intro ac done u W Sx hR
      have g : Gr w18 W := hR.1
      exact X.vl (X.load rfl (Sx.ev 70 (.pointer (some (⟨(pd20.add (((xs[(p.lv k 0).toNat]?.getD 0).toNat) * 6)).block, (pd20.add (((xs[(p.lv k 0).toNat]?.getD 0).toNat) * 6)).off + 4, none⟩)))) (X.ld1 (Try.agg3 _) ((hC.gr g).at 16 rfl))) hR.st0
     ·intro ac done u W Sx hR
      exact X.vl (X.field rfl (Sx.ev 3 (Vp w.heap.size)) (X.fld Try.underlying27 rfl (Try.siz23 _) rfl rfl)) hR.st0
     ·intro ac done u W Sx hR
      have g : Gr w18 W := hR.1
      exact X.vl (X.load rfl (Sx.ev 72 (.pointer (some ⟨w.heap.size, 1, none⟩))) (X.ld1 (Try.agg23 _) ((hC.gr g).at 1 rfl))) hR.st0
     ·intro ac done u W Sx hR
      exact X.vl (X.move rfl (Sx.ev 1 (.slice (some pd16) xs.length c))) hR.st0
     ·intro ac done u W Sx hR
      exact X.vl (X.field rfl (Sx.ev 11 (Vp w10.heap.size)) (X.fld Try.underlying84 rfl (Try.siz3 _) rfl rfl)) hR.st0
     ·intro ac done u W Sx hR
      have g : Gr w18 W := hR.1
      exact X.vl (X.load rfl (Sx.ev 75 (.pointer (some ⟨w10.heap.size, 1, none⟩))) (X.ld1 (Try.agg3 _) ((hC.gr g).at 8 rfl))) hR.st0
     ·intro ac done u W Sx hR
      exact X.val (X.w0 rfl) rfl (X.index rfl (Sx.ev 74 (.slice (some pd16) xs.length c)) (Sx.ev 76 (Vi (p.lv k 1))) (X.idx (k := (p.lv k 1).toNat) Try.underlying34 (Try.siz3 _) (by omega) (by omega) (by rw [Nat.mul_one]))) hR.st0
     ·intro ac done u W Sx hR
      have g : Gr w18 W := hR.1
      exact X.vl (X.load rfl (Sx.ev 77 (.pointer (some (pd16.add ((p.lv k 1).toNat))))) (X.ld1 (Try.agg3 _) ((hC.gr g).at 11 rfl))) hR.st0
     ·intro ac done u W Sx hR
      exact X.vl (X.index rfl (Sx.ev 73 (.slice (some pd20) p.nh hc)) (Sx.ev 78 (Vi (xs[(p.lv k 1).toNat]?.getD 0))) (X.idx (k := (xs[(p.lv k 1).toNat]?.getD 0).toNat) Try.underlying23 (Try.siz53 _) (by omega) (by omega) rfl)) hR.st0
     ·intro ac done u W Sx hR
      exact X.vl (X.field rfl (Sx.ev 79 (.pointer (some (pd20.add (((xs[(p.lv k 1).toNat]?.getD 0).toNat) * 6))))) (X.fld Try.underlying53 rfl (Try.siz3 _) rfl rfl)) hR.st0
     ·intro ac done u W Sx hR
      have g : Gr w18 W := hR.1
      exact X.vl (X.load rfl (Sx.ev 80 (.pointer (some (⟨(pd20.add (((xs[(p.lv k 1).toNat]?.getD 0).toNat) * 6)).block, (pd20.add (((xs[(p.lv k 1).toNat]?.getD 0).toNat) * 6)).off + 4, none⟩)))) (X.ld1 (Try.agg3 _) ((hC.gr g).at 22 rfl))) hR.st0
     ·intro ac done u W Sx hR
      exact X.vl (X.binop rfl (Sx.ev 71 (Vi (p.hv ((xs[(p.lv k 0).toNat]?.getD 0).toNat) 4))) (Sx.ev 81 (Vi (p.hv ((xs[(p.lv k 1).toNat]?.getD 0).toNat) 4))) (X.neqI Try.underlying3 rfl)) hR.st0
     intro ac u w22 hs hd hl ho hR
     have g : Gr w18 w22 := hR.1
     replace F : Fr ac 89 [(1, .slice (some pd16) xs.length c), (3, Vp w.heap.size), (7, Vi (((sumZ (priceL p l) p.nh : Int) + sumZ (talkI p xs) k : Int) + (p.lv k 2))), (11, Vp w10.heap.size), (31, .slice (some pd12) p.nl lc), (32, Vi p.nl), (33, Vi k), (82, .bool ((p.hv ((xs[(p.lv k 0).toNat]?.getD 0).toNat) 4 : Int) != (p.hv ((xs[(p.lv k 1).toNat]?.getD 0).toNat) 4)))] := X.fr hs hd hl _ (by kernel_rfl)
     clear hs hd hl ho hR
     replace G := G.trans g
     replace hC := hC.gr g
     replace hO1 := hO1.thenGr g
     replace hpt := hpt.gr g
     replace hph := hph.gr g
     replace hpb := hpb.gr g
     replace hpl := hpl.gr g
     replace hxs := hxs.gr g
     replace hVw7 := hVw7.gr g
     clear g
     refine X.thenN ?_
     cases h23 : ((p.hv ((xs[(p.lv k 0).toNat]?.getD 0).toNat) 4 : Int) != (p.hv ((xs[(p.lv k 1).toNat]?.getD 0).toNat) 4)) with
     | false =>
      try rw [h23] at F
      have h23p : (p.hv ((xs[(p.lv k 0).toNat]?.getD 0).toNat) 4 : Int) = (p.hv ((xs[(p.lv k 1).toNat]?.getD 0).toNat) 4) := by simpa using h23
      refine Y.cF F 82 ?_
      refine Y.skip ?_
      refine X.blockN (X.thenN ?_)
      refine Y.lg F [(1, .slice (some pd16) xs.length c), (3, Vp w.heap.size), (7, Vi (((sumZ (priceL p l) p.nh : Int) + sumZ (talkI p xs) k : Int) + (p.lv k 2))), (31, .slice (some pd12) p.nl lc), (32, Vi p.nl), (33, Vi ((k : Int) + 1))] (by
       refine Y.pv F (X.binop rfl (F.ev 33 (Vi k)) (X.kc (Vi 1) rfl) (X.addI Try.underlying3 rfl (by omega) (by omega))) fun ac F=>?_
       refine Y.pv F (X.move rfl (F.ev 87 (Vi ((k : Int) + 1)))) fun ac F=>?_
       exact Y.fin F) ?_;clear F ac;intro ac F
      refine ⟨_, ?_, k + 1, rfl, hO1, by omega, (by rw [talk_1 (by omega) (by omega) (by omega), ← Int.add_assoc]; exact F.sub _)⟩
      omega
     | true =>
      try rw [h23] at F
      have h23p : ¬ (p.hv ((xs[(p.lv k 0).toNat]?.getD 0).toNat) 4 : Int) = (p.hv ((xs[(p.lv k 1).toNat]?.getD 0).toNat) 4) := by simpa using h23
      refine Y.cT F 82 ?_
      refine Y.lit (by kernel_rfl) ?_
      refine Y.pv4 F (X.move rfl (F.ev 7 (Vi (((sumZ (priceL p l) p.nh : Int) + sumZ (talkI p xs) k : Int) + (p.lv k 2))))) (fun _ F=>X.field rfl (F.ev 11 (Vp w10.heap.size)) (X.fld Try.underlying84 rfl (Try.siz3 _) rfl rfl)) (fun _ F=>X.load rfl (F.ev 84 (.pointer (some ⟨w10.heap.size, 2, none⟩))) (X.ld1 (Try.agg3 _) (hC.at 9 rfl))) (fun _ F=>X.binop rfl (F.ev 83 (Vi (((sumZ (priceL p l) p.nh : Int) + sumZ (talkI p xs) k : Int) + (p.lv k 2)))) (F.ev 85 (Vi (p.lv k 2))) (X.addI Try.underlying3 rfl (by omega) (by omega))) fun ac F=>Y.pv F (X.assign rfl (F.ev 86 (Vi ((((sumZ (priceL p l) p.nh : Int) + sumZ (talkI p xs) k : Int) + (p.lv k 2) : Int) + (p.lv k 2))))) ?_;clear F ac;intro ac F
      refine Y.nil ?_
      replace F : Fr ac 89 [(1, .slice (some pd16) xs.length c), (3, Vp w.heap.size), (7, Vi ((((sumZ (priceL p l) p.nh : Int) + sumZ (talkI p xs) k : Int) + (p.lv k 2) : Int) + (p.lv k 2))), (31, .slice (some pd12) p.nl lc), (32, Vi p.nl), (33, Vi k)] := F.sub _
      refine X.blockN (X.thenN ?_)
      refine Y.lg F [(1, .slice (some pd16) xs.length c), (3, Vp w.heap.size), (7, Vi ((((sumZ (priceL p l) p.nh : Int) + sumZ (talkI p xs) k : Int) + (p.lv k 2) : Int) + (p.lv k 2))), (31, .slice (some pd12) p.nl lc), (32, Vi p.nl), (33, Vi ((k : Int) + 1))] (by
       refine Y.pv F (X.binop rfl (F.ev 33 (Vi k)) (X.kc (Vi 1) rfl) (X.addI Try.underlying3 rfl (by omega) (by omega))) fun ac F=>?_
       refine Y.pv F (X.move rfl (F.ev 87 (Vi ((k : Int) + 1)))) fun ac F=>?_
       exact Y.fin F) ?_;clear F ac;intro ac F
      refine ⟨_, ?_, k + 1, rfl, hO1, by omega, (by rw [talk_2 (by omega) (by omega) (by omega), ← Int.add_assoc, ← Int.add_assoc]; exact F.sub _)⟩
      omega
    | true =>
     try rw [h19] at F
     have h19p : (xs[(p.lv k 0).toNat]?.getD 0 : Int) = (xs[(p.lv k 1).toNat]?.getD 0) := by simpa using h19
     refine Y.cT F 57 ?_
     refine Y.exit ?_
     refine X.thenX (X.blockX (X.thenN ?_))
     refine Y.lg F [(1, .slice (some pd16) xs.length c), (3, Vp w.heap.size), (7, Vi ((sumZ (priceL p l) p.nh : Int) + sumZ (talkI p xs) k)), (31, .slice (some pd12) p.nl lc), (32, Vi p.nl), (33, Vi ((k : Int) + 1))] (by
      refine Y.pv F (X.binop rfl (F.ev 33 (Vi k)) (X.kc (Vi 1) rfl) (X.addI Try.underlying3 rfl (by omega) (by omega))) fun ac F=>?_
      refine Y.pv F (X.move rfl (F.ev 87 (Vi ((k : Int) + 1)))) fun ac F=>?_
      exact Y.fin F) ?_;clear F ac;intro ac F
     refine ⟨_, ?_, k + 1, rfl, hO1, by omega, (by rw [talk_0 (by omega)]; exact F.sub _)⟩
     omega
   | true =>
    try rw [h15] at F
    have h15p : ((xs.length : Int) ≤ (max (p.lv k 0 : Int) (p.lv k 1 : Int))) := of_decide_eq_true h15
    refine Y.region F [some (Vp w10.heap.size), some (Vi (p.lv k 0)), some (.pointer (some ⟨w10.heap.size, 1, none⟩)), some (Vi (p.lv k 1)), some (Vi (max (p.lv k 0 : Int) (p.lv k 1 : Int))), some (.slice a xs.length c), some (Vi xs.length), some (.bool true), some (.bool true), none, none, none, none, none, none, none, none, none, none, none, some (.bool true)] [] rfl ⟨by kernel_rfl, of_decide_eq_true (by kernel_rfl), by kernel_rfl, by kernel_rfl, by kernel_rfl⟩ ⟨?_, ?_, ?_, ?_, ?_, ?_, ?_, ?_, ?_, ?_, ?_, ?_, ?_, ?_, ?_, ?_, ?_, ?_, ?_, ?_, ?_, trivial⟩ ?_
    ·intro ac done u W Sx hR
     exact X.vl (X.field rfl (Sx.ev 11 (Vp w10.heap.size)) (X.fld Try.underlying84 rfl (Try.siz3 _) rfl rfl)) hR.st0
    ·intro ac done u W Sx hR
     have g : Gr w14 W := hR.1
     exact X.vl (X.load rfl (Sx.ev 37 (Vp w10.heap.size)) (X.ld1 (Try.agg3 _) ((hC.gr g).at 7 rfl))) hR.st0
    ·intro ac done u W Sx hR
     exact X.vl (X.field rfl (Sx.ev 11 (Vp w10.heap.size)) (X.fld Try.underlying84 rfl (Try.siz3 _) rfl rfl)) hR.st0
    ·intro ac done u W Sx hR
     have g : Gr w14 W := hR.1
     exact X.vl (X.load rfl (Sx.ev 39 (.pointer (some ⟨w10.heap.size, 1, none⟩))) (X.ld1 (Try.agg3 _) ((hC.gr g).at 8 rfl))) hR.st0
    ·intro ac done u W Sx hR
     exact X.vl (Y.max2 rfl (Sx.ev 38 (Vi (p.lv k 0))) (Sx.ev 40 (Vi (p.lv k 1)))) hR.st0
    ·intro ac done u W Sx hR
     exact X.vl (X.move rfl (Sx.ev 1 (.slice a xs.length c))) hR.st0
    ·intro ac done u W Sx hR
     exact X.vl (X.len1 Try.underlying34 rfl (Sx.ev 42 (.slice a xs.length c))) hR.st0
    ·intro ac done u W Sx hR
     exact X.vl (X.binop rfl (Sx.ev 41 (Vi (max (p.lv k 0 : Int) (p.lv k 1 : Int)))) (Sx.ev 43 (Vi xs.length)) (X.geqI Try.underlying3 h15)) hR.st0
    ·intro ac done u W Sx hR
     exact X.vl (X.move rfl (Sx.ev 44 (.bool true))) hR.st0
    ·intro ac done u W Sx hR
     exact X.skip (X.w2 rfl (Sx.yl 8 45 true (by kernel_rfl) rfl rfl) rfl) rfl (hR.skip rfl)
    ·intro ac done u W Sx hR
     exact X.skip (X.w2 rfl (Sx.yl 8 45 true (by kernel_rfl) rfl rfl) rfl) rfl (hR.skip rfl)
    ·intro ac done u W Sx hR
     exact X.skip (X.w2 rfl (Sx.yl 8 45 true (by kernel_rfl) rfl rfl) rfl) rfl (hR.skip rfl)
    ·intro ac done u W Sx hR
     exact X.skip (X.w2 rfl (Sx.yl 8 45 true (by kernel_rfl) rfl rfl) rfl) rfl (hR.skip rfl)
    ·intro ac done u W Sx hR
     exact X.skip (X.w2 rfl (Sx.yl 8 45 true (by kernel_rfl) rfl rfl) rfl) rfl (hR.skip rfl)
    ·intro ac done u W Sx hR
     exact X.skip (X.w2 rfl (Sx.yl 8 45 true (by kernel_rfl) rfl rfl) rfl) rfl (hR.skip rfl)
    ·intro ac done u W Sx hR
     exact X.skip (X.w2 rfl (Sx.yl 8 45 true (by kernel_rfl) rfl rfl) rfl) rfl (hR.skip rfl)
    ·intro ac done u W Sx hR
     exact X.skip (X.w2 rfl (Sx.yl 8 45 true (by kernel_rfl) rfl rfl) rfl) rfl (hR.skip rfl)
    ·intro ac done u W Sx hR
     exact X.skip (X.w2 rfl (Sx.yl 8 45 true (by kernel_rfl) rfl rfl) rfl) rfl (hR.skip rfl)
    ·intro ac done u W Sx hR
     exact X.skip (X.w2 rfl (Sx.yl 8 45 true (by kernel_rfl) rfl rfl) rfl) rfl (hR.skip rfl)
    ·intro ac done u W Sx hR
     exact X.skip (X.w2 rfl (Sx.yl 8 45 true (by kernel_rfl) rfl rfl) rfl) rfl (hR.skip rfl)
    ·intro ac done u W Sx hR
     exact X.vl (X.pickT rfl (Sx.ev 45 (.bool true)) (X.kc (.bool true) rfl)) hR.st0
    intro ac u w24 hs hd hl ho hR
    have g : Gr w14 w24 := hR.1
    replace F : Fr ac 89 [(1, .slice a xs.length c), (3, Vp w.heap.size), (7, Vi ((sumZ (priceL p l) p.nh : Int) + sumZ (talkI p xs) k)), (11, Vp w10.heap.size), (31, .slice (some pd12) p.nl lc), (32, Vi p.nl), (33, Vi k), (57, .bool true)] := X.fr hs hd hl _ (by kernel_rfl)
    clear hs hd hl ho hR
    replace G := G.trans g
    replace hC := hC.gr g
    replace hO1 := hO1.thenGr g
    replace hpt := hpt.gr g
    replace hph := hph.gr g
    replace hpb := hpb.gr g
    replace hpl := hpl.gr g
    replace hxs := hxs.gr g
    replace hVw7 := hVw7.gr g
    clear g
    refine X.thenN ?_
    refine Y.cT F 57 ?_
    refine Y.exit ?_
    refine X.thenX (X.blockX (X.thenN ?_))
    refine Y.lg F [(1, .slice a xs.length c), (3, Vp w.heap.size), (7, Vi ((sumZ (priceL p l) p.nh : Int) + sumZ (talkI p xs) k)), (31, .slice (some pd12) p.nl lc), (32, Vi p.nl), (33, Vi ((k : Int) + 1))] (by
     refine Y.pv F (X.binop rfl (F.ev 33 (Vi k)) (X.kc (Vi 1) rfl) (X.addI Try.underlying3 rfl (by omega) (by omega))) fun ac F=>?_
     refine Y.pv F (X.move rfl (F.ev 87 (Vi ((k : Int) + 1)))) fun ac F=>?_
     exact Y.fin F) ?_;clear F ac;intro ac F
    refine ⟨_, ?_, k + 1, rfl, hO1, by omega, (by rw [talk_0 (by omega)]; exact F.sub _)⟩
    omega
 | true =>
  try rw [h9] at F
  have h9p : ((i : Int) < p.nh) := of_decide_eq_true h9
  have hi : i < p.nh := by omega
  have hsb := priceL_bd hp (l := l) hi0
  have hpr := hp.hp i hi
  refine Y.cT F 16 ?_
  refine Y.skip ?_
  refine X.thenN ?_
  refine Y.seq ?_
  refine Y.block ?_
  refine Y.sl ?_
  refine Y.pv F (X.move rfl (F.ev 15 (Vi i))) ?_;clear F ac;intro ac F
  obtain ⟨pd25, pe25, -, pc25⟩ := hph.at (j := i) (by omega)
  subst pe25
  replace hC := hC.append (show RCells w8 (Y.cs (pd25.add (i * 6)) [.string (p.hn i), Vi (p.hv i 1), Vi (p.hv i 2), Vi (p.hv i 3), Vi (p.hv i 4), Vi (p.hv i 5)]) from (RCells.cons (pc25 0 (by decide)) (RCells.cons (pc25 1 (by decide)) (RCells.cons (pc25 2 (by decide)) (RCells.cons (pc25 3 (by decide)) (RCells.cons (pc25 4 (by decide)) (RCells.cons (pc25 5 (by decide)) (RCells.nil _))))))))
  clear pc25
  refine Y.pv4 F (X.index rfl (F.ev 13 (.slice (some pd25) p.nh hc)) (F.ev 15 (Vi i)) (X.idx (k := i) Try.underlying23 (Try.siz53 _) (by omega) (by omega) rfl)) (fun _ F=>X.load rfl (F.ev 18 (.pointer (some (pd25.add (i * 6))))) (X.ldN (Try.agg53 _) (Try.siz53 _) (Y.atz (pd25.add (i * 6)) (Y.AtFrom.cons (hC.at 4 rfl) (Y.AtFrom.cons (hC.at 5 rfl) (Y.AtFrom.cons (hC.at 6 rfl) (Y.AtFrom.cons (hC.at 7 rfl) (Y.AtFrom.cons (hC.at 8 rfl) (Y.AtFrom.cons (hC.at 9 rfl) (Y.AtFrom.nil _ _ _)))))))))) (fun _ F=>Y.al rfl (Try.new53 _)) (fun _ F=>X.assign rfl (F.ev 17 (Vi i))) fun ac F=>Y.punit F (X.w0 rfl) rfl (X.store rfl (F.ev 9 (Vp w8.heap.size)) (F.ev 19 (.agg #[.string (p.hn i), Vi (p.hv i 1), Vi (p.hv i 2), Vi (p.hv i 3), Vi (p.hv i 4), Vi (p.hv i 5)])) (Y.stNew [.string (p.hn i), Vi (p.hv i 1), Vi (p.hv i 2), Vi (p.hv i 3), Vi (p.hv i 4), Vi (p.hv i 5)] [(.string ByteArray.empty), Vi 0, Vi 0, Vi 0, Vi 0, Vi 0] (Try.siz53 _) rfl rfl)) ?_;clear F ac;intro ac F
  have hgs26 : w.heap.size ≤ w8.heap.size := G.size
  obtain ⟨w27, hw_, g, hb, hbl, hC2⟩ := Y.bxd hC #[.string (p.hn i), Vi (p.hv i 1), Vi (p.hv i 2), Vi (p.hv i 3), Vi (p.hv i 4), Vi (p.hv i 5)] 53;rw [hw_];clear hw_
  replace G := G.trans g
  replace hC := hC2
  clear hC2
  replace hO1 := hO1.thenGr g
  replace hpt := hpt.gr g
  replace hph := hph.gr g
  replace hpb := hpb.gr g
  replace hpl := hpl.gr g
  replace hxs := hxs.gr g
  replace hVw7 := hVw7.gr g
  clear g hb hbl
  refine Y.nt F [(1, .slice a xs.length c), (3, Vp w.heap.size), (5, Vp w6.heap.size), (7, Vi (sumZ (priceL p l) i)), (8, Vi i), (9, Vp w8.heap.size), (13, .slice (some pd25) p.nh hc), (14, Vi p.nh), (15, Vi i)] ?_;clear F ac;intro ac F
  refine Y.sl ?_
  refine Y.pv3 F (X.move rfl (F.ev 8 (Vi i))) (fun _ F=>X.index rfl (F.ev 5 (Vp w6.heap.size)) (F.ev 20 (Vi i)) (Y.idxA (k := i) Try.underlying108 (Try.siz106 _) (by decide) (by omega) (by omega) (addr_add0 _ _))) (fun _ F=>X.field rfl (F.ev 21 (.pointer (some ⟨w6.heap.size, i * 3, none⟩))) (X.fld Try.underlying106 rfl (Try.siz3 _) rfl rfl)) ?_;clear F ac;intro ac F
  replace hC := hC.append (show RCells w27 ([(⟨w6.heap.size, i * 3 + 2, none⟩, Vi (l (i * 3 + 2)))]) from (RCells.cons (hVw7.cell (k := i * 3 + 2) (by omega)) (RCells.nil _)))
  refine Y.pv2 F (X.load rfl (F.ev 22 (.pointer (some ⟨w6.heap.size, i * 3 + 2, none⟩))) (X.ld1 (Try.agg3 _) (hC.at 16 rfl))) (fun _ F=>X.binop rfl (F.ev 23 (Vi (l (i * 3 + 2)))) (X.kc (Vi 0) rfl) (X.gtrI Try.underlying3 rfl)) ?_;clear F ac;intro ac F
  refine Y.nt F [(1, .slice a xs.length c), (3, Vp w.heap.size), (5, Vp w6.heap.size), (7, Vi (sumZ (priceL p l) i)), (9, Vp w8.heap.size), (13, .slice (some pd25) p.nh hc), (14, Vi p.nh), (15, Vi i), (24, .bool (decide ((0 : Int) < (l (i * 3 + 2)))))] ?_;clear F ac;intro ac F
  cases h28 : decide ((0 : Int) < (l (i * 3 + 2))) with
  | false =>
   try rw [h28] at F
   have h28p : ¬ ((0 : Int) < (l (i * 3 + 2))) := of_decide_eq_false h28
   refine Y.cF F 24 ?_
   refine Y.skip ?_
   refine X.blockN (X.thenN ?_)
   refine Y.lg F [(1, .slice a xs.length c), (3, Vp w.heap.size), (5, Vp w6.heap.size), (7, Vi (sumZ (priceL p l) i)), (13, .slice (some pd25) p.nh hc), (14, Vi p.nh), (15, Vi ((i : Int) + 1))] (by
    refine Y.pv F (X.binop rfl (F.ev 15 (Vi i)) (X.kc (Vi 1) rfl) (X.addI Try.underlying3 rfl (by omega) (by omega))) fun ac F=>?_
    refine Y.pv F (X.move rfl (F.ev 29 (Vi ((i : Int) + 1)))) fun ac F=>?_
    exact Y.fin F) ?_;clear F ac;intro ac F
   refine ⟨_, ?_, i + 1, rfl, hO1, by omega, (by rw [price_0 (by omega)]; exact F.sub _)⟩
   omega
  | true =>
   try rw [h28] at F
   have h28p : ((0 : Int) < (l (i * 3 + 2))) := of_decide_eq_true h28
   refine Y.cT F 24 ?_
   refine Y.lit (by kernel_rfl) ?_
   refine Y.pv4 F (X.move rfl (F.ev 7 (Vi (sumZ (priceL p l) i)))) (fun _ F=>X.field rfl (F.ev 9 (Vp w8.heap.size)) (X.fld Try.underlying53 rfl (Try.siz3 _) rfl rfl)) (fun _ F=>X.load rfl (F.ev 26 (.pointer (some ⟨w8.heap.size, 5, none⟩))) (X.ld1 (Try.agg3 _) (hC.at 15 rfl))) (fun _ F=>X.binop rfl (F.ev 25 (Vi (sumZ (priceL p l) i))) (F.ev 27 (Vi (p.hv i 5))) (X.addI Try.underlying3 rfl (by omega) (by omega))) fun ac F=>Y.pv F (X.assign rfl (F.ev 28 (Vi ((sumZ (priceL p l) i : Int) + (p.hv i 5))))) ?_;clear F ac;intro ac F
   refine Y.nil ?_
   replace F : Fr ac 89 [(1, .slice a xs.length c), (3, Vp w.heap.size), (5, Vp w6.heap.size), (7, Vi ((sumZ (priceL p l) i : Int) + (p.hv i 5))), (13, .slice (some pd25) p.nh hc), (14, Vi p.nh), (15, Vi i)] := F.sub _
   refine X.blockN (X.thenN ?_)
   refine Y.lg F [(1, .slice a xs.length c), (3, Vp w.heap.size), (5, Vp w6.heap.size), (7, Vi ((sumZ (priceL p l) i : Int) + (p.hv i 5))), (13, .slice (some pd25) p.nh hc), (14, Vi p.nh), (15, Vi ((i : Int) + 1))] (by
    refine Y.pv F (X.binop rfl (F.ev 15 (Vi i)) (X.kc (Vi 1) rfl) (X.addI Try.underlying3 rfl (by omega) (by omega))) fun ac F=>?_
    refine Y.pv F (X.move rfl (F.ev 29 (Vi ((i : Int) + 1)))) fun ac F=>?_
    exact Y.fin F) ?_;clear F ac;intro ac F
   refine ⟨_, ?_, i + 1, rfl, hO1, by omega, (by rw [price_1 (by omega)]; exact F.sub _)⟩
   omega
end Go.Proofs.Ytodedneanlekdaa
