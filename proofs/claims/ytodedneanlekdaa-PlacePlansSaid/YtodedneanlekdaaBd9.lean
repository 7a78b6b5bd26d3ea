/- Several texts of this claim in one file. (1) Contract: the search from a beginning on. (2) Contracts: nodes, and the iterator. (3) A range over the beginnings where the search comes to. (4) Rows that are changed in place: copy, part of a slice, what slices.Insert leaves. Nothing of the program is proved here. -/
import Derived.Test.YtodedneanlekdaaBd2
import Derived.Test.YtodedneanlekdaaBd8
import Derived.Laws.CopyRow
import Derived.Laws.Externs
import Derived.Lib.AppendZerosOnto
import Derived.Lib.Overlaps
namespace Go.Proofs.Ytodedneanlekdaa
set_option linter.unusedSimpArgs false
set_option linter.unusedVariables false
section
open Go.RowKit

theorem BegAt.none {W : World} {B : Nat} {a : Option Addr} {c : Nat} {xs : List Int} (h : BegAt W B a c xs) : a = none → xs.length = 0 ∧ c = 0 := fun e => by
  subst e
  have h0 : xs.length = 0 := by
    rcases Nat.eq_zero_or_pos xs.length with h1 | h1
    · exact h1
    · obtain ⟨_, e, _⟩ := h.i.at h1; cases e
  exact ⟨h0, (h.nil h0).2⟩
theorem OnlyG {w W W' : World} {v : Value} (g : Gr w W) (hon : Only (fun b => v.ownBlock = some b) W W') (h : ∀ b, v.ownBlock = some b → w.heap.size ≤ b) : Gr w W' :=
  ((g.only (fun b => v.ownBlock = some b)).trans hon).gr (fun i hi e => by have := h i e; omega)
def VisC {σ : Type} (p : Pb) (bp by_ bv : Nat) (Yb : Nat → Prop) (w0 : World) (st : σ → List Int → σ × Bool × Bool) (J : σ → (Nat → Prop) → (Nat → Prop) → World → Prop) (Z : World → Prop) (m : Nat) : Prop :=
  ∀ (xs : List Int) (a : Option Addr) (c : Nat) (s : σ) (O Kp : Nat → Prop) (w : World), xs.length + m = p.nt → HosOk p xs → BegAt w w0.heap.size a c xs → (∀ ad, a = some ad → ¬ O ad.block) → (∀ b, O b → Yb b ∨ w0.heap.size ≤ b) → Only Yb w0 w → J s O Kp w →
    Calls Try.prog 103 #[.slice a xs.length c, .agg (ldA (ldV p xs xs.length)).toArray, Vp bp, Vp by_, Vp bv] w fun e w' =>
      (e = .returned (.bool true) ∧ ∃ s' O' Kp', visF p.nh (hopeB p (tim p)) st m xs s = (s', true) ∧ J s' O' Kp' w' ∧ Only O w w' ∧ (∀ b, O' b → O b ∨ w.heap.size ≤ b)) ∨ (e = .returned (.bool false) ∧ (visF p.nh (hopeB p (tim p)) st m xs s).2 = false ∧ Z w')
def VisY {σ : Type} (p : Pb) (lp : Nat) (Yb : Nat → Prop) (w0 : World) (st : σ → List Int → σ × Bool × Bool) (J : σ → (Nat → Prop) → (Nat → Prop) → World → Prop) (Z : World → Prop) : Prop :=
  ∀ (s : σ) (O Kp : Nat → Prop) (xs : List Int) (d : Nat) (a : Option Addr) (c : Nat) (W : World), J s O Kp W → (∀ b, O b → Yb b ∨ w0.heap.size ≤ b) → Only Yb w0 W → xs.length ≤ p.nt → HosOk p xs → BegAt W w0.heap.size a c xs → w0.heap.size ≤ d → (∀ ad, a = some ad → ad.block ≠ d) → ¬ O d → ¬ Kp d → (∀ ad, a = some ad → ¬ O ad.block) → OwnP W d 1 (fun _ => .bool true) →
    YieldAt Fence.wide 0 Try.prog lp #[ndV p a c d xs] W fun e W' => ∃ b, e = .returned (.bool b) ∧ ((b = true ∧ (st s xs).2.2 = true ∧ ∃ O' Kp', J (st s xs).1 O' Kp' W' ∧ OwnP W' d 1 (fun _ => .bool (st s xs).2.1) ∧ Only (fun x => O x ∨ x = d) W W' ∧ (∀ b, O' b → O b ∨ W.heap.size ≤ b)) ∨ (b = false ∧ (st s xs).2.2 = false ∧ Z W'))
set_option maxRecDepth 100000 in
set_option maxHeartbeats 4000000 in
theorem visit_step {σ : Type} (p : Pb) (ta ha ba la : Option Addr) (tc hc bc lc bp by_ bv lp : Nat) (Yb : Nat → Prop) (w0 : World) (st : σ → List Int → σ × Bool × Bool) (J : σ → (Nat → Prop) → (Nat → Prop) → World → Prop) (Z : World → Prop) (m : Nat)
  (hp : PbOk p) (hYb : ∀ b, Yb b → b < w0.heap.size) (hE : ∀ W, Only Yb w0 W → VisE W p ta ha ba la tc hc bc lc bp by_ bv lp) (hJl : ∀ s O Kp W, J s O Kp W → ∀ b, O b ∨ Kp b → b < W.heap.size) (hJg : ∀ s O Kp W W', J s O Kp W → Gr W W' → J s O Kp W') (hYd : VisY p lp Yb w0 st J Z)
  (ih : ∀ k, m = k + 1 → VisC p bp by_ bv Yb w0 st J Z k)
  (xs : List Int) (a : Option Addr) (c : Nat) (s : σ) (O Kp : Nat → Prop) (w : World) (hm : xs.length + m = p.nt) (hx : HosOk p xs) (hB : BegAt w w0.heap.size a c xs) (hOa : ∀ ad, a = some ad → ¬ O ad.block) (hOs : ∀ b, O b → Yb b ∨ w0.heap.size ≤ b) (hO : Only Yb w0 w) (hJ : J s O Kp w) :
  Calls Try.prog 103 #[.slice a xs.length c, .agg (ldA (ldV p xs xs.length)).toArray, Vp bp, Vp by_, Vp bv] w fun e w' => (e = .returned (.bool true) ∧ ∃ s' O' Kp', visF p.nh (hopeB p (tim p)) st m xs s = (s', true) ∧ J s' O' Kp' w' ∧ Only O w w' ∧ (∀ b, O' b → O b ∨ w.heap.size ≤ b)) ∨ (e = .returned (.bool false) ∧ (visF p.nh (hopeB p (tim p)) st m xs s).2 = false ∧ Z w') := by
 have G := Gr.refl w
 have h10 := hp.t10
 have h6 := hp.h6
 have hs0 := hO.size
 have hOw := Only.refl O w
 have hE2 := hE w hO
 have hP := hE2.P
 have hC := hE2.c
 clear hE2
 have hpt := hP.t
 have hph := hP.h
 have hpb := hP.b
 have hpl := hP.l
 have hplen := hP.len
 obtain ⟨hn1, hn2, hn3, hn4⟩ := hplen
 have hcp1 := hpt.cap
 have hcp2 := hph.cap
 have hcp3 := hpb.cap
 have hcp4 := hpl.cap
 have hxs := hB.i
 have hlt := hxs.lt
 have hq1 : bp < w.heap.size := lt_cell (hC.at 0 rfl)
 have hq2 : by_ < w.heap.size := lt_cell (hC.at 4 rfl)
 have hq3 : bv < w.heap.size := lt_cell (hC.at 5 rfl)
 refine Y.calls 63 Try.func103 rfl rfl ?_
 intro ac F0
 have F : Fr ac 63 [(0, .slice a xs.length c), (1, .agg (ldA (ldV p xs xs.length)).toArray), (2, Vp bp), (3, Vp by_), (4, Vp bv)] := F0.sub _
 clear F0
 refine Y.seq ?_
 refine Y.lit (by kernel_rfl) ?_
 refine Y.pv F (X.box rfl (F.ev 1 (.agg (ldA (ldV p xs xs.length)).toArray)) X.bx) ?_;clear F ac;intro ac F
 have g := Gr.alloc w (.cells (ldA (ldV p xs xs.length)).toArray 108)
 have hb := heap_alloc_new w (.cells (ldA (ldV p xs xs.length)).toArray 108)
 have hszw3 : w.heap.size < (w.alloc (.cells (ldA (ldV p xs xs.length)).toArray 108)).heap.size := by simp
 have hgsw3 : w.heap.size ≤ w.heap.size := G.size
 generalize w.alloc (.cells (ldA (ldV p xs xs.length)).toArray 108) = w3 at *
 replace G := G.trans g
 replace hC := hC.gr g
 replace hO := hO.thenGr g
 replace hOw := hOw.thenGr g
 replace hpt := hpt.gr g
 replace hph := hph.gr g
 replace hpb := hpb.gr g
 replace hpl := hpl.gr g
 replace hxs := hxs.gr g
 have hVw3 : OwnP w3 w.heap.size 18 (LV (ldV p xs xs.length)) := ld_own hb
 clear g hb
 refine Y.pv F (X.assign rfl (X.kc (.bool false) rfl)) ?_;clear F ac;intro ac F
 refine Y.nil ?_
 replace F : Fr ac 63 [(0, .slice a xs.length c), (2, Vp bp), (3, Vp by_), (4, Vp bv), (6, Vp w.heap.size)] := F.sub _
 refine X.thenN ?_
 refine Y.seq ?_
 refine Y.lit (by kernel_rfl) ?_
 refine Y.pv F (Y.al rfl (Try.new4 _)) ?_;clear F ac;intro ac F
 have g := Gr.alloc w3 (.cells #[.bool false] 4)
 have hb := heap_alloc_new w3 (.cells #[.bool false] 4)
 have hszw4 : w3.heap.size < (w3.alloc (.cells #[.bool false] 4)).heap.size := by simp
 have hgsw4 : w.heap.size ≤ w3.heap.size := G.size
 generalize w3.alloc (.cells #[.bool false] 4) = w4 at *
 replace G := G.trans g
 replace hC := hC.gr g
 replace hO := hO.thenGr g
 replace hOw := hOw.thenGr g
 replace hpt := hpt.gr g
 replace hph := hph.gr g
 replace hpb := hpb.gr g
 replace hpl := hpl.gr g
 replace hxs := hxs.gr g
 replace hVw3 := hVw3.gr g
 have hVw4 : OwnP w4 w3.heap.size 1 (VL [.bool false]) := ownP_bx (vs := [.bool false]) hb
 clear g hb
 refine Y.punit F (X.w0 rfl) rfl (X.store rfl (F.ev 8 (Vp w3.heap.size)) (X.kc (.bool true) rfl) (hVw4.st1 (Try.siz4 _) rfl rfl (by omega))) ?_;clear F ac;intro ac F
 have hon := Y.set_only w4 w3.heap.size 0 (.bool true)
 have hV2 := hVw4.set (k := 0) (.bool true)
 replace hV2 := hV2.congr (val' := fun _ => .bool true) (fun k hk => if_pos (by omega))
 generalize w4.setCell ⟨w3.heap.size, 0, none⟩ (.bool true) = w5 at *
 replace hVw4 : OwnP w5 w3.heap.size 1 (fun _ => .bool true) := hV2
 clear hV2
 replace G := Y.Only.up G hon (by omega)
 replace hpt := (hP.t).gr G
 replace hph := (hP.h).gr G
 replace hpb := (hP.b).gr G
 replace hpl := (hP.l).gr G
 replace hxs := (hB.i).gr G
 replace hVw3 := hVw3.only hon (by show ¬ _ = _; omega)
 replace hO := hO.step hon (.inr (by omega))
 replace hOw := hOw.step hon (.inr (by omega))
 replace hC := (hC.kc hon 0 rfl (hC.kc hon 1 rfl (hC.kc hon 2 rfl (hC.kc hon 3 rfl (hC.kc hon 4 rfl (hC.kc hon 5 rfl (RCells.nil _)))))))
 clear hon
 refine Y.nil ?_
 replace F : Fr ac 63 [(0, .slice a xs.length c), (2, Vp bp), (3, Vp by_), (4, Vp bv), (6, Vp w.heap.size), (8, Vp w3.heap.size)] := F.sub _
 refine X.thenN ?_
 refine Y.seq ?_
 have hd5 := hVw4.lt
 refine region_xi F [some (.slice a xs.length c), some (.agg #[.slice ta p.nt tc, .slice ha p.nh hc, .slice ba p.nb bc, .slice la p.nl lc]), some (.slice a xs.length c), some (.agg (ldA (ldV p xs xs.length)).toArray), some (.bool (hopeB p (tim p) xs)), some (.agg #[.slice ta p.nt tc, .slice ha p.nh hc, .slice ba p.nb bc, .slice la p.nl lc]), some (.slice a xs.length c), some (.agg (ldA (ldV p xs xs.length)).toArray), some (Vi (bndV p xs)), some (.agg #[.slice a xs.length c, .bool (hopeB p (tim p) xs), Vi (bndV p xs), Vp w3.heap.size]), none, none] (RN w5 10 11 4 (VL [.slice none 0 0, .bool false, Vi 0, .pointer none]) (VL [.slice a xs.length c, .bool (hopeB p (tim p) xs), Vi (bndV p xs), Vp w3.heap.size])) rfl ⟨by kernel_rfl, of_decide_eq_true (by kernel_rfl), by kernel_rfl, by kernel_rfl, by kernel_rfl⟩ (fun _ => ⟨RN.start (Gr.refl _), RN.start (Gr.drew _)⟩) ⟨?_, ?_, ?_, ?_, ?_, ?_, ?_, ?_, ?_, ?_, ?_, ?_, trivial⟩ ?_
 ·intro ac done u W Sx hR
  have g : Gr w5 W := hR.g
  exact X.vl (X.move rfl (Sx.ev 0 (.slice a xs.length c))) (hR.quiet (Gr.refl _) (by decide))
 ·intro ac done u W Sx hR
  have g : Gr w5 W := hR.g
  exact X.vl (X.load rfl (Sx.ev 2 (Vp bp)) (X.ldN (Try.agg27 _) (Try.siz27 _) (Y.atz (⟨bp, 0, none⟩) (Y.AtFrom.cons ((hC.gr g).at 0 rfl) (Y.AtFrom.cons ((hC.gr g).at 1 rfl) (Y.AtFrom.cons ((hC.gr g).at 2 rfl) (Y.AtFrom.cons ((hC.gr g).at 3 rfl) (Y.AtFrom.nil _ _ _)))))))) (hR.quiet (Gr.refl _) (by decide))
 ·intro ac done u W Sx hR
  have g : Gr w5 W := hR.g
  exact X.vl (X.move rfl (Sx.ev 0 (.slice a xs.length c))) (hR.quiet (Gr.refl _) (by decide))
 ·intro ac done u W Sx hR
  have g : Gr w5 W := hR.g
  exact X.vl (X.load rfl (Sx.ev 6 (Vp w.heap.size)) (ld_load (hVw3.gr g) (Try.agg108 _) (Try.siz108 _))) (hR.quiet (Gr.refl _) (by decide))
 ·intro ac done u W Sx hR
  have g : Gr w5 W := hR.g
  refine X.call (X.w0 rfl) (X.enter (F := 72) rfl (X.kc (.func (.func 72) #[] #[]) rfl) (X.a3 (Sx.ev 12 (.agg #[.slice ta p.nt tc, .slice ha p.nh hc, .slice ba p.nb bc, .slice la p.nl lc])) (Sx.ev 13 (.slice a xs.length c)) (Sx.ev 14 (.agg (ldA (ldV p xs xs.length)).toArray))) (enters_of Try.func72 (by kernel_rfl) rfl _)) (by have hq := hop_any p ta ha ba la tc hc bc lc a c xs (ldV p xs xs.length) W (hP.gr (G.trans g)) (hB.i.gr (G.trans g)) hp hx (by omega); rw [hope_ld hx] at hq; exact hq) ?_
  rintro e W2 ⟨rfl, g2⟩
  exact ⟨_, rfl, X.kn rfl, hR.quiet g2 (by decide)⟩
 ·intro ac done u W Sx hR
  have g : Gr w5 W := hR.g
  exact X.vl (X.load rfl (Sx.ev 2 (Vp bp)) (X.ldN (Try.agg27 _) (Try.siz27 _) (Y.atz (⟨bp, 0, none⟩) (Y.AtFrom.cons ((hC.gr g).at 0 rfl) (Y.AtFrom.cons ((hC.gr g).at 1 rfl) (Y.AtFrom.cons ((hC.gr g).at 2 rfl) (Y.AtFrom.cons ((hC.gr g).at 3 rfl) (Y.AtFrom.nil _ _ _)))))))) (hR.quiet (Gr.refl _) (by decide))
 ·intro ac done u W Sx hR
  have g : Gr w5 W := hR.g
  exact X.vl (X.move rfl (Sx.ev 0 (.slice a xs.length c))) (hR.quiet (Gr.refl _) (by decide))
 ·intro ac done u W Sx hR
  have g : Gr w5 W := hR.g
  exact X.vl (X.load rfl (Sx.ev 6 (Vp w.heap.size)) (ld_load (hVw3.gr g) (Try.agg108 _) (Try.siz108 _))) (hR.quiet (Gr.refl _) (by decide))
 ·intro ac done u W Sx hR
  have g : Gr w5 W := hR.g
  refine X.call (X.w0 rfl) (X.enter (F := 76) rfl (X.kc (.func (.func 76) #[] #[]) rfl) (X.a3 (Sx.ev 16 (.agg #[.slice ta p.nt tc, .slice ha p.nh hc, .slice ba p.nb bc, .slice la p.nl lc])) (Sx.ev 17 (.slice a xs.length c)) (Sx.ev 18 (.agg (ldA (ldV p xs xs.length)).toArray))) (enters_of Try.func76 (by kernel_rfl) rfl _)) (by have hq := bnd_any p ta ha ba la tc hc bc lc a c xs (ldV p xs xs.length) W (hP.gr (G.trans g)) (hB.i.gr (G.trans g)) hp hx (by omega); rw [bnd_ld hx] at hq; exact hq) ?_
  rintro e W2 ⟨rfl, g2⟩
  exact ⟨_, rfl, X.kn rfl, hR.quiet g2 (by decide)⟩
 ·intro ac done u W Sx hR
  have g : Gr w5 W := hR.g
  exact X.vl (Y.bd rfl (X.b4 (Sx.ev 11 (.slice a xs.length c)) (Sx.ev 15 (.bool (hopeB p (tim p) xs))) (Sx.ev 19 (Vi (bndV p xs))) (Sx.ev 8 (Vp w3.heap.size))) (Try.bd102 _ _ _ _ _ _ _)) (hR.quiet (Gr.refl _) (by decide))
 ·intro ac done u W Sx hR
  have g : Gr w5 W := hR.g
  exact X.valN (X.w0 rfl) rfl (Y.al rfl (Try.new102 _)) (hR.sa (by decide) (Sx.no 11 (by kernel_rfl)) (Gr.alloc _ _) g.size (ownP_bx (vs := [.slice none 0 0, .bool false, Vi 0, .pointer none]) (World.alloc_heap_new _ _)))
 ·intro ac done u W Sx hR
  have g : Gr w5 W := hR.g
  obtain ⟨q, e10, hq, hq2⟩ := hR.ga (Sx.an 10 (by kernel_rfl)) Sx.nd
  obtain ⟨W2, hrun, hV2, hon⟩ := ownP_store (P := Try.prog) (vs := [.slice a xs.length c, .bool (hopeB p (tim p) xs), Vi (bndV p xs), Vp w3.heap.size]) (t := 102) hq2 rfl (fun W => Try.siz102 W) rfl
  exact X.unit (X.w0 rfl) rfl (X.store rfl ((Sx.own 10 9 rfl).trans e10) (Sx.ev 20 (.agg #[.slice a xs.length c, .bool (hopeB p (tim p) xs), Vi (bndV p xs), Vp w3.heap.size])) hrun) (hR.sb (by decide) e10 (Y.Only.up g hon hq) hq hV2)
 rintro ac u w6 hs hd hl_ ho hR
 obtain ⟨q9, e10, hq9, hN⟩ := hR.gb rfl
 have g : Gr w5 w6 := hR.g
 replace F : Fr ac 63 [(0, .slice a xs.length c), (2, Vp bp), (3, Vp by_), (4, Vp bv), (6, Vp w.heap.size), (8, Vp w3.heap.size)] := X.fr hs hd hl_ _ (by kernel_rfl)
 replace F := F.add (ho 10 9 rfl) e10
 clear hs hd hl_ ho hR e10
 replace F : Fr ac 63 [(0, .slice a xs.length c), (2, Vp bp), (3, Vp by_), (4, Vp bv), (6, Vp w.heap.size), (8, Vp w3.heap.size), (9, Vp q9)] := F.sub _
 replace G := G.trans g
 replace hC := hC.gr g
 replace hO := hO.thenGr g
 replace hOw := hOw.thenGr g
 replace hpt := hpt.gr g
 replace hph := hph.gr g
 replace hpb := hpb.gr g
 replace hpl := hpl.gr g
 replace hxs := hxs.gr g
 replace hVw3 := hVw3.gr g
 replace hVw4 := hVw4.gr g
 clear g
 refine X.thenN ?_
 refine Y.seq ?_
 refine Y.seq ?_
 refine Y.litcutk 2 _ rfl (by kernel_rfl) ?_
 simp only [List.take_succ_cons, List.take_zero, List.drop_succ_cons, List.drop_zero]
 refine Y.pv F (X.load rfl (F.ev 3 (Vp by_)) (X.ld1 (Try.agg128 _) (hC.at 4 rfl))) ?_;clear F ac;intro ac F
 refine Y.pv F (X.load rfl (F.ev 9 (Vp q9)) (ownP_load hN (Try.agg102 _) (Try.siz102 _) rfl)) ?_;clear F ac;intro ac F
 refine Y.nil ?_
 refine X.thenN ?_
 have hgB := G.size
 have hd0 := hVw4.lt
 have hBg := hB.gr G
 have hBn : ∀ ad, a = some ad → ad.block < w.heap.size := fun ad e => (hB.ge ad e).2
 have hOl := fun b e => hJl _ _ _ _ hJ b (.inl e)
 have hKl := fun b e => hJl _ _ _ _ hJ b (.inr e)
 have hy := hYd s O Kp xs w3.heap.size a c w6 (hJg _ _ _ _ _ hJ G) hOs hO (by omega) hx hBg (by omega) (fun ad e => by have := hBn ad e; omega) (fun e => by have := hOl _ e; omega) (fun e => by have := hKl _ e; omega) hOa hVw4
 refine Y.cutyield2 F (X.w0 rfl) rfl (by kernel_rfl) rfl (F.ev 21 (.func (.yield lp) #[] #[])) (F.ev 22 (.agg #[.slice a xs.length c, .bool (hopeB p (tim p) xs), Vi (bndV p xs), Vp w3.heap.size])) hy ?_
 rintro yb w7 (⟨rfl, hgo, O2, Kp2, hJ2, hD2, hOY, hO2⟩ | ⟨rfl, hng, hZ⟩)
 ·clear F ac
  intro ac F
  have hsz := hOY.size
  have h6l := hVw3.lt
  have h9l := hN.lt
  replace hO := hO.step2 hOY (fun r e => e.elim (fun e => hOs r e) (fun e => .inr (by omega)))
  replace hOw := hOw.step2 hOY (fun r e => e.elim .inl (fun e => .inr (by omega)))
  replace hVw3 := hVw3.only hOY (by rintro (e | e); (have := hOl _ e; omega); omega)
  replace hN := hN.only hOY (by rintro (e | e); (have := hOl _ e; omega); omega)
  replace hB := hBg.only hOY (fun ad e => by have h1 := hBn ad e; have h2 := (hB.ge ad e).1; rintro (e2 | e2); exact hOa ad e e2; omega)
  have hOJ := hJ
  replace hJ := hJ2
  have hw9 := hgB
  clear hJ2 hy hBg hgB
  clear hVw4
  have hVw4 := hD2
  clear hD2
  have hE2 := hE w7 hO
  clear G hC
  replace hP := hE2.P
  replace hpt := hP.t
  replace hph := hP.h
  replace hpb := hP.b
  replace hpl := hP.l
  replace hxs := hB.i
  have hC := hE2.c
  have G := Gr.refl w7
  clear hE2
  refine Y.pv F (X.notB rfl (F.ev 23 (.bool true)) rfl) ?_;clear F ac;intro ac F
  refine Y.nil ?_
  replace F : Fr ac 63 [(0, .slice a xs.length c), (2, Vp bp), (4, Vp bv), (6, Vp w.heap.size), (8, Vp w3.heap.size), (9, Vp q9), (24, .bool false)] := F.sub _
  refine X.thenN ?_
  refine Y.condF (F.ev 24 (.bool false)) ?_
  refine Y.skip ?_
  refine X.thenN ?_
  refine Y.seq ?_
  refine Y.seq ?_
  refine Y.lit (by kernel_rfl) ?_
  refine Y.pv F (X.field rfl (F.ev 9 (Vp q9)) (X.fld Try.underlying102 rfl (Try.siz4 _) rfl rfl)) ?_;clear F ac;intro ac F
  replace hC : RCells w7 [(Ad bp 0, .slice ta p.nt tc), (Ad bp 1, .slice ha p.nh hc), (Ad bp 2, .slice ba p.nb bc), (Ad bp 3, .slice la p.nl lc), (Ad by_ 0, .func (.yield lp) #[] #[]), (Ad bv 0, .func (.func 103) #[] #[Vp bp, Vp by_, Vp bv]), (Ad q9 0, .slice a xs.length c), (Ad q9 1, .bool (hopeB p (tim p) xs)), (Ad q9 2, Vi (bndV p xs)), (Ad q9 3, Vp w3.heap.size)] := hC.append ((RCells.cons (hN.cell (k := 0) (by decide)) (RCells.cons (hN.cell (k := 1) (by decide)) (RCells.cons (hN.cell (k := 2) (by decide)) (RCells.cons (hN.cell (k := 3) (by decide)) (RCells.nil _))))))
  refine Y.pv F (X.load rfl (F.ev 25 (.pointer (some ⟨q9, 1, none⟩))) (X.ld1 (Try.agg4 _) (hC.at 7 rfl))) ?_;clear F ac;intro ac F
  refine Y.pv F (X.move rfl (F.ev 26 (.bool (hopeB p (tim p) xs)))) ?_;clear F ac;intro ac F
  cases h8 : hopeB p (tim p) xs with
  | false =>
   try rw [h8] at F
   replace hC : RCells w7 [(Ad bp 0, .slice ta p.nt tc), (Ad bp 1, .slice ha p.nh hc), (Ad bp 2, .slice ba p.nb bc), (Ad bp 3, .slice la p.nl lc), (Ad by_ 0, .func (.yield lp) #[] #[]), (Ad bv 0, .func (.func 103) #[] #[Vp bp, Vp by_, Vp bv]), (Ad q9 0, .slice a xs.length c), (Ad q9 1, .bool (hopeB p (tim p) xs)), (Ad q9 2, Vi (bndV p xs)), (Ad q9 3, Vp w3.heap.size), (Ad w3.heap.size 0, .bool ((st s xs).2.1))] := hC.append ((RCells.cons (hVw4.cell (k := 0) (by omega)) (RCells.nil _)))
   refine Y.pval F (X.w1 rfl (F.yl (j := 2) (d := 27) (b := false) rfl (by kernel_rfl))) rfl (X.load rfl (F.ev 8 (Vp w3.heap.size)) (X.ld1 (Try.agg4 _) (hC.at 10 rfl))) ?_;clear F ac;intro ac F
   refine Y.pval F (X.w1 rfl (F.yl (j := 2) (d := 27) (b := false) rfl (by kernel_rfl))) rfl (X.notB rfl (F.ev 28 (.bool ((st s xs).2.1))) rfl) ?_;clear F ac;intro ac F
   refine Y.pv F (X.pickF rfl (F.ev 27 (.bool false)) (F.ev 29 (.bool (!((st s xs).2.1))))) ?_;clear F ac;intro ac F
   refine Y.pv F (X.move rfl (F.ev 30 (.bool (!((st s xs).2.1))))) ?_;clear F ac;intro ac F
   cases h9 : (st s xs).2.1 with
   | false =>
    try rw [h9] at F
    refine Y.pskip F (X.w2 rfl (F.yl (j := 6) (d := 31) (b := true) rfl (by kernel_rfl)) rfl) rfl ?_;clear F ac;intro ac F
    refine Y.pskip F (X.w2 rfl (F.yl (j := 6) (d := 31) (b := true) rfl (by kernel_rfl)) rfl) rfl ?_;clear F ac;intro ac F
    refine Y.pskip F (X.w2 rfl (F.yl (j := 6) (d := 31) (b := true) rfl (by kernel_rfl)) rfl) rfl ?_;clear F ac;intro ac F
    refine Y.pskip F (X.w2 rfl (F.yl (j := 6) (d := 31) (b := true) rfl (by kernel_rfl)) rfl) rfl ?_;clear F ac;intro ac F
    refine Y.pskip F (X.w2 rfl (F.yl (j := 6) (d := 31) (b := true) rfl (by kernel_rfl)) rfl) rfl ?_;clear F ac;intro ac F
    refine Y.pskip F (X.w2 rfl (F.yl (j := 6) (d := 31) (b := true) rfl (by kernel_rfl)) rfl) rfl ?_;clear F ac;intro ac F
    refine Y.pv F (X.pickT rfl (F.ev 31 (.bool true)) (X.kc (.bool true) rfl)) ?_;clear F ac;intro ac F
    refine Y.nil ?_
    replace F : Fr ac 63 [(0, .slice a xs.length c), (2, Vp bp), (4, Vp bv), (6, Vp w.heap.size), (38, .bool true)] := F.sub _
    refine X.thenN ?_
    refine Y.condT (F.ev 38 (.bool true)) ?_
    refine Y.seq ?_
    refine Y.lit (by kernel_rfl) ?_
    refine Y.pv F (X.assign rfl (X.kc (.bool true) rfl)) ?_;clear F ac;intro ac F
    refine Y.nil ?_
    replace F : Fr ac 63 [(7, .bool true)] := F.sub _
    refine X.thenN ?_
    refine Y.ret ?_
    refine X.thenR ?_
    exact Y.ret0 (v := .bool true) F (Y.rs1 F rfl (by kernel_rfl)) (.inl ⟨rfl, _, O2, _, (vis_leaf hgo (.inr (.inl h9))), hJg _ _ _ _ _ hJ G, hOw, fun b e => (hO2 b e).imp id (fun e => by omega)⟩)
   | true =>
    try rw [h9] at F
    refine Y.pval F (X.w1 rfl (F.yl (j := 6) (d := 31) (b := false) rfl (by kernel_rfl))) rfl (X.move rfl (F.ev 0 (.slice a xs.length c))) ?_;clear F ac;intro ac F
    refine Y.pval F (X.w1 rfl (F.yl (j := 6) (d := 31) (b := false) rfl (by kernel_rfl))) rfl (X.len1 Try.underlying34 rfl (F.ev 32 (.slice a xs.length c))) ?_;clear F ac;intro ac F
    refine Y.pval F (X.w1 rfl (F.yl (j := 6) (d := 31) (b := false) rfl (by kernel_rfl))) rfl (X.field rfl (F.ev 2 (Vp bp)) (X.fld Try.underlying27 rfl (Try.siz22 _) rfl rfl)) ?_;clear F ac;intro ac F
    refine Y.pval F (X.w1 rfl (F.yl (j := 6) (d := 31) (b := false) rfl (by kernel_rfl))) rfl (X.load rfl (F.ev 34 (Vp bp)) (X.ld1 (Try.agg22 _) (hC.at 0 rfl))) ?_;clear F ac;intro ac F
    refine Y.pval F (X.w1 rfl (F.yl (j := 6) (d := 31) (b := false) rfl (by kernel_rfl))) rfl (X.len1 Try.underlying22 rfl (F.ev 35 (.slice ta p.nt tc))) ?_;clear F ac;intro ac F
    refine Y.pval F (X.w1 rfl (F.yl (j := 6) (d := 31) (b := false) rfl (by kernel_rfl))) rfl (X.binop rfl (F.ev 33 (Vi xs.length)) (F.ev 36 (Vi p.nt)) (X.eqlI Try.underlying3 rfl)) ?_;clear F ac;intro ac F
    refine Y.pv F (X.pickF rfl (F.ev 31 (.bool false)) (F.ev 37 (.bool ((xs.length : Int) == p.nt)))) ?_;clear F ac;intro ac F
    refine Y.nil ?_
    replace F : Fr ac 63 [(0, .slice a xs.length c), (2, Vp bp), (4, Vp bv), (6, Vp w.heap.size), (38, .bool ((xs.length : Int) == p.nt))] := F.sub _
    refine X.thenN ?_
    cases h10 : ((xs.length : Int) == p.nt) with
    | false =>
     try rw [h10] at F
     have h10p : ¬ (xs.length : Int) = p.nt := by simpa using h10
     obtain ⟨k, rfl⟩ : ∃ k, m = k + 1 := ⟨m - 1, by omega⟩
     have hin := vis_in (nh := p.nh) (m := k) (s := s) hgo h8 h9
     refine Y.condF (F.ev 38 (.bool false)) ?_
     refine Y.skip ?_
     refine X.thenN ?_
     refine Y.seq ?_
     refine Y.seq ?_
     refine Y.lit (by kernel_rfl) ?_
     refine Y.pv F (X.field rfl (F.ev 2 (Vp bp)) (X.fld Try.underlying27 rfl (Try.siz23 _) rfl rfl)) ?_;clear F ac;intro ac F
     refine Y.pv F (X.load rfl (F.ev 39 (.pointer (some ⟨bp, 1, none⟩))) (X.ld1 (Try.agg23 _) (hC.at 1 rfl))) ?_;clear F ac;intro ac F
     refine Y.pv F (X.len1 Try.underlying23 rfl (F.ev 40 (.slice ha p.nh hc))) ?_;clear F ac;intro ac F
     refine Y.pv F (X.move rfl (X.kc (Vi 0) rfl)) ?_;clear F ac;intro ac F
     refine Y.nil ?_
     replace F : Fr ac 63 [(0, .slice a xs.length c), (2, Vp bp), (4, Vp bv), (6, Vp w.heap.size), (41, Vi p.nh), (42, Vi 0)] := F.sub _
     refine X.thenN ?_
     refine Y.block ?_
     refine Y.loop (fun me_ ac wr => ∃ (i : Nat) (s1 : σ) (O1 Kp1 : Nat → Prop), me_ = p.nh - i ∧ i ≤ p.nh ∧ Only (fun b => O b ∨ w6.heap.size ≤ b) w7 wr ∧ visN (fun h s => visF p.nh (hopeB p (tim p)) st k (xs ++ [(h : Int)]) s) i (st s xs).1 = (s1, true) ∧ J s1 O1 Kp1 wr ∧ (∀ b, O1 b → O b ∨ w6.heap.size ≤ b) ∧ Fr ac 63 [(0, .slice a xs.length c), (2, Vp bp), (4, Vp bv), (6, Vp w.heap.size), (41, Vi p.nh), (42, Vi i)]) _ ⟨0, _, _, _, rfl, Nat.zero_le _, Only.refl _ _, rfl, hJg _ _ _ _ _ hJ G, hO2, F.sub _⟩ ?_
     have h6l := hVw3.lt
     replace hB := hB.gr G
     clear F ac
     intro me_ ac w11 hI
     obtain ⟨i, s1, O1, Kp1, rfl, hi, hOL, hv, hJ1, hO1, F⟩ := hI
     replace hO := hO.step2 hOL (fun r e => e.elim (fun e => hOs r e) (fun e => .inr (by omega)))
     replace hOw := hOw.step2 hOL (fun r e => e.elim .inl (fun e => .inr (by omega)))
     replace hVw3 := hVw3.only hOL (by rintro (e | e); (have := hOl _ e; omega); omega)
     replace hB := hB.only hOL (fun ad e => by have h1 := hBn ad e; rintro (e2 | e2); exact hOa ad e e2; omega)
     replace hJ := hJ1
     clear hJ1
     have hE2 := hE w11 hO
     clear G hC
     replace hP := hE2.P
     replace hpt := hP.t
     replace hph := hP.h
     replace hpb := hP.b
     replace hpl := hP.l
     replace hxs := hB.i
     have hC := hE2.c
     have G := Gr.refl w11
     clear hE2
     refine Y.seq ?_
     refine Y.lit (by kernel_rfl) ?_
     refine Y.pv F (X.binop rfl (F.ev 42 (Vi i)) (F.ev 41 (Vi p.nh)) (X.lssI Try.underlying3 rfl)) ?_;clear F ac;intro ac F
     refine Y.nil ?_
     replace F : Fr ac 63 [(0, .slice a xs.length c), (2, Vp bp), (4, Vp bv), (6, Vp w.heap.size), (41, Vi p.nh), (42, Vi i), (43, .bool (decide ((i : Int) < p.nh)))] := F.sub _
     refine X.thenN ?_
     refine Y.seq ?_
     cases h12 : decide ((i : Int) < p.nh) with
     | false =>
      try rw [h12] at F
      have h12p : ¬ ((i : Int) < p.nh) := of_decide_eq_false h12
      obtain rfl : i = p.nh := by omega
      refine Y.condF (F.ev 43 (.bool false)) ?_
      refine Y.exit ?_
      refine X.thenX ?_
      refine X.thenX ?_
      refine X.blockX ?_
      refine X.thenN ?_
      refine Y.seq ?_
      refine Y.lit (by kernel_rfl) ?_
      refine Y.pv F (X.assign rfl (X.kc (.bool true) rfl)) ?_;clear F ac;intro ac F
      refine Y.nil ?_
      replace F : Fr ac 63 [(7, .bool true)] := F.sub _
      refine X.thenN ?_
      refine Y.ret ?_
      exact Y.ret0 (v := .bool true) F (Y.rs1 F rfl (by kernel_rfl)) (.inl ⟨rfl, s1, O1, _, (by rw [hin]; exact hv), hJg _ _ _ _ _ hJ G, hOw, fun b e => (hO1 b e).imp id (fun e => by omega)⟩)
     | true =>
      try rw [h12] at F
      have h12p : ((i : Int) < p.nh) := of_decide_eq_true h12
      have hi2 : i < p.nh := by omega
      refine Y.condT (F.ev 43 (.bool true)) ?_
      refine Y.skip ?_
      refine X.thenN ?_
      refine Y.seq ?_
      refine Y.block ?_
      refine Y.seq ?_
      refine Y.lit (by kernel_rfl) ?_
      refine Y.pv F (X.move rfl (F.ev 42 (Vi i))) ?_;clear F ac;intro ac F
      refine Y.pv F (X.assign rfl (F.ev 44 (Vi i))) ?_;clear F ac;intro ac F
      refine Y.nil ?_
      replace F : Fr ac 63 [(0, .slice a xs.length c), (2, Vp bp), (4, Vp bv), (6, Vp w.heap.size), (10, Vi i), (41, Vi p.nh), (42, Vi i)] := F.sub _
      refine X.thenN ?_
      refine Y.seq ?_
      have htm := hp.tm xs.length (by omega)
      have htt := hp.tt xs.length (by omega)
      have h6 := hp.h6
      have h10 := hp.t10
      obtain ⟨pd13, pe13, -, pc13⟩ := hpt.at (j := xs.length) (by omega)
      subst pe13
      replace hC : RCells w11 [(Ad bp 0, .slice (some pd13) p.nt tc), (Ad bp 1, .slice ha p.nh hc), (Ad bp 2, .slice ba p.nb bc), (Ad bp 3, .slice la p.nl lc), (Ad by_ 0, .func (.yield lp) #[] #[]), (Ad bv 0, .func (.func 103) #[] #[Vp bp, Vp by_, Vp bv]), (pd13.add (xs.length * 4), .string (p.tn xs.length)), (⟨(pd13.add (xs.length * 4)).block, (pd13.add (xs.length * 4)).off + 1, none⟩, Vi (p.tv xs.length 1)), (⟨(pd13.add (xs.length * 4)).block, (pd13.add (xs.length * 4)).off + 2, none⟩, Vi (p.tv xs.length 2)), (⟨(pd13.add (xs.length * 4)).block, (pd13.add (xs.length * 4)).off + 3, none⟩, Vi (p.tv xs.length 3))] := hC.append ((RCells.cons (pc13 0 (by decide)) (RCells.cons (pc13 1 (by decide)) (RCells.cons (pc13 2 (by decide)) (RCells.cons (pc13 3 (by decide)) (RCells.nil _))))))
      clear pc13
      obtain ⟨Ta, hTa⟩ : ∃ T : Value → World → Prop, T = fun v W => OwnR W w11.heap.size 3 1 v xs.length (xs.map (Value.int .i64)) := ⟨_, rfl⟩
      obtain ⟨Tb, hTb⟩ : ∃ T : Value → World → Prop, T = fun v W => ∃ g9, v = .slice (some ⟨g9, 0, none⟩) 1 1 ∧ W.heap[g9]? = some (.cells #[Vi (i : Int)] 3) := ⟨_, rfl⟩
      obtain ⟨Tc, hTc⟩ : ∃ T : Value → World → Prop, T = fun v W => ∃ g5 c5, v = .slice (some ⟨g5, 0, none⟩) (xs ++ [(i : Int)]).length c5 ∧ BegAt W w0.heap.size (some ⟨g5, 0, none⟩) c5 (xs ++ [(i : Int)]) ∧ w11.heap.size ≤ g5 := ⟨_, rfl⟩
      obtain ⟨Td, hTd⟩ : ∃ T : Value → World → Prop, T = fun v W => (v = .bool true ∧ ∃ s2 O3 Kp3, visF p.nh (hopeB p (tim p)) st k (xs ++ [(i : Int)]) s1 = (s2, true) ∧ J s2 O3 Kp3 W ∧ Only O1 w11 W ∧ (∀ b, O3 b → O1 b ∨ w11.heap.size ≤ b)) ∨ (v = .bool false ∧ (visF p.nh (hopeB p (tim p)) st k (xs ++ [(i : Int)]) s1).2 = false ∧ Z W) := ⟨_, rfl⟩
      have uTa : UpV Ta := by subst hTa; exact fun v W W2 h g => OwnR.gr h g
      have uTb : UpV Tb := by subst hTb; exact fun v W W2 ⟨g9, e, h⟩ g => ⟨g9, e, (g.below.block _ (Array.getElem?_eq_some_iff.1 h).1).trans h⟩
      have uTc : UpV Tc := by subst hTc; exact fun v W W2 ⟨g5, c5, e, h, h2⟩ g => ⟨g5, c5, e, h.gr g, h2⟩
      have hs9 := hO.size
      refine region_xi F [some (.func (.func 103) #[] #[Vp bp, Vp by_, Vp bv]), some (.slice a xs.length c), none, some (Vi i), none, none, some (.agg (ldA (ldV p xs xs.length)).toArray), some (Vp bp), some (.slice (some pd13) p.nt tc), some (.slice a xs.length c), some (Vi xs.length), some (.pointer (some (pd13.add (xs.length * 4)))), some (.agg #[.string (p.tn xs.length), Vi (p.tv xs.length 1), Vi (p.tv xs.length 2), Vi (p.tv xs.length 3)]), some (Vi i), some (.agg (ldA (withV (ldV p xs xs.length) (p.tv xs.length 1) (p.tv xs.length 2) (i : Int).toNat)).toArray), none, none] (RV w11 2 4 5 15 16 Ta Tb Tc Td) rfl ⟨by kernel_rfl, of_decide_eq_true (by kernel_rfl), by kernel_rfl, by kernel_rfl, by kernel_rfl⟩ (fun _ => ⟨RV.start (Gr.refl _), RV.start (Gr.drew _)⟩) ⟨?_, ?_, ?_, ?_, ?_, ?_, ?_, ?_, ?_, ?_, ?_, ?_, ?_, ?_, ?_, ?_, ?_, trivial⟩ ?_
      ·intro ac done u W Sx hR
       have g : Gr w11 W := hR.g (Sx.no 15 (by kernel_rfl))
       exact X.vl (X.load rfl (Sx.ev 4 (Vp bv)) (X.ld1 (Try.agg129 _) ((hC.gr g).at 5 rfl))) (hR.quiet uTa uTb uTc (Sx.no 15 (by kernel_rfl)) (Sx.no 16 (by kernel_rfl)) (Gr.refl _) (by decide))
      ·intro ac done u W Sx hR
       have g : Gr w11 W := hR.g (Sx.no 15 (by kernel_rfl))
       exact X.vl (X.move rfl (Sx.ev 0 (.slice a xs.length c))) (hR.quiet uTa uTb uTc (Sx.no 15 (by kernel_rfl)) (Sx.no 16 (by kernel_rfl)) (Gr.refl _) (by decide))
      ·intro ac done u W Sx hR
       have g : Gr w11 W := hR.g (Sx.no 15 (by kernel_rfl))
       refine X.call (X.w0 rfl) (X.enter (F := 86) rfl (X.kc (.func (.func 86) #[] #[]) rfl) (X.a1 (Sx.ev 46 (.slice a xs.length c))) (enters_of Try.func86 (by kernel_rfl) rfl _)) (clone_any a xs.length c xs W (hB.i.gr g) (by omega) hB.none) ?_
       rintro e W2 ⟨v, rfl, hv2, g2⟩
       exact ⟨_, rfl, X.un rfl, hR.sa (by decide) uTb (Sx.no 5 (by kernel_rfl)) (Sx.no 15 (by kernel_rfl)) (Sx.no 16 (by kernel_rfl)) g2 (by subst hTa; exact hv2.lower g.size)⟩
      ·intro ac done u W Sx hR
       have g : Gr w11 W := hR.g (Sx.no 15 (by kernel_rfl))
       exact X.vl (X.move rfl (Sx.ev 10 (Vi i))) (hR.quiet uTa uTb uTc (Sx.no 15 (by kernel_rfl)) (Sx.no 16 (by kernel_rfl)) (Gr.refl _) (by decide))
      ·intro ac done u W Sx hR
       have g : Gr w11 W := hR.g (Sx.no 15 (by kernel_rfl))
       exact X.valN (X.w0 rfl) rfl (X.bs rfl (X.b1 (Sx.ev 48 (Vi i))) (Try.bs34_1 _ _)) (hR.sb (by decide) uTa (Sx.no 5 (by kernel_rfl)) (Sx.no 15 (by kernel_rfl)) (Sx.no 16 (by kernel_rfl)) (Gr.alloc _ _) (by subst hTb; exact ⟨W.heap.size, rfl, heap_alloc_new _ _⟩))
      ·intro ac done u W Sx hR
       have g : Gr w11 W := hR.g (Sx.no 15 (by kernel_rfl))
       have hA := hR.ga (Sx.an 2 (by kernel_rfl)) Sx.nd (Sx.no 15 (by kernel_rfl))
       have hBb := hR.gb (Sx.an 4 (by kernel_rfl)) Sx.nd (Sx.no 15 (by kernel_rfl))
       rw [hTa] at hA
       rw [hTb] at hBb
       obtain ⟨g9, e4, hg9⟩ := hBb
       refine X.law (X.w0 rfl) (fun K_ hK => wp_pushV Try.underlying34 Try.info3 rfl (by decide) rfl ((Sx.own 2 47 rfl)) ((Sx.own 4 49 rfl).trans e4) hA (m := 1) (news := [Vi (i : Int)]) rfl (cells_at (vs := [Vi (i : Int)]) hg9) rfl (by omega) (by decide) g.size (fun v2 W2 hO2 hon hat => hK v2 W2 (fun x hx => by cases hx) (RV.sc (by decide) (Sx.no 15 (by kernel_rfl)) (Sx.no 16 (by kernel_rfl)) (OnlyG g hon (fun b e => (hA.ge e).1)) ?_)))
       obtain ⟨g5, c5, e5, hb5⟩ := OwnR.beg (xs := xs ++ [(i : Int)]) (by rw [List.map_append, List.length_append]; exact hO2) (by simp; omega) (by simp)
       subst hTc
       exact ⟨g5, c5, e5, ⟨hb5.i, fun ad e => ⟨Nat.le_trans hs9 (hb5.ge ad e).1, (hb5.ge ad e).2⟩, hb5.nil, hb5.le⟩, (hb5.ge _ rfl).1⟩
      ·intro ac done u W Sx hR
       have g : Gr w11 W := hR.g (Sx.no 15 (by kernel_rfl))
       exact X.vl (X.load rfl (Sx.ev 6 (Vp w.heap.size)) (ld_load (hVw3.gr g) (Try.agg108 _) (Try.siz108 _))) (hR.quiet uTa uTb uTc (Sx.no 15 (by kernel_rfl)) (Sx.no 16 (by kernel_rfl)) (Gr.refl _) (by decide))
      ·intro ac done u W Sx hR
       have g : Gr w11 W := hR.g (Sx.no 15 (by kernel_rfl))
       exact X.vl (X.field rfl (Sx.ev 2 (Vp bp)) (X.fld Try.underlying27 rfl (Try.siz22 _) rfl rfl)) (hR.quiet uTa uTb uTc (Sx.no 15 (by kernel_rfl)) (Sx.no 16 (by kernel_rfl)) (Gr.refl _) (by decide))
      ·intro ac done u W Sx hR
       have g : Gr w11 W := hR.g (Sx.no 15 (by kernel_rfl))
       exact X.vl (X.load rfl (Sx.ev 52 (Vp bp)) (X.ld1 (Try.agg22 _) ((hC.gr g).at 0 rfl))) (hR.quiet uTa uTb uTc (Sx.no 15 (by kernel_rfl)) (Sx.no 16 (by kernel_rfl)) (Gr.refl _) (by decide))
      ·intro ac done u W Sx hR
       have g : Gr w11 W := hR.g (Sx.no 15 (by kernel_rfl))
       exact X.vl (X.move rfl (Sx.ev 0 (.slice a xs.length c))) (hR.quiet uTa uTb uTc (Sx.no 15 (by kernel_rfl)) (Sx.no 16 (by kernel_rfl)) (Gr.refl _) (by decide))
      ·intro ac done u W Sx hR
       have g : Gr w11 W := hR.g (Sx.no 15 (by kernel_rfl))
       exact X.vl (X.len1 Try.underlying34 rfl (Sx.ev 54 (.slice a xs.length c))) (hR.quiet uTa uTb uTc (Sx.no 15 (by kernel_rfl)) (Sx.no 16 (by kernel_rfl)) (Gr.refl _) (by decide))
      ·intro ac done u W Sx hR
       have g : Gr w11 W := hR.g (Sx.no 15 (by kernel_rfl))
       exact X.vl (X.index rfl (Sx.ev 53 (.slice (some pd13) p.nt tc)) (Sx.ev 55 (Vi xs.length)) (X.idx (k := xs.length) Try.underlying22 (Try.siz74 _) (by omega) (by omega) rfl)) (hR.quiet uTa uTb uTc (Sx.no 15 (by kernel_rfl)) (Sx.no 16 (by kernel_rfl)) (Gr.refl _) (by decide))
      ·intro ac done u W Sx hR
       have g : Gr w11 W := hR.g (Sx.no 15 (by kernel_rfl))
       exact X.vl (X.load rfl (Sx.ev 56 (.pointer (some (pd13.add (xs.length * 4))))) (X.ldN (Try.agg74 _) (Try.siz74 _) (Y.atz (pd13.add (xs.length * 4)) (Y.AtFrom.cons ((hC.gr g).at 6 rfl) (Y.AtFrom.cons ((hC.gr g).at 7 rfl) (Y.AtFrom.cons ((hC.gr g).at 8 rfl) (Y.AtFrom.cons ((hC.gr g).at 9 rfl) (Y.AtFrom.nil _ _ _)))))))) (hR.quiet uTa uTb uTc (Sx.no 15 (by kernel_rfl)) (Sx.no 16 (by kernel_rfl)) (Gr.refl _) (by decide))
      ·intro ac done u W Sx hR
       have g : Gr w11 W := hR.g (Sx.no 15 (by kernel_rfl))
       exact X.vl (X.move rfl (Sx.ev 10 (Vi i))) (hR.quiet uTa uTb uTc (Sx.no 15 (by kernel_rfl)) (Sx.no 16 (by kernel_rfl)) (Gr.refl _) (by decide))
      ·intro ac done u W Sx hR
       have g : Gr w11 W := hR.g (Sx.no 15 (by kernel_rfl))
       refine X.call (X.w0 rfl) (X.enter (F := 104) rfl (X.kc (.func (.func 104) #[] #[]) rfl) (X.a3 (Sx.ev 51 (.agg (ldA (ldV p xs xs.length)).toArray)) (Sx.ev 57 (.agg #[.string (p.tn xs.length), Vi (p.tv xs.length 1), Vi (p.tv xs.length 2), Vi (p.tv xs.length 3)])) (Sx.ev 58 (Vi i))) (enters_of Try.func104 (by kernel_rfl) rfl _)) (with_any (ldV p xs xs.length) (p.tn xs.length) (p.tv xs.length 1) (p.tv xs.length 2) (p.tv xs.length 3) i W (100000 * xs.length) (by omega) (ldV_ok hp hx xs.length (by omega) (by omega)) (by omega) (by omega)) ?_
       rintro e W2 ⟨rfl, g2⟩
       exact ⟨_, rfl, X.kn rfl, hR.quiet uTa uTb uTc (Sx.no 15 (by kernel_rfl)) (Sx.no 16 (by kernel_rfl)) g2 (by decide)⟩
      ·intro ac done u W Sx hR
       have g : Gr w11 W := hR.g Sx.nd
       have hcc := hR.gc (Sx.an 5 (by kernel_rfl)) Sx.nd
       rw [hTc] at hcc
       obtain ⟨g5, c5, e5, hb5, hg5⟩ := hcc
       have hq := ih k rfl (xs ++ [(i : Int)]) (some ⟨g5, 0, none⟩) c5 s1 O1 Kp1 W (by simp; omega) (hx.app hi2) hb5 (fun ad e h => by injection e with e; subst e; have h9 : g5 < _ := hJl _ _ _ _ hJ _ (.inl h); omega) (fun b e => (hO1 b e).elim (fun e => hOs b e) (fun e => .inr (by omega))) (hO.thenGr g) (hJg _ _ _ _ _ hJ g)
       rw [ldV_snoc] at hq
       refine X.call (X.w0 rfl) (X.enter (F := 103) rfl (Sx.ev 45 (.func (.func 103) #[] #[Vp bp, Vp by_, Vp bv])) (X.a2 ((Sx.own 5 50 rfl).trans e5) (Sx.ev 59 (.agg (ldA (withV (ldV p xs xs.length) (p.tv xs.length 1) (p.tv xs.length 2) (i : Int).toNat)).toArray))) (enters_of Try.func103 (by kernel_rfl) rfl _)) hq ?_
       intro e W2 hT
       obtain ⟨b, rfl, hT2⟩ : ∃ b, e = .returned (.bool b) ∧ Td (.bool b) W2 := by
        subst hTd
        rcases hT with ⟨rfl, s2, O3, Kp3, h1, h2, h3, h4⟩ | ⟨rfl, h1, h2⟩
        ·exact ⟨_, rfl, .inl ⟨rfl, s2, O3, Kp3, h1, h2, (g.only O1).trans h3, fun b e => (h4 b e).imp id (fun e => Nat.le_trans g.size e)⟩⟩
        ·exact ⟨_, rfl, .inr ⟨rfl, h1, h2⟩⟩
       exact ⟨_, rfl, X.un rfl, RV.sd (by decide) (Sx.no 16 (by kernel_rfl)) hT2⟩
      ·intro ac done u W Sx hR
       have h15 := Sx.an 15 (by kernel_rfl)
       have hdd := hR.gd h15
       obtain ⟨b, e15⟩ : ∃ b, u 15 = .bool b := by
        rw [hTd] at hdd
        rcases hdd with ⟨e, _⟩ | ⟨e, _⟩ <;> exact ⟨_, e⟩
       exact X.valN (X.w0 rfl) rfl (X.notB (x := .tmp 60) (b := b) rfl ((Sx.own 15 60 rfl).trans e15) rfl) (RV.se (by decide) h15 e15 hdd)
      rintro ac u w14 hs hd hl_ ho hR
      obtain ⟨b15, e15, e16⟩ := hR.ge rfl
      have hdd := hR.gd rfl
      rw [hTd, e15] at hdd
      clear hTa hTb hTc hTd uTa uTb uTc
      replace F : Fr ac 63 [(0, .slice a xs.length c), (2, Vp bp), (4, Vp bv), (6, Vp w.heap.size), (41, Vi p.nh), (42, Vi i)] := X.fr hs hd hl_ _ (by kernel_rfl)
      replace F := F.add (ho 16 61 rfl) e16
      clear hs hd hl_ ho hR e15 e16
      rcases hdd with ⟨e, s2, O3, Kp3, hv2, hJ2, hOR, hO3⟩ | ⟨e, hng, hZ⟩
      ·injection e with e
       subst e
       replace F : Fr ac 63 [(0, .slice a xs.length c), (2, Vp bp), (4, Vp bv), (6, Vp w.heap.size), (41, Vi p.nh), (42, Vi i), (61, .bool false)] := F.sub _
       have hzL := hOL.size
       replace hOw := hOw.step2 hOR (fun r e => (hO1 r e).elim .inl (fun e => .inr (by omega)))
       replace hOL := hOL.step2 hOR (fun r e => .inl (hO1 r e))
       replace hO3 := fun b (e : O3 b) => (hO3 b e).elim (fun e => hO1 b e) (fun e => Or.inr (by omega))
       replace hJ := hJ2
       clear hJ2 hOR
       clear G hC
       have G := Gr.refl w14
       refine X.thenN ?_
       refine Y.condF (F.ev 61 (.bool false)) ?_
       refine Y.skip ?_
       refine X.blockN ?_
       refine X.thenN ?_
       refine Y.lit (by kernel_rfl) ?_
       refine Y.pv F (X.binop rfl (F.ev 42 (Vi i)) (X.kc (Vi 1) rfl) (X.addI Try.underlying3 rfl (by omega) (by omega))) ?_;clear F ac;intro ac F
       refine Y.pv F (X.move rfl (F.ev 62 (Vi ((i : Int) + 1)))) ?_;clear F ac;intro ac F
       refine Y.nil ?_
       replace F : Fr ac 63 [(0, .slice a xs.length c), (2, Vp bp), (4, Vp bv), (6, Vp w.heap.size), (41, Vi p.nh), (42, Vi ((i : Int) + 1))] := F.sub _
       refine X.thenN ?_
       refine ⟨_, ?_, i + 1, s2, O3, Kp3, rfl, by omega, hOL, (visN_next hv).trans hv2, hJg _ _ _ _ _ hJ G, hO3, F.sub _⟩
       omega
      ·injection e with e
       subst e
       replace F : Fr ac 63 [(0, .slice a xs.length c), (2, Vp bp), (4, Vp bv), (6, Vp w.heap.size), (41, Vi p.nh), (42, Vi i), (61, .bool true)] := F.sub _
       refine X.thenN ?_
       refine Y.condT (F.ev 61 (.bool true)) ?_
       refine Y.seq ?_
       refine Y.lit (by kernel_rfl) ?_
       refine Y.pv F (X.assign rfl (X.kc (.bool false) rfl)) ?_;clear F ac;intro ac F
       refine Y.nil ?_
       replace F : Fr ac 63 [(7, .bool false)] := F.sub _
       refine X.thenN ?_
       refine Y.ret ?_
       refine X.blockR ?_
       refine X.thenR ?_
       refine X.thenR ?_
       refine X.blockR ?_
       refine X.thenR ?_
       exact Y.ret0 (v := .bool false) F (Y.rs1 F rfl (by kernel_rfl)) (.inr ⟨rfl, (by rw [hin]; exact visN_false (k := i + 1) (by rw [visN_next hv]; exact hng) (by omega)), hZ⟩)
    | true =>
     try rw [h10] at F
     have h10p : (xs.length : Int) = p.nt := by simpa using h10
     refine Y.condT (F.ev 38 (.bool true)) ?_
     refine Y.seq ?_
     refine Y.lit (by kernel_rfl) ?_
     refine Y.pv F (X.assign rfl (X.kc (.bool true) rfl)) ?_;clear F ac;intro ac F
     refine Y.nil ?_
     replace F : Fr ac 63 [(7, .bool true)] := F.sub _
     refine X.thenN ?_
     refine Y.ret ?_
     refine X.thenR ?_
     exact Y.ret0 (v := .bool true) F (Y.rs1 F rfl (by kernel_rfl)) (.inl ⟨rfl, _, O2, _, (vis_leaf hgo (.inr (.inr (by omega)))), hJg _ _ _ _ _ hJ G, hOw, fun b e => (hO2 b e).imp id (fun e => by omega)⟩)
  | true =>
   try rw [h8] at F
   refine Y.pskip F (X.w2 rfl (F.yl (j := 2) (d := 27) (b := true) rfl (by kernel_rfl)) rfl) rfl ?_;clear F ac;intro ac F
   refine Y.pskip F (X.w2 rfl (F.yl (j := 2) (d := 27) (b := true) rfl (by kernel_rfl)) rfl) rfl ?_;clear F ac;intro ac F
   refine Y.pv F (X.pickT rfl (F.ev 27 (.bool true)) (X.kc (.bool true) rfl)) ?_;clear F ac;intro ac F
   refine Y.pv F (X.move rfl (F.ev 30 (.bool true))) ?_;clear F ac;intro ac F
   refine Y.pskip F (X.w2 rfl (F.yl (j := 6) (d := 31) (b := true) rfl (by kernel_rfl)) rfl) rfl ?_;clear F ac;intro ac F
   refine Y.pskip F (X.w2 rfl (F.yl (j := 6) (d := 31) (b := true) rfl (by kernel_rfl)) rfl) rfl ?_;clear F ac;intro ac F
   refine Y.pskip F (X.w2 rfl (F.yl (j := 6) (d := 31) (b := true) rfl (by kernel_rfl)) rfl) rfl ?_;clear F ac;intro ac F
   refine Y.pskip F (X.w2 rfl (F.yl (j := 6) (d := 31) (b := true) rfl (by kernel_rfl)) rfl) rfl ?_;clear F ac;intro ac F
   refine Y.pskip F (X.w2 rfl (F.yl (j := 6) (d := 31) (b := true) rfl (by kernel_rfl)) rfl) rfl ?_;clear F ac;intro ac F
   refine Y.pskip F (X.w2 rfl (F.yl (j := 6) (d := 31) (b := true) rfl (by kernel_rfl)) rfl) rfl ?_;clear F ac;intro ac F
   refine Y.pv F (X.pickT rfl (F.ev 31 (.bool true)) (X.kc (.bool true) rfl)) ?_;clear F ac;intro ac F
   refine Y.nil ?_
   replace F : Fr ac 63 [(0, .slice a xs.length c), (2, Vp bp), (4, Vp bv), (6, Vp w.heap.size), (38, .bool true)] := F.sub _
   refine X.thenN ?_
   refine Y.condT (F.ev 38 (.bool true)) ?_
   refine Y.seq ?_
   refine Y.lit (by kernel_rfl) ?_
   refine Y.pv F (X.assign rfl (X.kc (.bool true) rfl)) ?_;clear F ac;intro ac F
   refine Y.nil ?_
   replace F : Fr ac 63 [(7, .bool true)] := F.sub _
   refine X.thenN ?_
   refine Y.ret ?_
   refine X.thenR ?_
   exact Y.ret0 (v := .bool true) F (Y.rs1 F rfl (by kernel_rfl)) (.inl ⟨rfl, _, O2, _, (vis_leaf hgo (.inl h8)), hJg _ _ _ _ _ hJ G, hOw, fun b e => (hO2 b e).imp id (fun e => by omega)⟩)
 ·clear F ac
  intro ac F
  refine Y.pv F (X.notB rfl (F.ev 23 (.bool false)) rfl) ?_;clear F ac;intro ac F
  refine Y.nil ?_
  replace F : Fr ac 63 [(0, .slice a xs.length c), (2, Vp bp), (4, Vp bv), (6, Vp w.heap.size), (8, Vp w3.heap.size), (9, Vp q9), (24, .bool true)] := F.sub _
  refine X.thenN ?_
  refine Y.condT (F.ev 24 (.bool true)) ?_
  refine Y.seq ?_
  refine Y.lit (by kernel_rfl) ?_
  refine Y.pv F (X.assign rfl (X.kc (.bool false) rfl)) ?_;clear F ac;intro ac F
  refine Y.nil ?_
  replace F : Fr ac 63 [(7, .bool false)] := F.sub _
  refine X.thenN ?_
  refine Y.ret ?_
  refine X.thenR ?_
  exact Y.ret0 (v := .bool false) F (Y.rs1 F rfl (by kernel_rfl)) (.inr ⟨rfl, vis_stop hng, hZ⟩)
theorem visit_any {σ : Type} (p : Pb) (ta ha ba la : Option Addr) (tc hc bc lc bp by_ bv lp : Nat) (Yb : Nat → Prop) (w0 : World) (st : σ → List Int → σ × Bool × Bool) (J : σ → (Nat → Prop) → (Nat → Prop) → World → Prop) (Z : World → Prop)
  (hp : PbOk p) (hYb : ∀ b, Yb b → b < w0.heap.size) (hE : ∀ W, Only Yb w0 W → VisE W p ta ha ba la tc hc bc lc bp by_ bv lp) (hJl : ∀ s O Kp W, J s O Kp W → ∀ b, O b ∨ Kp b → b < W.heap.size) (hJg : ∀ s O Kp W W', J s O Kp W → Gr W W' → J s O Kp W') (hYd : VisY p lp Yb w0 st J Z) : ∀ m, VisC p bp by_ bv Yb w0 st J Z m := by
 intro m
 induction m with
 | zero => exact fun xs a c s O Kp w h1 h2 h3 h4 h5 h6 h7 => visit_step p ta ha ba la tc hc bc lc bp by_ bv lp Yb w0 st J Z 0 hp hYb hE hJl hJg hYd (fun k e => by cases e) xs a c s O Kp w h1 h2 h3 h4 h5 h6 h7
 | succ m ih => exact fun xs a c s O Kp w h1 h2 h3 h4 h5 h6 h7 => visit_step p ta ha ba la tc hc bc lc bp by_ bv lp Yb w0 st J Z (m + 1) hp hYb hE hJl hJg hYd (fun k e => by cases e; exact ih) xs a c s O Kp w h1 h2 h3 h4 h5 h6 h7
end
section
open Go.RowKit

theorem BegAt.lower {W : World} {B B' : Nat} {a : Option Addr} {c : Nat} {xs : List Int} (h : BegAt W B a c xs) (hB : B' ≤ B) : BegAt W B' a c xs :=
  ⟨h.i, fun ad e => ⟨Nat.le_trans hB (h.ge ad e).1, (h.ge ad e).2⟩, h.nil, h.le⟩
def PbC (p : Pb) (ta ha ba la : Option Addr) (tc hc bc lc bp : Nat) : List (Addr × Value) := [(⟨bp, 0, none⟩, .slice ta p.nt tc), (⟨bp, 1, none⟩, .slice ha p.nh hc), (⟨bp, 2, none⟩, .slice ba p.nb bc), (⟨bp, 3, none⟩, .slice la p.nl lc)]
set_option maxRecDepth 100000 in
set_option maxHeartbeats 400000 in
theorem nodes_any (p : Pb) (ta ha ba la : Option Addr) (tc hc bc lc : Nat) (w : World) :
  Calls Try.prog 69 #[.agg #[.slice ta p.nt tc, .slice ha p.nh hc, .slice ba p.nb bc, .slice la p.nl lc]] w fun e w' => ∃ bp, e = .returned (.func (.func 102) #[] #[Vp bp]) ∧ w.heap.size ≤ bp ∧ RCells w' (PbC p ta ha ba la tc hc bc lc bp) ∧ Gr w w' := by
 have G := Gr.refl w
 refine Y.calls 4 Try.func69 rfl rfl ?_
 intro ac F0
 have F : Fr ac 4 [(0, .agg #[.slice ta p.nt tc, .slice ha p.nh hc, .slice ba p.nb bc, .slice la p.nl lc])] := F0.sub _
 clear F0
 refine Y.seq ?_
 refine Y.lit (by kernel_rfl) ?_
 have hgs3 : w.heap.size ≤ w.heap.size := G.size
 refine Y.pv F (X.box rfl (F.ev 0 (.agg #[.slice ta p.nt tc, .slice ha p.nh hc, .slice ba p.nb bc, .slice la p.nl lc])) X.bx) ?_;clear F ac;intro ac F
 have hgs5 : w.heap.size ≤ w.heap.size := G.size
 have g := Gr.alloc w (.cells #[.slice ta p.nt tc, .slice ha p.nh hc, .slice ba p.nb bc, .slice la p.nl lc] 27)
 have hb := heap_alloc_new w (.cells #[.slice ta p.nt tc, .slice ha p.nh hc, .slice ba p.nb bc, .slice la p.nl lc] 27)
 have hbl : w.heap.size < (w.alloc (.cells #[.slice ta p.nt tc, .slice ha p.nh hc, .slice ba p.nb bc, .slice la p.nl lc] 27)).heap.size := by simp
 have hC2 : RCells (w.alloc (.cells #[.slice ta p.nt tc, .slice ha p.nh hc, .slice ba p.nb bc, .slice la p.nl lc] 27)) [(Ad w.heap.size 0, .slice ta p.nt tc), (Ad w.heap.size 1, .slice ha p.nh hc), (Ad w.heap.size 2, .slice ba p.nb bc), (Ad w.heap.size 3, .slice la p.nl lc)] := (RCells.nil w).box (b := w.heap.size) #[.slice ta p.nt tc, .slice ha p.nh hc, .slice ba p.nb bc, .slice la p.nl lc] 27 rfl
 generalize w.alloc (.cells #[.slice ta p.nt tc, .slice ha p.nh hc, .slice ba p.nb bc, .slice la p.nl lc] 27) = w6 at *
 replace G := G.trans g
 have hC := hC2
 clear hC2
 have hsz4 := hbl
 clear g hb hbl
 refine Y.pv F (X.assign rfl (X.kc (.nilFunc) rfl)) ?_;clear F ac;intro ac F
 refine Y.nil ?_
 replace F : Fr ac 4 [(1, Vp w.heap.size)] := F.sub _
 refine X.thenN ?_
 refine Y.seq ?_
 refine Y.lit (by kernel_rfl) ?_
 refine Y.pv F (Y.fnc rfl (Y.m1 (F.ev 1 (Vp w.heap.size)))) ?_;clear F ac;intro ac F
 refine Y.pv F (X.assign rfl (F.ev 3 (.func (.func 102) #[] #[Vp w.heap.size]))) ?_;clear F ac;intro ac F
 refine Y.nil ?_
 replace F : Fr ac 4 [(2, .func (.func 102) #[] #[Vp w.heap.size])] := F.sub _
 refine X.thenN ?_
 refine Y.ret ?_
 exact Y.ret0 (v := .func (.func 102) #[] #[Vp w.heap.size]) F (Y.rs1 F rfl (by kernel_rfl)) ⟨_, rfl, Nat.le_refl _, hC, G⟩
set_option maxRecDepth 100000 in
set_option maxHeartbeats 1000000 in
theorem nodes1_any {σ : Type} (p : Pb) (ta ha ba la : Option Addr) (tc hc bc lc bp lp : Nat) (Yb : Nat → Prop) (st : σ → List Int → σ × Bool × Bool) (J : σ → (Nat → Prop) → (Nat → Prop) → World → Prop) (Z : World → Prop) (s0 : σ) (O Kp : Nat → Prop) (w : World)
  (hp : PbOk p) (hYb : ∀ b, Yb b → b < w.heap.size) (hP : ∀ W, Only Yb w W → PbAt W p ta ha ba la tc hc bc lc ∧ RCells W (PbC p ta ha ba la tc hc bc lc bp)) (hJl : ∀ s O Kp W, J s O Kp W → ∀ b, O b ∨ Kp b → b < W.heap.size) (hJg : ∀ s O Kp W W', J s O Kp W → Gr W W' → J s O Kp W') (hYd : VisY p lp Yb w st J Z) (hOs : ∀ b, O b → Yb b ∨ w.heap.size ≤ b) (hJ : J s0 O Kp w) :
  Calls Try.prog 102 #[.func (.yield lp) #[] #[], Vp bp] w fun e w' => (∃ v, e = .returned v) ∧ ((∃ s' O' Kp', visF p.nh (hopeB p (tim p)) st p.nt [] s0 = (s', true) ∧ J s' O' Kp' w' ∧ Only O w w' ∧ (∀ b, O' b → O b ∨ w.heap.size ≤ b)) ∨ ((visF p.nh (hopeB p (tim p)) st p.nt [] s0).2 = false ∧ Z w')) := by
 have G := Gr.refl w
 obtain ⟨PN, hPN⟩ : ∃ PN : World → Prop, PN = fun W => ((∃ s' O' Kp', visF p.nh (hopeB p (tim p)) st p.nt [] s0 = (s', true) ∧ J s' O' Kp' W ∧ Only O w W ∧ (∀ b, O' b → O b ∨ w.heap.size ≤ b)) ∨ ((visF p.nh (hopeB p (tim p)) st p.nt [] s0).2 = false ∧ Z W)) := ⟨_, rfl⟩
 suffices hsf : Calls Try.prog 102 #[.func (.yield lp) #[] #[], Vp bp] w (fun e w' => (∃ v, e = .returned v) ∧ PN w') by
  rw [hPN] at hsf; exact hsf
 refine Y.calls 8 Try.func102 rfl rfl ?_
 intro ac F0
 have F : Fr ac 8 [(0, .func (.yield lp) #[] #[]), (1, Vp bp)] := F0.sub _
 clear F0
 refine Y.seq ?_
 refine Y.lit (by kernel_rfl) ?_
 have hgs3 : w.heap.size ≤ w.heap.size := G.size
 refine Y.pv F (X.box rfl (F.ev 0 (.func (.yield lp) #[] #[])) (Y.bx1 rfl)) ?_;clear F ac;intro ac F
 have hgs5 : w.heap.size ≤ w.heap.size := G.size
 have g := Gr.alloc w (.cells #[.func (.yield lp) #[] #[]] 128)
 have hb := heap_alloc_new w (.cells #[.func (.yield lp) #[] #[]] 128)
 have hbl : w.heap.size < (w.alloc (.cells #[.func (.yield lp) #[] #[]] 128)).heap.size := by simp
 have hC2 : RCells (w.alloc (.cells #[.func (.yield lp) #[] #[]] 128)) [(Ad w.heap.size 0, .func (.yield lp) #[] #[])] := (RCells.nil w).box (b := w.heap.size) #[.func (.yield lp) #[] #[]] 128 rfl
 generalize w.alloc (.cells #[.func (.yield lp) #[] #[]] 128) = w6 at *
 replace G := G.trans g
 have hC := hC2
 clear hC2
 have hsz4 := hbl
 clear g hb hbl
 refine Y.nil ?_
 replace F : Fr ac 8 [(1, Vp bp), (2, Vp w.heap.size)] := F.sub _
 refine X.thenN ?_
 refine Y.seq ?_
 refine Y.lit (by kernel_rfl) ?_
 refine Y.pv F (Y.al rfl (Try.new129 _)) ?_;clear F ac;intro ac F
 have g := Gr.alloc w6 (.cells #[.nilFunc] 129)
 have hb := heap_alloc_new w6 (.cells #[.nilFunc] 129)
 have hszw7 : w6.heap.size < (w6.alloc (.cells #[.nilFunc] 129)).heap.size := by simp
 have hgsw7 : w.heap.size ≤ w6.heap.size := G.size
 generalize w6.alloc (.cells #[.nilFunc] 129) = w7 at *
 replace G := G.trans g
 replace hC := hC.gr g
 have hVw7 : OwnP w7 w6.heap.size 1 (VL [.nilFunc]) := ownP_bx (vs := [.nilFunc]) hb
 clear g hb
 refine Y.nil ?_
 replace F : Fr ac 8 [(1, Vp bp), (2, Vp w.heap.size), (3, Vp w6.heap.size)] := F.sub _
 refine X.thenN ?_
 refine Y.seq ?_
 refine Y.lit (by kernel_rfl) ?_
 refine Y.pv F (Y.fnc rfl (Y.m3 (F.ev 1 (Vp bp)) (F.ev 2 (Vp w.heap.size)) (F.ev 3 (Vp w6.heap.size)))) ?_;clear F ac;intro ac F
 refine Y.punit F (X.w0 rfl) rfl (X.store rfl (F.ev 3 (Vp w6.heap.size)) (F.ev 4 (.func (.func 103) #[] #[Vp bp, Vp w.heap.size, Vp w6.heap.size])) (hVw7.st1 (Try.siz129 _) rfl rfl (by omega))) ?_;clear F ac;intro ac F
 have hon := Y.set_only w7 w6.heap.size 0 (.func (.func 103) #[] #[Vp bp, Vp w.heap.size, Vp w6.heap.size])
 have hV2 := hVw7.set (k := 0) (.func (.func 103) #[] #[Vp bp, Vp w.heap.size, Vp w6.heap.size])
 replace hV2 := hV2.congr (val' := fun _ => .func (.func 103) #[] #[Vp bp, Vp w.heap.size, Vp w6.heap.size]) (fun k hk => if_pos (by omega))
 generalize w7.setCell ⟨w6.heap.size, 0, none⟩ (.func (.func 103) #[] #[Vp bp, Vp w.heap.size, Vp w6.heap.size]) = w8 at *
 replace hVw7 : OwnP w8 w6.heap.size 1 (fun _ => .func (.func 103) #[] #[Vp bp, Vp w.heap.size, Vp w6.heap.size]) := hV2
 clear hV2
 replace G := Y.Only.up G hon (by omega)
 replace hC := (hC.kc hon 0 rfl (RCells.nil _))
 clear hon
 refine Y.nil ?_
 replace F : Fr ac 8 [(3, Vp w6.heap.size)] := F.sub _
 refine X.thenN ?_
 refine Y.lit (by kernel_rfl) ?_
 replace hC : RCells w8 [(Ad w.heap.size 0, .func (.yield lp) #[] #[]), (Ad w6.heap.size 0, .func (.func 103) #[] #[Vp bp, Vp w.heap.size, Vp w6.heap.size])] := hC.append ((RCells.cons (hVw7.cell (k := 0) (by decide)) (RCells.nil _)))
 refine Y.pv F (X.load rfl (F.ev 3 (Vp w6.heap.size)) (X.ld1 (Try.agg129 _) (hC.at 1 rfl))) ?_;clear F ac;intro ac F
 refine Y.pv F (Y.bd rfl Y.bd0 (Try.bd108 _)) ?_;clear F ac;intro ac F
 have hcy := hC.at 0 rfl
 have hcv := hC.at 1 rfl
 have hgz := G.size
 have hyl : w.heap.size < w8.heap.size := lt_cell hcy
 have hvl : w6.heap.size < w8.heap.size := lt_cell hcv
 have hE : ∀ W, Only Yb w8 W → VisE W p ta ha ba la tc hc bc lc bp w.heap.size w6.heap.size lp := fun W h => by
  have h1 := hP W ((G.only Yb).trans h)
  exact ⟨h1.1, h1.2.append (RCells.cons (h.cell hcy (fun e => by have h9 := hYb _ e; simp only at h9; omega)) (RCells.cons (h.cell hcv (fun e => by have h9 := hYb _ e; simp only at h9; omega)) (RCells.nil _)))⟩
 have hV := visit_any p ta ha ba la tc hc bc lc bp w.heap.size w6.heap.size lp Yb w8 st J Z hp (fun b e => by have := hYb b e; omega) hE hJl hJg (fun s O Kp xs d a c W h1 h2 h3 h4 h5 h6 h7 h8 h9 h9k h10 h11 => hYd s O Kp xs d a c W h1 (fun b e => (h2 b e).imp id (fun e => by omega)) ((G.only Yb).trans h3) h4 h5 (h6.lower hgz) (by omega) h8 h9 h9k h10 h11) p.nt
 have hcl := hV [] none 0 s0 O Kp w8 (by simp) HosOk.nil ⟨⟨rfl, by decide, fun j hj => (by simp at hj)⟩, fun ad e => (by cases e), fun _ => ⟨rfl, rfl⟩, Nat.le_refl _⟩ (fun ad e => by cases e) (fun b e => (hOs b e).imp id (fun e2 => by have := hJl _ _ _ _ hJ b (.inl e); omega)) (Only.refl _ _) (hJg _ _ _ _ _ hJ G)
 refine Y.pcall F (X.w0 rfl) rfl (X.enter (F := 103) rfl (F.ev 5 (.func (.func 103) #[] #[Vp bp, Vp w.heap.size, Vp w6.heap.size])) (X.a2 (X.kc (.slice none 0 0) rfl) (F.ev 6 (.agg (ldA (fun _ => 0)).toArray))) (enters_of Try.func103 (by kernel_rfl) rfl _)) (hcl) ?_
 clear F ac
 intro e w9 hT
 obtain ⟨v, rfl, hT2⟩ : ∃ v, e = .returned v ∧ PN w9 := by
  subst hPN
  rcases hT with ⟨rfl, s2, O2, Kp2, h1, h2, h3, h4⟩ | ⟨rfl, h1, h2⟩
  ·exact ⟨_, rfl, .inl ⟨s2, O2, Kp2, h1, h2, (G.only O).trans h3, fun b e => (h4 b e).imp id (fun e => by omega)⟩⟩
  ·exact ⟨_, rfl, .inr ⟨h1, h2⟩⟩
 refine ⟨_, rfl, ?_⟩
 intro ac F
 refine Y.nil ?_
 replace F : Fr ac 8 [] := F.sub _
 show bodyPostM _ _ _ _ _ .ret _ _
 exact Y.ret0 (v := .tuple #[]) F (Y.rs0 rfl) ⟨⟨_, rfl⟩, hT2⟩
end
section
set_option linter.unusedVariables false
open Go.RowKit
def NdC (p : Pb) (b : Nat) (a : Option Addr) (c d : Nat) (xs : List Int) : List (Addr × Value) := [(⟨b, 0, none⟩, .slice a xs.length c), (⟨b, 1, none⟩, .bool (hopeB p (tim p) xs)), (⟨b, 2, none⟩, .int .i64 (bndV p xs)), (⟨b, 3, none⟩, .pointer (some ⟨d, 0, none⟩))]
theorem ndC_box (p : Pb) (W : World) (a : Option Addr) (c d : Nat) (xs : List Int) (t : TypeId) : RCells (W.alloc (.cells #[.slice a xs.length c, .bool (hopeB p (tim p) xs), .int .i64 (bndV p xs), .pointer (some ⟨d, 0, none⟩)] t)) (NdC p W.heap.size a c d xs) :=
  (RCells.nil W).box (b := W.heap.size) #[.slice a xs.length c, .bool (hopeB p (tim p) xs), .int .i64 (bndV p xs), .pointer (some ⟨d, 0, none⟩)] t rfl
structure NdX where
  xs : List Int
  a : Option Addr
  c : Nat
  d : Nat
  lim : Nat
structure NdB (p : Pb) (w W : World) (O Kp : Nat → Prop) (x : NdX) : Prop where
  len : x.xs.length ≤ p.nt
  hos : HosOk p x.xs
  beg : BegAt W (w.heap.size + 2) x.a x.c x.xs
  dge : w.heap.size + 2 ≤ x.d
  dO : ¬ O x.d
  dK : ¬ Kp x.d
  aO : ∀ ad, x.a = some ad → ¬ O ad.block
  ad : ∀ ad, x.a = some ad → ad.block ≠ x.d
  own : OwnP W x.d 1 (fun _ => .bool true)
  lim : ∀ b, O b ∨ Kp b → b < x.lim
  dlim : x.d < x.lim
  alim : ∀ ad, x.a = some ad → ad.block < x.lim
  ge : x.lim ≤ W.heap.size
theorem NdB.gr {p : Pb} {w W W' : World} {O Kp : Nat → Prop} {x : NdX} (h : NdB p w W O Kp x) (g : Gr W W') : NdB p w W' O Kp x :=
  ⟨h.len, h.hos, h.beg.gr g, h.dge, h.dO, h.dK, h.aO, h.ad, h.own.gr g, h.lim, h.dlim, h.alim, Nat.le_trans h.ge g.size⟩
theorem NdB.only {p : Pb} {w W W' : World} {O Kp : Nat → Prop} {x : NdX} (h : NdB p w W O Kp x) (g : Only (fun b => b = w.heap.size + 1) W W') : NdB p w W' O Kp x :=
  ⟨h.len, h.hos, h.beg.only g (fun ad e => by have := (h.beg.ge ad e).1; omega), h.dge, h.dO, h.dK, h.aO, h.ad, h.own.only g (by have := h.dge; omega), h.lim, h.dlim, h.alim, Nat.le_trans h.ge g.size⟩
namespace Y
variable {A : Act} {N : Nat} {L : List (Nat × Value)} {D : List Deferred} {Q : Exit → Act → World → Prop} {w : World}
theorem fr_round9 {pt : Nat} (F : Fr A N L D) (hp : pt < N) (v : Value) : Fr { tmps := A.tmps.setIfInBounds pt v, defers := [] } N (X.putS L (some pt) v) := by
  have h := F.put (o := some pt) (v := v) (by simpa using hp)
  exact ⟨h.sz, rfl, h.get⟩
theorem fr_mark9 (F : Fr A N L D) (d : Deferred) : Fr { A with defers := d :: A.defers } N L (d :: D) := ⟨F.sz, by rw [← F.df], F.get⟩
set_option maxHeartbeats 1000000 in
theorem ndRange {σ : Type} {g : Operand} {body : Code} {id pt dv : Nat} {o1 o2 : Oper} {p : Pb} {ta ha ba la : Option Addr} {tc hc bc lc bp : Nat} (F : Fr A N L D) (hpt : pt < N) (hdv : dv < N) (hne : (dv == pt) = false)
    (ho1 : o1.op = .alloc 102) (hg1 : o1.guard = none) (hd1 : o1.dst = some dv) (ho2 : o2.op = .store 102 (.tmp dv) (.tmp pt)) (hg2 : o2.guard = none) (hd2 : o2.dst = none)
    (hg : A.eval g = .func (.func 102) #[] #[.pointer (some ⟨bp, 0, none⟩)])
    (hp : PbOk p) (Yb : Nat → Prop) (hYb : ∀ b, Yb b → b < w.heap.size) (hP : ∀ W, Only Yb w W → PbAt W p ta ha ba la tc hc bc lc ∧ RCells W (PbC p ta ha ba la tc hc bc lc bp))
    (st : σ → List Int → σ × Bool × Bool) (s0 : σ) (K : σ → (Nat → Prop) → (Nat → Prop) → World → Prop) (O0 Kp0 : Nat → Prop) (h0 : K s0 O0 Kp0 w) (hO0 : ∀ b, O0 b → Yb b)
    (hKl : ∀ s O Kp W, K s O Kp W → ∀ b, O b ∨ Kp b → b < W.heap.size) (hKg : ∀ s O Kp W W', K s O Kp W → Gr W W' → K s O Kp W') (hKo : ∀ s O Kp W W', K s O Kp W → (∀ b, O b → Yb b ∨ w.heap.size + 2 ≤ b) → Only (fun b => b = w.heap.size + 1) W W' → K s O Kp W')
    (Ix : Code → World → Prop) (hIx : ∀ c W o, Ix c W → Ix c (W.putObj (w.heap.size + 1) (.loop o)))
    (hbody : ∀ (s : σ) (O Kp : Nat → Prop) (xs : List Int) (a : Option Addr) (c d b : Nat) (W : World) (A1 : Act), Only Yb w W → K s O Kp W → (∀ b, O b → Yb b ∨ w.heap.size + 2 ≤ b) → xs.length ≤ p.nt → HosOk p xs → BegAt W (w.heap.size + 2) a c xs → w.heap.size + 2 ≤ d → ¬ O d → ¬ Kp d → (∀ ad, a = some ad → ¬ O ad.block) → (∀ ad, a = some ad → ad.block ≠ d) →
      OwnP W d 1 (fun _ => .bool true) → w.heap.size + 2 ≤ b → b ≠ d → ¬ O b → ¬ Kp b → (∀ ad, a = some ad → ad.block ≠ b) → RCells W (NdC p b a c d xs) → Fr A1 N (X.putS (X.putS L (some pt) (ndV p a c d xs)) (some dv) (.pointer (some ⟨b, 0, none⟩))) →
      body.wpIn (FW (some (w.heap.size + 1))) 0 Try.prog (roundQ4 (fun x => O x ∨ x = d) (fun W' => (∃ O' Kp', K (st s xs).1 O' Kp' W' ∧ (∀ b, O' b → O b ∨ W.heap.size ≤ b)) ∧ OwnP W' d 1 (fun _ => .bool (st s xs).2.1) ∧ (st s xs).2.2 = true) (fun c W' => Ix c W' ∧ (st s xs).2.2 = false) W) A1 W)
    (hdone : ∀ (s : σ) (O Kp : Nat → Prop) (W : World) (A' : Act), visF p.nh (hopeB p (tim p)) st p.nt [] s0 = (s, true) → Only Yb w W → K s O Kp W → (∀ b, O b → Yb b ∨ w.heap.size + 2 ≤ b) → W.heap[w.heap.size]? = some (.deferred (some [])) → Fr A' N L ({ target := .collected w.heap.size, args := #[] } :: D) → Q .normal A' W)
    (hstop : ∀ (c : Code) (W : World) (A' : Act), (visF p.nh (hopeB p (tim p)) st p.nt [] s0).2 = false → Ix c W → W.heap[w.heap.size]? = some (.deferred (some [])) → Fr A' N L ({ target := .collected w.heap.size, args := #[] } :: D) → c.wpIn (FW none) 0 Try.prog Q A' W) :
    (Code.rangeFunc g #[pt] (.region id #[o1, o2] false) body).wpIn (FW none) 0 Try.prog Q A w := by
  refine (wpIn_wide (n := 0)).2 ?_
  have hdp : ¬ dv = pt := by simpa using hne
  have hdp2 : ¬ pt = dv := fun e => hdp e.symm
  have hput : ∀ (W : World) (o : Loop), Only (fun b => b = w.heap.size + 1) W (W.putObj (w.heap.size + 1) (.loop o)) := fun W o => putObj_only _ _ _
  have hOp : ∀ (W : World) (o : Loop), Only Yb w W → Only Yb w (W.putObj (w.heap.size + 1) (.loop o)) := fun W o h => h.step2 (hput W o) (fun r e => .inr (by omega))
  refine range_rule4 (P := Try.prog) (α := NdX) (σ := σ × (Nat → Prop) × (Nat → Prop)) (gf := 102) (a := A) hg (enters_of Try.func102 (by kernel_rfl) rfl) (s0, O0, Kp0)
    (fun s x W W' => Only Yb w W' ∧ ∃ O' Kp', K (st s.1 x.xs).1 O' Kp' W' ∧ (∀ b, O' b → s.2.1 b ∨ W.heap.size ≤ b) ∧ (∀ b, O' b → Yb b ∨ w.heap.size + 2 ≤ b))
    (fun W => Only Yb w W ∧ ∃ s O Kp, visF p.nh (hopeB p (tim p)) st p.nt [] s0 = (s, true) ∧ K s O Kp W ∧ (∀ b, O b → Yb b ∨ w.heap.size + 2 ≤ b))
    (fun s W => Only Yb w W ∧ K s.1 s.2.1 s.2.2 W ∧ (∀ b, s.2.1 b → Yb b ∨ w.heap.size + 2 ≤ b)) Ix (fun s x b => s.2.1 b ∨ b = x.d)
    (fun s x args W => args = #[ndV p x.a x.c x.d x.xs] ∧ NdB p w W s.2.1 s.2.2 x ∧ (∀ b, s.2.1 b → Yb b ∨ w.heap.size + 2 ≤ b)) ((visF p.nh (hopeB p (tim p)) st p.nt [] s0).2 = false)
    (fun x A1 W => ∃ b, w.heap.size + 2 ≤ b ∧ x.lim ≤ b ∧ RCells W (NdC p b x.a x.c x.d x.xs) ∧ Fr A1 N (X.putS (X.putS L (some pt) (ndV p x.a x.c x.d x.xs)) (some dv) (.pointer (some ⟨b, 0, none⟩))))
    (fun s x W => NdB p w W s.2.1 s.2.2 x ∧ (∀ b, s.2.1 b → Yb b ∨ w.heap.size + 2 ≤ b)) (fun s x W => w.heap.size + 2 ≤ x.d ∧ OwnP W x.d 1 (fun _ => .bool (st s.1 x.xs).2.1)) (fun s x => (st s.1 x.xs).2.2 = false) (fun s x => (st s.1 x.xs).2.2 = true)
    (fun s W W' h g => ⟨h.1.thenGr g, hKg _ _ _ _ _ h.2.1 g, h.2.2⟩) (fun x A1 W o h => ?_) (fun s x args W h => h.2) (fun s x W W' h g => ⟨h.1.only g, h.2⟩) (fun s x W W' h g => ⟨h.1.gr g, h.2⟩) (fun s x W h => ⟨?_, ?_⟩)
    (fun s W o h => ⟨hOp _ _ h.1, hKo _ _ _ _ _ h.2.1 h.2.2 (hput W o), h.2.2⟩) hIx (fun s x W W' o h => ⟨hOp _ _ h.1, by obtain ⟨_, O', Kp', h1, h2, h3⟩ := h; exact ⟨O', Kp', hKo _ _ _ _ _ h1 h3 (hput W' o), h2, h3⟩⟩) (fun s x W W2 W' hs h => ⟨h.1, by obtain ⟨_, O', Kp', h1, h2, h3⟩ := h; exact ⟨O', Kp', h1, fun b e => (h2 b e).imp (fun z => z) (fun e => Nat.le_trans hs e), h3⟩⟩)
    (fun W o h => ⟨hOp _ _ h.1, by obtain ⟨_, s, O, Kp, h1, h2, h3⟩ := h; exact ⟨s, O, Kp, h1, hKo _ _ _ _ _ h2 h3 (hput W o), h3⟩⟩) (fun s x W o h => ⟨h.1, h.2.only (hput W o) (by have := h.1; omega)⟩) (fun s x args W h => by rw [h.1]; rfl)
    ⟨Only.refl _ _, h0, fun b e => .inl (hO0 b e)⟩ (fun s W o h => ⟨h.1.thenGr (Gr.alloc _ _), hKg _ _ _ _ _ h.2.1 (Gr.alloc _ _), h.2.2⟩) (fun lp s x args W K' hsz hE hK' => ?_) (fun s x W A1 hi hB hA hsz => ?_) ?_ (fun W hF hk => ?_) (fun c W hSp hI hk => ?_)
  · obtain ⟨b, hb, hlim, hc, hF⟩ := h
    exact ⟨b, hb, hlim, hc.only (hput W o) (fun p hp e => by simp [NdC] at hp; rcases hp with rfl | rfl | rfl | rfl <;> (simp only at e; omega)), hF⟩
  · rintro (e | e)
    · rcases h.2 _ e with e | e
      · have := hYb _ e; omega
      · omega
    · have := h.1.dge; omega
  · rintro (e | e)
    · rcases h.2 _ e with e | e
      · have := hYb _ e; omega
      · omega
    · have := h.1.dge; omega
  · obtain ⟨rfl, hB, _⟩ := hE
    have hF := fr_round9 F hpt (ndV p x.a x.c x.d x.xs)
    suffices h1 : (Code.region id #[o1, o2] false).wpIn (Fence.wide.inRound lp) 0 Try.prog (Exit.then K' (fun _ _ _ => False)) { tmps := A.tmps.setIfInBounds pt (ndV p x.a x.c x.d x.xs), defers := [] } W by simpa using h1
    show (Code.region id #[o1, o2] false).wpIn (FW (some lp)) 0 Try.prog _ _ W
    refine Y.lit (l := [o1, o2]) (by simp [ho1, ho2]) ?_
    refine Y.pval hF (X.w0 hg1) (by rw [hd1]; simpa using hdv) (Y.al ho1 (Try.new102 _)) ?_
    intro A2 F2
    rw [hd1] at F2
    refine Y.punit F2 (X.w0 hg2) (by rw [hd2]) (X.store ho2 (F2.ev dv _ (by simp [X.putS, lookS])) (F2.ev pt (ndV p x.a x.c x.d x.xs) (by simp [X.putS, lookS, List.filter_cons, hdp, hdp2])) (Y.stNew [.slice x.a x.xs.length x.c, .bool (hopeB p (tim p) x.xs), .int .i64 (bndV p x.xs), .pointer (some ⟨x.d, 0, none⟩)] [.slice none 0 0, .bool false, .int .i64 0, .pointer none] (Try.siz102 _) rfl rfl)) ?_
    intro A3 F3
    rw [hd2] at F3
    refine Y.nil ?_
    exact hK' _ _ (Gr.alloc _ _) ⟨W.heap.size, by omega, hB.ge, ndC_box p W _ _ _ _ 102, F3⟩
  · obtain ⟨b, hb, hlim, hc, hF⟩ := hA
    obtain ⟨hB, hOs⟩ := hB
    refine wpIn_mono (hbody s.1 s.2.1 s.2.2 x.xs x.a x.c x.d b W A1 hi.1 hi.2.1 hOs hB.len hB.hos hB.beg hB.dge hB.dO hB.dK hB.aO hB.ad hB.own hb (by have := hB.dlim; omega) (fun e => by have := hB.lim _ (.inl e); omega) (fun e => by have := hB.lim _ (.inr e); omega) (fun ad e => by have := hB.alim ad e; omega) hc hF) ?_
    have hO : ∀ W', Only (fun b => s.2.1 b ∨ b = x.d) W W' → Only Yb w W' := fun W' h => hi.1.step2 h (fun r e => by
      rcases e with e | e
      · exact (hOs r e).imp (fun z => z) (fun e => by omega)
      · exact .inr (by have := hB.dge; omega))
    have hsw := hi.1.size
    rintro e a3 W3 hp3
    cases e with
    | normal =>
      obtain ⟨ho, ⟨O', Kp', h1, h2⟩, h3, h4⟩ := hp3
      exact ⟨ho, ⟨hO _ ho, O', Kp', h1, h2, fun b e => (h2 b e).elim (fun e => hOs b e) (fun e => .inr (by omega))⟩, ⟨hB.dge, h3⟩, h4⟩
    | ret => exact ⟨hp3.1, hp3.2.1, hp3.2.2⟩
    | exit id => exact ⟨hp3.1, hp3.2.1, hp3.2.2⟩
    | goto t => exact hp3.elim
    | panic ch => exact hp3.elim
    | outgrown => exact hp3.elim
  · intro L' hLs hLp hyield hstart
    obtain ⟨W0, hW0⟩ : ∃ W0, (w.alloc (.deferred (some []))).alloc (.loop L') = W0 := ⟨_, rfl⟩
    have g0 : Gr w W0 := by rw [← hW0]; exact (Gr.alloc _ _).allocR _
    have s0' : W0.heap.size = w.heap.size + 2 := by rw [← hW0]; simp
    rw [hW0] at hstart ⊢
    refine callsIn_wide.2 ?_
    refine (nodes1_any p ta ha ba la tc hc bc lc bp (w.heap.size + 1) Yb st (fun s O Kp W => Btw w.heap.size L' (fun W => Only Yb w W ∧ K s O Kp W ∧ (∀ b, O b → Yb b ∨ w.heap.size + 2 ≤ b)) W) (fun W => Left w.heap.size L' Ix W) s0 O0 Kp0 W0 hp (fun b e => by have := hYb b e; omega) (fun W h => hP W ((g0.only _).trans h)) (fun s O Kp W h => hKl s O Kp W h.1.2.1) (fun s O Kp W W' h g => h.gr g (fun h => ⟨h.1.thenGr g, hKg _ _ _ _ _ h.2.1 g, h.2.2⟩)) ?_ (fun b e => .inl (hO0 b e)) hstart).mono ?_
    · intro s O Kp xs d a c W hJ hOs hO hlen hos hbeg hd had hdO hdK haO hown
      have hdl := hown.lt
      exact (hyield (s, O, Kp) ⟨xs, a, c, d, W.heap.size⟩ _ W hJ ⟨rfl, ⟨hlen, hos, hbeg.lower (by omega), by simp only; omega, hdO, hdK, haO, had, hown, fun b e => hKl s O Kp W hJ.1.2.1 b e, hdl, fun ad e => (hbeg.ge ad e).2, Nat.le_refl _⟩, hJ.1.2.2⟩).mono (fun e W' h => by
        rcases h with ⟨h1, ⟨⟨h2, O', Kp', h3, h4, h5⟩, hl, hk⟩, h6, h7, h8⟩ | ⟨h1, h2, h3⟩
        · exact ⟨true, h1, .inl ⟨rfl, h7, O', Kp', ⟨⟨h2, h3, h5⟩, hl, hk⟩, h6.2, h8, h4⟩⟩
        · exact ⟨false, h1, .inr ⟨rfl, h3, h2⟩⟩)
    · rintro e W' ⟨hv, (⟨s, O, Kp, h1, ⟨⟨h2, h3, h4⟩, hl, hk⟩, h5, h6⟩ | ⟨h1, h2⟩)⟩
      · exact ⟨hv, .inl ⟨⟨h2, s, O, Kp, h1, h3, h4⟩, hl, hk⟩⟩
      · exact ⟨hv, .inr ⟨h1, h2⟩⟩
  · obtain ⟨h1, s, O, Kp, h2, h3, h4⟩ := hF
    exact hdone s O Kp W _ h2 h1 h3 h4 hk (fr_mark9 F _)
  · exact (hstop c W _ hSp hI hk (fr_mark9 F _))
end Y
end
section
set_option linter.unusedVariables false
open Go.RowKit
theorem copy_row {P : Program} (W : World) (dT sT ty elem : TypeId) (k g o dLen dCap : Nat) (a : Addr) (sLen sCap : Nat) (cur : Array Value) (t : TypeId) (cs : List Value)
    (hu : P.underlying dT = some (.slice elem)) (hs : (P.info? elem).map (·.size) = some k)
    (hg : W.heap[g]? = some (.cells cur t (0, 0))) (hn : cs.length = Nat.min sLen dLen * k)
    (hsrc : ∀ j v, cs[j]? = some v → W.cell? (a.add j) = some v) (hfit : o + cs.length ≤ cur.size) (h1 : ∀ v ∈ cs, v.oneCell' = true) :
    (Builtin.copy_ #[dT, sT] ty #[.slice (some ⟨g, o, none⟩) dLen dCap, .slice (some a) sLen sCap]).run P W =
      .ok (goInt (Nat.min sLen dLen)) (W.setRow g (cur.toList.take o ++ cs ++ cur.toList.drop (o + cs.length)).toArray) := by
  have hl := run_firstCells_some (P := P) (w := W) k (Nat.min sLen dLen) a sLen sCap cs hn hsrc
  have hst := run_storeCells_at P g o t cs 0 cur W hg (by simpa using hfit) h1
  cases hq : P.info? elem with
  | none => simp [hq] at hs
  | some i =>
    have hi : i.size = k := by simpa [hq] using hs
    simp [Builtin.copy_, run_underlying hu, Builtin.lenOf, sizeOf, typeInfo, hq, hi, hl, hst]
theorem setRow_only (W : World) (g : Nat) (cs : Array Value) : Only (fun b => b = g) W (W.setRow g cs) :=
  ⟨rfl, rfl, rfl, by rw [setRow_size]; exact Nat.le_refl _, fun b _ hn => setRow_other W g b cs hn⟩
theorem heap_cells {W : World} {g : Nat} {l : List Value} {t : TypeId} (h : W.heap[g]? = some (.cells l.toArray t (0, 0))) {o : Nat} {cs : List Value} (hc : ∀ j v, cs[j]? = some v → l[o + j]? = some v) : ∀ j v, cs[j]? = some v → W.cell? ((⟨g, o, none⟩ : Addr).add j) = some v := by
  intro j v hj
  have e : (⟨g, o, none⟩ : Addr).add j = ⟨g, o + j, none⟩ := by unfold Addr.add; split <;> simp_all
  rw [e]
  exact cell_at h (by simpa using hc j v hj)
theorem add_lit (g o j : Nat) : (⟨g, o, none⟩ : Addr).add j = ⟨g, o + j, none⟩ := by unfold Addr.add; split <;> simp_all
namespace Y
variable {P : Program} {W W' : World} {o : Oper} {ρ : Operand → Value}
theorem slL {t e : TypeId} {x y : Operand} {a : Option Addr} {n c i k : Nat} {z : Int} (ho : o.op = .slice t x (some y) none none) (hx : ρ x = .slice a n c) (hy : ρ y = .int .i64 z) (hu : P.underlying t = some (.slice e)) (hS : (sizeOf e).run P W = .ok k W) (hz : z = (i : Int)) (hi : i ≤ n) (hn : n ≤ c) : (execOp ρ o).run P W = .ok (.value (.slice (if c = i then a else a.map (fun x => x.add (i * k))) (n - i) (c - i))) W := by
  subst hz
  have h2 : (i : Int) ≤ c := by omega
  have h3 : (i : Int) ≤ n := by omega
  have h4 : (n : Int) ≤ c := by omega
  simp [execOp, ho, hx, hy, Instr.sliceAt, Instr.slice, run_underlying hu, Instr.sliceBounds, Instr.sliceBound, asIntOf, h2, h3, h4, hi, hn, hS, go_sem]
theorem slL1 {t e : TypeId} {x y : Operand} {g p n c i k q m r : Nat} {z : Int} (ho : o.op = .slice t x (some y) none none) (hx : ρ x = .slice (some ⟨g, p, none⟩) n c) (hy : ρ y = .int .i64 z) (hu : P.underlying t = some (.slice e)) (hS : (sizeOf e).run P W = .ok k W) (hz : z = (i : Int)) (hi : i ≤ n) (hn : n ≤ c) (h0 : i < c) (hq : p + i * k = q) (hm : n - i = m) (hr : c - i = r) : (execOp ρ o).run P W = .ok (.value (.slice (some ⟨g, q, none⟩) m r)) W := by
  subst hq hm hr
  rw [slL ho hx hy hu hS hz hi hn, if_neg (by omega)]
  simp [add_lit]
theorem cap {x : Operand} {tx e : TypeId} {a : Option Addr} {n c : Nat} (hu : P.underlying tx = some (.slice e)) (ho : o.op = .call { callee := .builtin .cap, args := #[x], argTypes := #[tx] }) (hx : ρ x = .slice a n c) : (execOp ρ o).run P W = .ok (.value (.int .i64 (c : Nat))) W := by
  unfold execOp; rw [ho]; simp [hx, resolve, invoke, builtin, Builtin.cap_, run_underlying hu, go_sem]
theorem cpy {d s : Operand} {t t' : TypeId} {v u r : Value} (ho : o.op = .call { callee := .builtin .copy, args := #[d, s], argTypes := #[t, t'] }) (hd : ρ d = v) (hs : ρ s = u) (hr : (Builtin.copy_ #[t, t'] o.type #[v, u]).run P W = .ok r W') : (execOp ρ o).run P W = .ok (.value r) W' := by
  unfold execOp; rw [ho]; simp [resolve, invoke, builtin, hd, hs, hr, go_sem]
theorem apz {d s : Operand} {t t' : TypeId} {v u r : Value} (ho : o.op = .call { callee := .builtin .append, args := #[d, s], argTypes := #[t, t'] }) (hd : ρ d = v) (hs : ρ s = u) (hr : (Builtin.append_ #[t, t'] o.type #[v, u]).run P W = .ok r W') : (execOp ρ o).run P W = .ok (.value r) W' := by
  unfold execOp
  simp only [ho, resolve, invoke, builtin, Sem.run_bind, Sem.run_pure, Result.andThen_ok, List.map_toArray, List.map_cons, List.map_nil, hd, hs, hr]
theorem ext {f d s : Operand} {ats : Array TypeId} {F : FuncId} {v u r : Value} (ho : o.op = .call { callee := .value f, args := #[d, s], argTypes := ats }) (hd : ρ d = v) (hs : ρ s = u) (hc : ρ f = .func (.func F) #[] #[]) (hr : (callFunc F #[v, u]).run P W = .ok (.value r) W) : (execOp ρ o).run P W = .ok (.value r) W := by
  unfold execOp; rw [ho]; simp [resolve, invoke, hd, hs, hc, hr, go_sem]
end Y
theorem ins_place {L0 M R N : List Value} {p k : Nat} (hN : N.length = k) (hl : p + k ≤ L0.length) : (L0.take (p + k) ++ M ++ R).take p ++ N ++ (L0.take (p + k) ++ M ++ R).drop (p + N.length) = L0.take p ++ N ++ M ++ R := by
  have h1 : (L0.take (p + k)).length = p + k := by rw [List.length_take]; omega
  rw [hN, List.append_assoc (L0.take (p + k)), List.take_append_of_le_length (by omega), List.take_take, Nat.min_eq_left (by omega), List.drop_left' h1]
  simp [List.append_assoc]
theorem ins_new {A Z M N : List Value} {p k m : Nat} (hA : A.length = p) (hN : N.length = k) (hM : M.length = m) (hZ : k + m ≤ Z.length) : ((A ++ Z).take p ++ N ++ (A ++ Z).drop (p + N.length)).take (p + k) ++ M ++ ((A ++ Z).take p ++ N ++ (A ++ Z).drop (p + N.length)).drop (p + k + M.length) = A ++ N ++ M ++ Z.drop (k + m) := by
  have h1 : (A ++ Z).take p = A := List.take_left' hA
  have h2 : (A ++ Z).drop (p + N.length) = Z.drop k := by rw [List.drop_append, List.drop_of_length_le (by omega), List.nil_append]; congr 1; omega
  have h3 : (A ++ N).length = p + k := by simp [hA, hN]
  rw [h1, h2, List.take_left' h3, List.drop_append, List.drop_of_length_le (by omega), List.nil_append, h3, List.drop_drop]
  congr 2
  omega
theorem ins_own {W : World} {B e k n c g : Nat} {l xs T : List Value} (h : W.heap[g]? = some (.cells l.toArray e (0, 0))) (hB : B ≤ g) (hl : l = xs ++ T) (hx : xs.length = n * k) (hc : l.length = c * k) (hnc : n ≤ c) (hm : c ≤ maxLen) : OwnR W B e k (.slice (some ⟨g, 0, none⟩) n c) n xs :=
  ⟨hx, .inr ⟨g, c, l.toArray, rfl, hB, h, hnc, hm, by simpa using hc, by rw [hl]; simp [← hx]⟩⟩
def HpR (W : World) (g : Nat) (l : List Value) (e : TypeId) : Prop := W.heap[g]? = some (.cells l.toArray e (0, 0))
section
variable {W W' : World} {g : Nat} {l : List Value} {e : TypeId} {P : Program}
theorem HpR.lt (h : HpR W g l e) : g < W.heap.size := (Array.getElem?_eq_some_iff.1 h).1
theorem HpR.only {S : Nat → Prop} (h : HpR W g l e) (o : Only S W W') (hn : ¬ S g) : HpR W' g l e := (o.block _ h.lt hn).trans h
theorem HpR.gr (h : HpR W g l e) (o : Gr W W') : HpR W' g l e := h.only (o.only (fun _ => False)) (fun h => h)
theorem HpR.copy {dT sT ty elem : TypeId} {k o dLen dCap g2 o2 sLen sCap : Nat} {l2 cs : List Value} (h : HpR W g l e) (h2 : HpR W g2 l2 e) (hu : P.underlying dT = some (.slice elem)) (hs : (P.info? elem).map (·.size) = some k)
    (hn : cs.length = Nat.min sLen dLen * k) (hc : ∀ j v, cs[j]? = some v → l2[o2 + j]? = some v) (hfit : o + cs.length ≤ l.length) (h1 : (cs.all fun v => v.oneCell') = true) :
    ∃ W', (Builtin.copy_ #[dT, sT] ty #[.slice (some ⟨g, o, none⟩) dLen dCap, .slice (some ⟨g2, o2, none⟩) sLen sCap]).run P W = .ok (goInt (Nat.min sLen dLen)) W' ∧ HpR W' g (l.take o ++ cs ++ l.drop (o + cs.length)) e ∧ Only (fun b => b = g) W W' :=
  ⟨_, copy_row W dT sT ty elem k g o dLen dCap ⟨g2, o2, none⟩ sLen sCap l.toArray e cs hu hs h hn (heap_cells h2 hc) (by simpa using hfit) (fun v hv => List.all_eq_true.1 h1 v hv), setRow_heap W g _ _ _ _ h, setRow_only _ _ _⟩
theorem HpR.grow {t tn ty elem : TypeId} {z : Value} {k bytes n i c : Nat} {xs : List Value} (h : HpR W g l e) (hu : P.underlying t = some (.slice elem)) (hun : P.underlying tn = some (.int .i64)) (hinfo : (P.info? elem).map (fun i => (i.zero, i.size, i.bytes)) = some (some z, k, bytes)) (hz : z.cells.size = k) (hk : 0 < k)
    (hx : xs.length = i * k) (hl : ∀ j v, xs[j]? = some v → l[0 + j]? = some v) (hi : i ≤ n) (hc : c < n + 1) (hn : n ≤ 1000000) (hbt : bytes ≤ 1000) :
    ∃ W' G Z, (Builtin.append_ #[t, tn] ty #[.slice (some ⟨g, 0, none⟩) i c, .int .i64 ((n : Int) + 1 - i)]).run P W = .ok (.slice (some ⟨W.heap.size, 0, none⟩) (n + 1) G) W' ∧ HpR W' W.heap.size (xs ++ Z) elem ∧ (xs ++ Z).length = G * k ∧ n + 1 ≤ G ∧ G ≤ maxLen ∧ Gr W W' := by
  obtain ⟨i0, hi0, hz0, hzs, hzb⟩ := info_parts hinfo
  have e1 : (n : Int) + 1 - i = ((n + 1 - i : Nat) : Int) := by omega
  have e2 : i + (n + 1 - i) = n + 1 := by omega
  have hb : (n + 1) * bytes ≤ 140737488355328 := by
    have := Nat.mul_le_mul (show n + 1 ≤ 1000001 by omega) hbt
    omega
  have h4 := run_firstCells_some (P := P) (w := W.drew) i0.size i ⟨g, 0, none⟩ i c xs (by rw [hzs]; exact hx) (fun j v hj => (heap_cells h (o := 0) hl) j v hj)
  have hb2 : (n + 1 - i) * i0.bytes ≤ 281474976710656 := by
    rw [hzb]
    have := Nat.mul_le_mul_right bytes (show n + 1 - i ≤ n + 1 by omega)
    omega
  have h5 := Lib.run_append_grow_zeros (P := P) W t tn ty elem i0 z .i64 .i64 hu hun hi0 hz0 (some ⟨g, 0, none⟩) i c xs h4 (n + 1 - i) (by omega) (by rw [hzs]; exact hk) (by omega) (by omega) hb2 (by rw [hzb, e2]; exact growslice_fits hc hb)
  rw [e2] at h5
  rw [e1]
  have hge := grownCap_ge W (n + 1) c elem
  have hle := grownCap_le_maxLen W (n + 1) c elem (by unfold maxLen; omega)
  refine ⟨_, grownCap W (n + 1) c elem, (Builtin.zeroCells z.cells (n + 1 - i) ++ Builtin.zeroCells z.cells (grownCap W (n + 1) c elem - (n + 1))).toList, h5, ?_, ?_, hge, hle, (Gr.drew W).trans (Gr.alloc _ _)⟩
  · have := heap_alloc_new W.drew (.cells (xs.toArray ++ Builtin.zeroCells z.cells (n + 1 - i) ++ Builtin.zeroCells z.cells (grownCap W (n + 1) c elem - (n + 1))) elem)
    unfold HpR
    rw [show (xs ++ (Builtin.zeroCells z.cells (n + 1 - i) ++ Builtin.zeroCells z.cells (grownCap W (n + 1) c elem - (n + 1))).toList).toArray = xs.toArray ++ Builtin.zeroCells z.cells (n + 1 - i) ++ Builtin.zeroCells z.cells (grownCap W (n + 1) c elem - (n + 1)) by simp [Array.append_assoc]]
    exact this
  · simp [Builtin.zeroCells, hz, hx]
    rw [← Nat.add_mul, ← Nat.add_mul]
    congr 1
    omega
end
theorem OwnR.row {W : World} {B e k n : Nat} {a : Option Addr} {c : Nat} {xs : List Value} (h : OwnR W B e k (.slice a n c) n xs) (h0 : 0 < n) : ∃ g L, a = some ⟨g, 0, none⟩ ∧ B ≤ g ∧ HpR W g L e ∧ n ≤ c ∧ c ≤ maxLen ∧ L.length = c * k ∧ L.take (n * k) = xs := by
  rcases h.2 with ⟨e, h1⟩ | ⟨g, cap, cur, e, h1, h2, h3, h4, h5, h6⟩
  · omega
  · injection e with e1 e2 e3
    subst e1 e3
    exact ⟨g, cur.toList, rfl, h1, h2, h3, h4, by simpa using h5, h6⟩
theorem take_get {L xs : List Value} {m : Nat} (h : L.take m = xs) {o : Nat} : ∀ j v, (xs.drop o)[j]? = some v → L[o + j]? = some v := by
  intro j v hj
  rw [List.getElem?_drop, ← h] at hj
  have : o + j < (L.take m).length := (List.getElem?_eq_some_iff.1 hj).1
  rw [List.length_take] at this
  rw [List.getElem?_take_of_lt (by omega)] at hj
  exact hj
theorem take_get0 {L xs : List Value} {m : Nat} (h : L.take m = xs) {p : Nat} : ∀ j v, (xs.take p)[j]? = some v → L[0 + j]? = some v := by
  intro j v hj
  have h1 : j < (xs.take p).length := (List.getElem?_eq_some_iff.1 hj).1
  rw [List.length_take] at h1
  rw [List.getElem?_take_of_lt (by omega)] at hj
  exact take_get h (o := 0) j v (by simpa using hj)
theorem drop_all {xs : List Value} (h : (xs.all fun v => v.oneCell') = true) (p : Nat) : ((xs.drop p).all fun v => v.oneCell') = true :=
  List.all_eq_true.2 fun v hv => List.all_eq_true.1 h v (List.mem_of_mem_drop hv)
theorem self_get (N : List Value) : ∀ j v, N[j]? = some v → N[0 + j]? = some v := fun j v h => by rwa [Nat.zero_add]
theorem ovl {P : Program} {W : World} {F : FuncId} {t e : TypeId} {k : Nat} (hx : ∀ args, (callFunc F args).run P W = ((Extern.SlicesOverlaps.overlaps #[t, t] #[4] args).run P W).andThen fun v w' => .ok (.value v) w') (hu : P.underlying t = some (.slice e)) (hS : ∀ w, (sizeOf e).run P w = .ok k w) {g g2 o la ca lb cb : Nat} {l l2 : List Value} {e1 e2 : TypeId} (h : HpR W g l e1) (h2 : HpR W g2 l2 e2) (hne : g ≠ g2) (hl : l2.length ≠ 0) :
    (callFunc F #[.slice (some ⟨g, 0, none⟩) la ca, .slice (some ⟨g2, o, none⟩) lb cb]).run P W = .ok (.value (.bool false)) W := by
  have s1 : W.shape? g = some (e1, l.length) := by unfold World.shape?; unfold HpR at h; rw [h]; simp
  have s2 : W.shape? g2 = some (e2, l2.length) := by unfold World.shape?; unfold HpR at h2; rw [h2]; simp
  have f1 : ∀ j, W.frozen? ⟨g, j, none⟩ = false := fun j => by unfold World.frozen?; unfold HpR at h; simp [h]
  rw [hx, Lib.run_overlaps_apart W t 4 e hu k hS ⟨g, 0, none⟩ ⟨g2, o, none⟩ la ca lb cb hne e1 e2 l.length l2.length s1 s2 hl (f1 0) (f1 _)]
  rfl
end
end Go.Proofs.Ytodedneanlekdaa
